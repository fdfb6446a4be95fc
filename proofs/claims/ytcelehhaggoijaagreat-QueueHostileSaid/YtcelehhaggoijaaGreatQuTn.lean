import Derived.Test.YtcelehhaggoijaaGreatQuRR
import Derived.Test.YtcelehhaggoijaaGreatQuHd
import Derived.Test.YtcelehhaggoijaaGreatQuOpen
section
/-
  The walk of the law QueueTurns.
-/
set_option linter.unusedVariables false
set_option linter.unusedSimpArgs false
namespace Go.Proofs.Qu
open Go Go.RowKit Go.Proofs.Nm
theorem and_rng2 (x : Int) (m : Int) (k : Nat) (hm : m = (k : Int)) (hk : k < 4611686018427387904) : ∃ f : Nat, f ≤ k ∧ bits .and .i64 x m = (f : Int) := by
  have hb : (BitVec.ofInt IntKind.i64.bits x &&& BitVec.ofInt IntKind.i64.bits m).toNat ≤ k := by
    rw [BitVec.toNat_and]
    refine Nat.le_trans Nat.and_le_right ?_
    subst hm
    rw [BitVec.ofInt_natCast, BitVec.toNat_ofNat]
    exact Nat.mod_le _ _
  refine ⟨(BitVec.ofInt IntKind.i64.bits x &&& BitVec.ofInt IntKind.i64.bits m).toNat, hb, ?_⟩
  show IntKind.i64.wrap (((BitVec.ofInt IntKind.i64.bits x &&& BitVec.ofInt IntKind.i64.bits m).toNat : Nat) : Int) = _
  exact IntWalk.i64_in _ (by omega)
section
variable {M : List Nat} {base n i id len : Nat} (hn : okN n) (hb : base + sizeN n ≤ M.length)
include hn hb
theorem returnM_room : base + (backN n + (4 + 8 * (i % n))) + 8 ≤ M.length ∧ base + backN n + 2 + 2 ≤ base + (backN n + (4 + 8 * (i % n))) := by
  have h := offer_bnd (i := i) hn
  have h2 := Nat.mod_lt i (show 0 < n by have := hn.le; omega)
  generalize i % n = r at *
  omega
theorem returnM_len : (returnM M base n i id len).length = M.length := by
  have h := returnM_room (i := i) hn hb
  unfold returnM
  generalize base + (backN n + (4 + 8 * (i % n))) = p at *
  have e1 := putN_len (M := M) (p := p) (k := 4) (a := id) (by omega)
  have e2 := putN_len (M := putB M p (leB id 4)) (p := p + 4) (k := 4) (a := len) (by omega)
  rw [putN_len (by omega)]; omega
theorem returnM_idx : getN (returnM M base n i id len) (base + (backN n + 2)) 2 = (i + 1) % 65536 := by
  have h := returnM_room (i := i) hn hb
  unfold returnM
  generalize base + (backN n + (4 + 8 * (i % n))) = p at *
  have e1 := putN_len (M := M) (p := p) (k := 4) (a := id) (by omega)
  have e2 := putN_len (M := putB M p (leB id 4)) (p := p + 4) (k := 4) (a := len) (by omega)
  rw [show base + (backN n + 2) = base + backN n + 2 from by omega, getN_put_same (by decide) (by omega) (show (i + 1) % 65536 < 256 ^ 2 from Nat.mod_lt _ (by decide))]
theorem returnM_id (hi : id < 4294967296) : getN (returnM M base n i id len) (base + (backN n + (4 + 8 * (i % n)))) 4 = id := by
  have h := returnM_room (i := i) hn hb
  unfold returnM
  generalize base + (backN n + (4 + 8 * (i % n))) = p at *
  have e1 := putN_len (M := M) (p := p) (k := 4) (a := id) (by omega)
  have e2 := putN_len (M := putB M p (leB id 4)) (p := p + 4) (k := 4) (a := len) (by omega)
  rw [getN_put_apart (by omega) (by omega), getN_put_apart (by omega) (by omega), getN_put_same (by decide) (by omega) (by simpa using hi)]
theorem returnM_ln (hi : len < 4294967296) : getN (returnM M base n i id len) (base + (backN n + (4 + 8 * (i % n))) + 4) 4 = len := by
  have h := returnM_room (i := i) hn hb
  unfold returnM
  generalize base + (backN n + (4 + 8 * (i % n))) = p at *
  have e1 := putN_len (M := M) (p := p) (k := 4) (a := id) (by omega)
  have e2 := putN_len (M := putB M p (leB id 4)) (p := p + 4) (k := 4) (a := len) (by omega)
  rw [getN_put_apart (by omega) (by omega), getN_put_same (by decide) (by omega) (by simpa using hi)]
end
def TM0 : List Nat := List.replicate 400 0
def TL (ln : Nat) : List Pt := [(200, ln, true)]
end Go.Proofs.Qu
namespace Go.Proofs.YtcelehhaggoijaaGreat
open Go.Proofs.Qu Go.Proofs.Nm Go.RowKit Go.Proofs
theorem built_buf200 (l : Nat) : Tryz.prog.built 39 [(0, .int .i64 200), (1, .int .i64 (l : Nat)), (2, .bool true)] = some #[.int .i64 200, .int .i64 (l : Nat), .bool true] := by kernel_rfl
theorem New_T {w0 w : World} {L : List (Nat × Array Value)} {R : List (Nat × Value × List Value)} (hv : Mem w0 w L R) {mb mc : Nat} (hm : InM R mb 0 400 mc TM0) : Calls Tryz.prog 9 #[.agg #[.slice (some ⟨mb, 0, none⟩) 400 mc], .int .i64 0, .int .i64 4] w fun e w' => ∃ vb vc fa fc R' M free, e = .returned (.tuple #[.agg #[.slice (some ⟨vb, 0, none⟩) 400 vc], .agg #[.int .i64 0, .int .i64 4, .slice fa 4 fc, .int .u16 0, .int .u16 0, .slice none 0 0], .int .i64 0]) ∧ Mem w0 w' L R' ∧ Drv R' 400 vb vc (.slice fa 4 fc) (.slice none 0 0) M 4 free [] ∧ free.length = 4 ∧ ∀ x ∈ R, x ∈ R' := by
  refine (New_D hv hm 0 4 ok4 (by decide)).mono ?_
  rintro e w' ⟨vb, vc, fa, fc, R', rfl, h1, h2, h3⟩
  exact ⟨vb, vc, fa, fc, R', _, _, rfl, h1, h2, by simp, h3⟩
theorem Ret_T {w0 w : World} {L : List (Nat × Array Value)} {R : List (Nat × Value × List Value)} (hv : Mem w0 w L R) {vb vc f1 : Nat} {M : List Nat} (hm : InM R vb 0 400 vc M) (hf : f1 < 65536) : Calls Tryz.prog 11 #[.agg #[.slice (some ⟨vb, 0, none⟩) 400 vc], .int .i64 0, .int .i64 4, .int .u16 (f1 : Nat), .agg #[.int .u32 0, .int .u32 0]] w fun e w' => ∃ b c R' M', e = .returned (.tuple #[.agg #[.slice (some ⟨b, 0, none⟩) 400 c], .int .i64 0]) ∧ Mem w0 w' L R' ∧ InM R' b 0 400 c M' ∧ ∀ x ∈ R, x ∈ R' := by
  refine (RReturn_4 hv hm f1 0 0 (by omega) hf (by omega) (by omega)).mono ?_
  rintro e w' ⟨b, c, R', h⟩
  exact ⟨b, c, R', _, h⟩
theorem Add_T {w0 w : World} {L : List (Nat × Array Value)} {R : List (Nat × Value × List Value)} (hv : Mem w0 w L R) {vb vc fc cc av av1 : Nat} {fa ca : Option Addr} {M free : List Nat} (hd : Drv R 400 vb vc (.slice fa 4 fc) (.slice ca 0 cc) M 4 free []) (hfl : free.length = 4) {lv : Value} {ln : Nat} (hl : (3, lv, cellsPt (TL ln)) ∈ R) (h1 : 0 < ln) (h2 : ln ≤ 64) (hav : av < 65536) (hav1 : (av + 1) % 65536 = av1) : Calls Tryz.prog 10 #[.agg #[.slice (some ⟨vb, 0, none⟩) 400 vc], .agg #[.int .i64 0, .int .i64 4, .slice fa 4 fc, .int .u16 (av : Nat), .int .u16 (av : Nat), .slice ca 0 cc], lv] w fun e w' => ∃ vb' vc' fa fc ca cc M' free' c R' hd, e = .returned (.tuple #[.agg #[.slice (some ⟨vb', 0, none⟩) 400 vc'], .agg #[.int .i64 0, .int .i64 4, .slice fa 3 fc, .int .u16 (av1 : Nat), .int .u16 (av : Nat), .slice ca 1 cc], .int .i64 (hd : Nat), .int .i64 0]) ∧ Mem w0 w' L R' ∧ Drv R' 400 vb' vc' (.slice fa 3 fc) (.slice ca 1 cc) M' 4 free' [c] ∧ free'.length = 3 ∧ c.h = hd ∧ c.ds.length = 1 ∧ c.rm = ln ∧ getN M' (0 + (16 * 4 + 2)) 2 = av1 ∧ getN M' (0 + (16 * 4 + (4 + 2 * (av % 4)))) 2 = hd ∧ ChainAt 400 M' 0 4 hd (TL ln) ∧ hd < 4 ∧ ∀ x ∈ R, x ∈ R' := by
  have hlie : ∀ p ∈ TL ln, 0 < p.2.1 ∧ p.1 + p.2.1 ≤ 400 := fun p hp => by
    rw [show p = (200, ln, true) from List.mem_singleton.1 hp]
    exact ⟨h1, by show 200 + ln ≤ 400; omega⟩
  refine (Add_D (base := 0) (n := 4) (av := av) (la := av) hv hd (by decide) hl (Nat.zero_lt_one) (by show 1 ≤ _; omega) hlie hav).mono ?_
  rintro e w' ⟨vb', vc', fa', fc', ca', cc', c, R', rfl, hv1, hd1, e1, e2, e3, hs⟩
  have hA : AddOk 400 M 0 4 free (TL ln) := ⟨ok4, by rw [hd.m.len]; decide, hd.ok.nd, fun d hdd => hd.ok.le d (List.mem_append_left _ hdd), Nat.zero_lt_one, by show 1 ≤ _; omega, hlie, by decide⟩
  have hl1 : (TL ln).length = 1 := rfl
  rw [hl1, hfl, List.nil_append] at hd1
  rw [hl1, hfl]
  have g1 := addM_idx (av := av) hA
  rw [hav1] at g1 ⊢
  refine ⟨vb', vc', fa', fc', ca', cc', _, _, c, R', _, rfl, hv1, hd1, by rw [List.length_drop, hfl], e1, by rw [e2, List.length_take, hl1, hfl]; rfl, ?_, g1, addM_at hA, addM_chain hA, hA.hd.2, hs⟩
  rw [e3]
  show (0 + if true then ln else 0) = ln
  simp
theorem Next_T {w0 w : World} {L : List (Nat × Array Value)} {R : List (Nat × Value × List Value)} (hv : Mem w0 w L R) {vb vc av av1 hd ln : Nat} {M : List Nat} (hm : InM R vb 0 400 vc M) (hav : av < 65536) (hav1 : (av + 1) % 65536 = av1) (g1 : getN M (0 + (16 * 4 + 2)) 2 = av1) (g2 : getN M (0 + (16 * 4 + (4 + 2 * (av % 4)))) 2 = hd) (hc : ChainAt 400 M 0 4 hd (TL ln)) : Calls Tryz.prog 34 #[.agg #[.slice (some ⟨vb, 0, none⟩) 400 vc], .agg #[.int .i64 0, .int .i64 4, .int .u16 (av : Nat), .int .u16 (av : Nat)]] w fun e w' => ∃ gb go gc R', e = .returned (.tuple #[.agg #[.int .i64 0, .int .i64 4, .int .u16 (av1 : Nat), .int .u16 (av : Nat)], .int .i64 (hd : Nat), .slice (some ⟨gb, go, none⟩) 1 gc, .int .i64 0]) ∧ Mem w0 w' L R' ∧ (3, .slice (some ⟨gb, go, none⟩) 1 gc, cellsPt (TL ln)) ∈ R' ∧ ∀ x ∈ R, x ∈ R' := by
  refine (Next_M hv hm 0 4 av av ok4 (by decide) hav g1 (by omega) g2 (TL ln) hc (by show 1 ≤ 4; omega)).mono ?_
  rintro e w' ⟨v, R', rfl, hv1, hl, hs⟩
  obtain ⟨gb, go, gn, gc, rfl, hq⟩ := (hv1.rd hl).some (by show 0 < 3; omega)
  obtain ⟨_, _, _, e0, g, _⟩ := hv1.rd hl
  cases e0
  have hg : gn = 1 := by
    have : (3 : Nat) = gn * 3 := g
    omega
  subst hg
  rw [hav1]
  exact ⟨gb, go, gc, R', rfl, hv1, hl, hs⟩
theorem Give_T {w0 w : World} {L : List (Nat × Array Value)} {R : List (Nat × Value × List Value)} (hv : Mem w0 w L R) {vb vc av av1 hd ln : Nat} {M : List Nat} (hm : InM R vb 0 400 vc M) (hav : av < 65536) (hav1 : (av + 1) % 65536 = av1) (h1 : hd < 4) (h2 : ln ≤ 64) : Calls Tryz.prog 36 #[.agg #[.slice (some ⟨vb, 0, none⟩) 400 vc], .agg #[.int .i64 0, .int .i64 4, .int .u16 (av1 : Nat), .int .u16 (av : Nat)], .int .i64 (hd : Nat), .int .i64 (ln : Nat)] w fun e w' => ∃ b c R' M', e = .returned (.tuple #[.agg #[.slice (some ⟨b, 0, none⟩) 400 c], .agg #[.int .i64 0, .int .i64 4, .int .u16 (av1 : Nat), .int .u16 (av1 : Nat)], .int .i64 0]) ∧ Mem w0 w' L R' ∧ InM R' b 0 400 c M' ∧ getN M' (0 + (backN 4 + 2)) 2 = av1 ∧ getN M' (0 + (backN 4 + (4 + 8 * (av % 4)))) 4 = hd ∧ getN M' (0 + (backN 4 + (4 + 8 * (av % 4))) + 4) 4 = ln ∧ ∀ x ∈ R, x ∈ R' := by
  refine (Give_M hv hm 0 4 av1 av hd ln ok4 (by decide) hav (by omega) (by omega)).mono ?_
  rintro e w' ⟨b, c, R', rfl, hv1, hi, hs⟩
  have hb : 0 + sizeN 4 ≤ M.length := by rw [hm.len]; decide
  have g1 := returnM_idx (i := av) (id := hd) (len := ln) ok4 hb
  rw [hav1] at g1 ⊢
  exact ⟨b, c, R', _, rfl, hv1, hi, g1, returnM_id ok4 hb (by omega), returnM_ln ok4 hb (by omega), hs⟩
theorem Poll_T {w0 w : World} {L : List (Nat × Array Value)} {R : List (Nat × Value × List Value)} (hv : Mem w0 w L R) {vb vc fc cc av av1 hdn ln : Nat} {fa ca : Option Addr} {M free : List Nat} {c : Chn} (hm : InM R vb 0 400 vc M) (hq : InQ R (.slice fa 3 fc) (.slice ca 1 cc) free [c]) (ho : OkQ 4 free [c]) (hfl : free.length = 3) (hch : c.h = hdn) (hcd : c.ds.length = 1) (hcr : c.rm = ln) (hav : av < 65536) (hav1 : (av + 1) % 65536 = av1) (g1 : getN M (0 + (backN 4 + 2)) 2 = av1) (g2 : getN M (0 + (backN 4 + (4 + 8 * (av % 4)))) 4 = hdn) (g3 : getN M (0 + (backN 4 + (4 + 8 * (av % 4))) + 4) 4 = ln) : Calls Tryz.prog 12 #[.agg #[.slice (some ⟨vb, 0, none⟩) 400 vc], .agg #[.int .i64 0, .int .i64 4, .slice fa 3 fc, .int .u16 (av1 : Nat), .int .u16 (av : Nat), .slice ca 1 cc]] w fun e w' => ∃ fa fc ca cc free' R', e = .returned (.tuple #[.agg #[.int .i64 0, .int .i64 4, .slice fa 4 fc, .int .u16 (av1 : Nat), .int .u16 (av1 : Nat), .slice ca 0 cc], .int .i64 (hdn : Nat), .int .i64 (ln : Nat), .int .i64 0]) ∧ Mem w0 w' L R' ∧ Drv R' 400 vb vc (.slice fa 4 fc) (.slice ca 0 cc) M 4 free' [] ∧ free'.length = 4 ∧ ∀ x ∈ R, x ∈ R' := by
  refine (Poll_D (base := 0) (n := 4) (av := av1) (la := av) hv ⟨hm, hq, ho⟩ (by decide) (us := av1) (ah := 1) g1 (by omega) hav (by decide) (Nat.le_refl 1) (id_ := hdn) (len_ := ln) g2 g3 (at_ := 0) (c := c) (idxF_some (k := 0) (x := c) rfl (by rw [hch]; exact beq_self_eq_true _) (fun j hj => absurd hj (Nat.not_lt_zero _))) rfl (by rw [hcr]; exact Nat.le_refl _)).mono ?_
  rintro e w' ⟨fa', fc', ca', cc', free', R', rfl, hv1, hd1, hp, hs, hr⟩
  rw [hcd, hfl] at hd1 ⊢
  rw [hav1]
  exact ⟨fa', fc', ca', cc', free', R', rfl, hv1, hd1, by rw [hp.length_eq, List.length_append, hfl, hcd], hr⟩
end Go.Proofs.YtcelehhaggoijaaGreat
end

section
/-
  What the law QueueHostile calls, at its numbers.
-/
set_option linter.unusedVariables false
set_option linter.unusedSimpArgs false
namespace Go.Proofs.Qu
open Go Go.RowKit Go.Proofs.Nm
theorem ok8 : okN 8 := by unfold okN; omega
def OM0 : List Nat := List.replicate 600 0
def OL (ln : Nat) : List Pt := [(300, ln, true)]
theorem idxF_or {α : Type} (p : α → Bool) (l : List α) : idxF p l = -1 ∨ ∃ k x, idxF p l = (k : Nat) ∧ l[k]? = some x ∧ p x = true := by
  unfold idxF
  cases h : l.findIdx? p with
  | none => exact .inl rfl
  | some k =>
    obtain ⟨h1, h2, _⟩ := List.findIdx?_eq_some_iff_getElem.1 h
    exact .inr ⟨k, l[k], rfl, List.getElem?_eq_getElem h1, h2⟩
/-- How many looks there are still. -/
def looks (ah nc : Nat) : Nat := if ah ≤ nc then ah else 1
theorem looks_next {k a b : Nat} (h : k + b ≤ 9) (h2 : a + 1 ≤ b) : k + 1 + a ≤ 9 := by omega
theorem le8_next {n m : Nat} (h : n ≤ 8) (h2 : n = m + 1) : m ≤ 8 := by omega
end Go.Proofs.Qu
namespace Go.Proofs.YtcelehhaggoijaaGreat
open Go.Proofs.Qu Go.Proofs.Nm Go.RowKit Go.Proofs
theorem built_buf300 (l : Nat) : Tryz.prog.built 39 [(0, .int .i64 300), (1, .int .i64 (l : Nat)), (2, .bool true)] = some #[.int .i64 300, .int .i64 (l : Nat), .bool true] := by kernel_rfl
theorem New_O {w0 w : World} {L : List (Nat × Array Value)} {R : List (Nat × Value × List Value)} (hv : Mem w0 w L R) {mb mc : Nat} (hm : InM R mb 0 600 mc OM0) : Calls Tryz.prog 9 #[.agg #[.slice (some ⟨mb, 0, none⟩) 600 mc], .int .i64 0, .int .i64 8] w fun e w' => ∃ vb vc fa fc R' M free, e = .returned (.tuple #[.agg #[.slice (some ⟨vb, 0, none⟩) 600 vc], .agg #[.int .i64 0, .int .i64 8, .slice fa 8 fc, .int .u16 0, .int .u16 0, .slice none 0 0], .int .i64 0]) ∧ Mem w0 w' L R' ∧ Drv R' 600 vb vc (.slice fa 8 fc) (.slice none 0 0) M 8 free [] ∧ free.length = 8 ∧ ∀ x ∈ R, x ∈ R' := by
  refine (New_D hv hm 0 8 ok8 (by decide)).mono ?_
  rintro e w' ⟨vb, vc, fa, fc, R', rfl, h1, h2, h3⟩
  exact ⟨vb, vc, fa, fc, R', _, _, rfl, h1, h2, by simp, h3⟩
theorem Add_O {w0 w : World} {L : List (Nat × Array Value)} {R : List (Nat × Value × List Value)} (hv : Mem w0 w L R) {vb vc fc cc fr i : Nat} {fa ca : Option Addr} {M free : List Nat} {chs : List Chn} (hd : Drv R 600 vb vc (.slice fa fr fc) (.slice ca i cc) M 8 free chs) (hfl : free.length = fr) (hcl : chs.length = i) {lv : Value} {ln : Nat} (hl : (3, lv, cellsPt (OL ln)) ∈ R) (h1 : 0 < ln) (h2 : ln ≤ 32) (hf0 : 0 < fr) (hi : i ≤ 8) : Calls Tryz.prog 10 #[.agg #[.slice (some ⟨vb, 0, none⟩) 600 vc], .agg #[.int .i64 0, .int .i64 8, .slice fa fr fc, .int .u16 (i : Nat), .int .u16 0, .slice ca i cc], lv] w fun e w' => ∃ vb' vc' fa fc ca cc M' free' chs' R' hd, e = .returned (.tuple #[.agg #[.slice (some ⟨vb', 0, none⟩) 600 vc'], .agg #[.int .i64 0, .int .i64 8, .slice fa (fr - 1 : Nat) fc, .int .u16 ((i + 1 : Nat) : Int), .int .u16 0, .slice ca (i + 1) cc], .int .i64 (hd : Nat), .int .i64 0]) ∧ Mem w0 w' L R' ∧ Drv R' 600 vb' vc' (.slice fa (fr - 1) fc) (.slice ca (i + 1) cc) M' 8 free' chs' ∧ free'.length = fr - 1 ∧ chs'.length = i + 1 ∧ ∀ x ∈ R, x ∈ R' := by
  have hlie : ∀ p ∈ OL ln, 0 < p.2.1 ∧ p.1 + p.2.1 ≤ 600 := fun p hp => by
    rw [show p = (300, ln, true) from List.mem_singleton.1 hp]
    exact ⟨h1, by show 300 + ln ≤ 600; omega⟩
  refine (Add_D (base := 0) (n := 8) (av := i) (la := 0) hv hd (by decide) hl (Nat.zero_lt_one) (by show 1 ≤ _; omega) hlie (by omega)).mono ?_
  rintro e w' ⟨vb', vc', fa', fc', ca', cc', c, R', rfl, hv1, hd1, e1, e2, e3, hs⟩
  have hl1 : (OL ln).length = 1 := rfl
  rw [hl1, hfl, hcl] at hd1 ⊢
  rw [Nat.mod_eq_of_lt (by omega : i + 1 < 65536)]
  exact ⟨vb', vc', fa', fc', ca', cc', _, _, _, R', _, rfl, hv1, hd1, by rw [List.length_drop, hfl], by rw [List.length_append, hcl]; rfl, hs⟩
theorem Ret_O {w0 w : World} {L : List (Nat × Array Value)} {R : List (Nat × Value × List Value)} (hv : Mem w0 w L R) {vb vc i id len : Nat} {M : List Nat} (hm : InM R vb 0 600 vc M) (hi : i < 65536) (hid : id < 4294967296) (hlen : len < 4294967296) : Calls Tryz.prog 11 #[.agg #[.slice (some ⟨vb, 0, none⟩) 600 vc], .int .i64 0, .int .i64 8, .int .u16 (i : Nat), .agg #[.int .u32 (id : Nat), .int .u32 (len : Nat)]] w fun e w' => ∃ b c R' M', e = .returned (.tuple #[.agg #[.slice (some ⟨b, 0, none⟩) 600 c], .int .i64 0]) ∧ Mem w0 w' L R' ∧ InM R' b 0 600 c M' ∧ ∀ x ∈ R, x ∈ R' := by
  refine (RReturn_8 hv hm i id len (by omega) hi hid hlen).mono ?_
  rintro e w' ⟨b, c, R', h⟩
  exact ⟨b, c, R', _, h⟩
theorem Check_O {w0 w : World} {L : List (Nat × Array Value)} {R : List (Nat × Value × List Value)} (hv : Mem w0 w L R) {vb vc fc cc nf nc av la : Nat} {fa ca : Option Addr} {M free : List Nat} {chs : List Chn} (hd : Drv R 600 vb vc (.slice fa nf fc) (.slice ca nc cc) M 8 free chs) : Calls Tryz.prog 13 #[.agg #[.int .i64 0, .int .i64 8, .slice fa nf fc, .int .u16 (av : Nat), .int .u16 (la : Nat), .slice ca nc cc]] w fun e w' => e = .returned (.bool true) ∧ New w w' := QCheck_ok (base := 0) (n := 8) hv hd.q hd.ok
theorem Poll_ON {w0 w : World} {L : List (Nat × Array Value)} {R : List (Nat × Value × List Value)} (hv : Mem w0 w L R) {vb vc fc cc nf nc av la : Nat} {fa ca : Option Addr} {M free : List Nat} {chs : List Chn} (hd : Drv R 600 vb vc (.slice fa nf fc) (.slice ca nc cc) M 8 free chs) {us ah : Nat} (hus : getN M (0 + (backN 8 + 2)) 2 = us) (hah : (us + 65536 - la) % 65536 = ah) (hla : la < 65536) (h0 : ah = 0) : Calls Tryz.prog 12 #[.agg #[.slice (some ⟨vb, 0, none⟩) 600 vc], .agg #[.int .i64 0, .int .i64 8, .slice fa nf fc, .int .u16 (av : Nat), .int .u16 (la : Nat), .slice ca nc cc]] w fun e w' => e = .returned (.tuple #[.agg #[.int .i64 0, .int .i64 8, .slice fa nf fc, .int .u16 (av : Nat), .int .u16 (la : Nat), .slice ca nc cc], .int .i64 0, .int .i64 0, .int .i64 7]) ∧ New w w' := Poll_none (base := 0) (n := 8) hv hd.m hd.q hd.ok (by decide) hus hah hla h0
/-- Nothing comes of it. -/
theorem Poll_OE {w0 w : World} {L : List (Nat × Array Value)} {R : List (Nat × Value × List Value)} (hv : Mem w0 w L R) {vb vc fc cc nf nc av la : Nat} {fa ca : Option Addr} {M free : List Nat} {chs : List Chn} (hd : Drv R 600 vb vc (.slice fa nf fc) (.slice ca nc cc) M 8 free chs) (hcl : chs.length = nc) {us ah : Nat} (hus : getN M (0 + (backN 8 + 2)) 2 = us) (hus16 : us < 65536) (hah : (us + 65536 - la) % 65536 = ah) (hla : la < 65536) (h0 : ah ≠ 0) (hno : ah ≤ nc → ∀ at_ c, idxF (fun c => c.h == getN M (0 + (backN 8 + (4 + 8 * (la % 8)))) 4) chs = (at_ : Nat) → chs[at_]? = some c → c.rm < getN M (0 + (backN 8 + (4 + 8 * (la % 8))) + 4) 4) : Calls Tryz.prog 12 #[.agg #[.slice (some ⟨vb, 0, none⟩) 600 vc], .agg #[.int .i64 0, .int .i64 8, .slice fa nf fc, .int .u16 (av : Nat), .int .u16 (la : Nat), .slice ca nc cc]] w fun e w' => ∃ la' : Nat, e = .returned (.tuple #[.agg #[.int .i64 0, .int .i64 8, .slice fa nf fc, .int .u16 (av : Nat), .int .u16 (la' : Nat), .slice ca nc cc], .int .i64 0, .int .i64 0, .int .i64 80]) ∧ New w w' ∧ la' < 65536 ∧ looks ((us + 65536 - la') % 65536) nc + 1 ≤ looks ah nc := by
  by_cases h1 : nc < ah
  · refine (Poll_jump (base := 0) (n := 8) hv hd.m hd.q hd.ok (by decide) hus hah hla h0 (by omega)).mono ?_
    rintro e w' ⟨rfl, hn⟩
    refine ⟨us, rfl, hn, hus16, ?_⟩
    have : (us + 65536 - us) % 65536 = 0 := by omega
    rw [this]
    unfold looks
    rw [if_pos (Nat.zero_le _), if_neg (by omega)]
    omega
  · have hk : looks ((us + 65536 - (la + 1) % 65536) % 65536) nc + 1 ≤ looks ah nc := by
      have : (us + 65536 - (la + 1) % 65536) % 65536 = ah - 1 := by omega
      rw [this]
      unfold looks
      rw [if_pos (by omega), if_pos (by omega)]
      omega
    rcases idxF_or (fun c => c.h == getN M (0 + (backN 8 + (4 + 8 * (la % 8)))) 4) chs with hx | ⟨at_, c, hx, hc, hp⟩
    · refine (Poll_neg (base := 0) (n := 8) hv hd.m hd.q hd.ok (by decide) hus hah hla h0 (by omega) rfl rfl hx).mono ?_
      rintro e w' ⟨rfl, hn⟩
      exact ⟨_, rfl, hn, Nat.mod_lt _ (by decide), hk⟩
    · refine (Poll_big (base := 0) (n := 8) hv hd.m hd.q hd.ok (by decide) hus hah hla h0 (by omega) rfl rfl hx hc (hno (by omega) at_ c hx hc)).mono ?_
      rintro e w' ⟨rfl, hn⟩
      exact ⟨_, rfl, hn, Nat.mod_lt _ (by decide), hk⟩
theorem Poll_OY {w0 w : World} {L : List (Nat × Array Value)} {R : List (Nat × Value × List Value)} (hv : Mem w0 w L R) {vb vc fc cc nf nc av la : Nat} {fa ca : Option Addr} {M free : List Nat} {chs : List Chn} (hd : Drv R 600 vb vc (.slice fa nf fc) (.slice ca nc cc) M 8 free chs) (hcl : chs.length = nc) {us ah : Nat} (hus : getN M (0 + (backN 8 + 2)) 2 = us) (hah : (us + 65536 - la) % 65536 = ah) (hla : la < 65536) (h0 : ah ≠ 0) (h1 : ah ≤ nc) {at_ : Nat} {c : Chn} {id len nc1 : Nat} (hid : getN M (0 + (backN 8 + (4 + 8 * (la % 8)))) 4 = id) (hlen : getN M (0 + (backN 8 + (4 + 8 * (la % 8))) + 4) 4 = len) (hx : idxF (fun c => c.h == id) chs = (at_ : Nat)) (hc : chs[at_]? = some c) (hr : len ≤ c.rm) (hnc : nc = nc1 + 1) : Calls Tryz.prog 12 #[.agg #[.slice (some ⟨vb, 0, none⟩) 600 vc], .agg #[.int .i64 0, .int .i64 8, .slice fa nf fc, .int .u16 (av : Nat), .int .u16 (la : Nat), .slice ca nc cc]] w fun e w' => ∃ fa' nf' fc' ca' cc' la' free' chs' R', e = .returned (.tuple #[.agg #[.int .i64 0, .int .i64 8, (.slice fa' nf' fc'), .int .u16 (av : Nat), .int .u16 (la' : Nat), (.slice ca' nc1 cc')], .int .i64 (id : Nat), .int .i64 (len : Nat), .int .i64 0]) ∧ Mem w0 w' L R' ∧ Drv R' 600 vb vc (.slice fa' nf' fc') (.slice ca' nc1 cc') M 8 free' chs' ∧ free'.length = nf' ∧ chs'.length = nc1 ∧ la' < 65536 ∧ looks ((us + 65536 - la') % 65536) nc1 + 1 ≤ looks ah nc ∧ ∀ x ∈ R, x ∈ R' := by
  refine (Poll_D (base := 0) (n := 8) (av := av) (la := la) hv hd (by decide) hus hah hla h0 (by omega) hid hlen hx hc hr).mono ?_
  rintro e w' ⟨fa', fc', ca', cc', free', R', rfl, hv1, hd1, hp, hs, hr⟩
  have e1 : chs.length - 1 = nc1 := by omega
  rw [e1] at hd1 ⊢
  have hat := (List.getElem?_eq_some_iff.1 hc).1
  refine ⟨fa', _, fc', ca', cc', _, free', _, R', rfl, hv1, hd1, by rw [hp.length_eq, List.length_append], by rw [List.length_eraseIdx, if_pos hat, e1], Nat.mod_lt _ (by decide), ?_, hr⟩
  have : (us + 65536 - (la + 1) % 65536) % 65536 = ah - 1 := by omega
  rw [this]
  unfold looks
  rw [if_pos (by omega), if_pos (by omega)]
  omega
set_option maxRecDepth 100000 in
set_option maxHeartbeats 4000000 in
theorem had_yes {w0 w : World} {L : List (Nat × Array Value)} {R : List (Nat × Value × List Value)} (hv : Mem w0 w L R) {vb vc fc cc nf nc av la : Nat} {fa : Option Addr} {cb co : Nat} {M free : List Nat} {chs : List Chn} (hd : Drv R 600 vb vc (.slice fa nf fc) (.slice (some ⟨cb, co, none⟩) nc cc) M 8 free chs) (hcl : chs.length = nc) (hn8 : nc ≤ 8) {at_ : Nat} {c : Chn} {id len : Nat} (hc : chs[at_]? = some c) (hch : c.h = id) (hr : len ≤ c.rm) : Calls Tryz.prog 14 #[.agg #[.int .i64 0, .int .i64 8, .slice fa nf fc, .int .u16 (av : Nat), .int .u16 (la : Nat), .slice (some ⟨cb, co, none⟩) nc cc], .int .i64 (id : Nat), .int .i64 (len : Nat)] w fun e w' => e = .returned (.bool true) ∧ New w w' := by
  have HC := Lib.hid hd.q.ch
  have HCL := Lib.hid hcl
  have HAT : Hid (∀ k, k < nc → k ≤ at_ → ¬ ((chs.getD k c).h = id ∧ len ≤ (chs.getD k c).rm) → k + 1 ≤ at_) := Lib.hid (fun k hk hka hno => by
    rcases Nat.lt_or_eq_of_le hka with h | h
    · exact h
    · subst h
      rw [List.getD_eq_getElem?_getD, hc] at hno
      exact absurd ⟨hch, hr⟩ hno)
  have HTN : Hid (at_ < nc) := Lib.hid (by have := (List.getElem?_eq_some_iff.1 hc).1; omega)
  have hv0 := hv
  clear hv
  have hv : Mem w w [] R := ⟨Vars.nil w, fun x hx => ⟨(hv0.rds x hx).1, fun _ _ _ _ _ _ p hp => (List.not_mem_nil hp).elim⟩⟩
  have HN8 := Lib.hid hn8
  have y9 : decide ((0 : Int) ≤ (len : Int)) = true := decide_eq_true (by omega)
  clear hv0 hc hch hr hcl hd hn8
  go_enter Tryz.func14, Tryz.ntmps14
  go_wp2_with (first
    | ((with_reducible refine at_box (T := 32) (dst := some 3) ?_); refine wl_newb rfl #[.int .i64 0, .int .i64 8, .slice fa nf fc, .int .u16 (av : Nat), .int .u16 (la : Nat), .slice (some ⟨cb, co, none⟩) nc cc] 32 (fun _ => rfl) ?_; intro b3 w2 hm2; replace hv := hv.madeAt hm2; clear hm2))
  go_loopw [7] (fun iv wr => ∃ k : Nat, k ≤ at_ ∧ iv = .int .i64 (k : Nat) ∧ Mem w wr [(b3, #[.int .i64 0, .int .i64 8, .slice fa nf fc, .int .u16 (av : Nat), .int .u16 (la : Nat), .slice (some ⟨cb, co, none⟩) nc cc])] R) (fun iv _ => 100 - (intOf iv).toNat)
  case atStart => exact ⟨0, Nat.zero_le _, rfl, hv⟩
  case round =>
    clear hv
    obtain ⟨k, hka, rfl, hv⟩ := hrel
    have htn := HTN.out
    have hn8 := HN8.out
    have hk : k < nc := by omega
    have y1 : decide ((k : Int) < (nc : Int)) = true := decide_eq_true (by omega)
    have z1 : decide (k < nc) = true := decide_eq_true hk
    have hki : (k : Int) < (nc : Int) := by omega
    have hki8 : (k : Int) ≤ 8 := by omega
    have hkc : k < chs.length := by rw [HCL.out]; exact hk
    obtain ⟨c_h, hch⟩ : ∃ x, chs[k].h = x := ⟨_, rfl⟩
    obtain ⟨c_r, hcr⟩ : ∃ x, chs[k].rm = x := ⟨_, rfl⟩
    have hcx := chain_cells chs hkc
    have HCH : Hid ((cellsC chs)[k * 3]? = some (.int .i64 (c_h : Nat))) := Lib.hid (by
      have := congrArg (fun l => l[0]?) hcx
      simp only [List.getElem?_take, List.getElem?_drop] at this
      rw [← hch]; exact this)
    have HCR : Hid ((cellsC chs)[k * 3 + 2]? = some (.int .i64 (c_r : Nat))) := Lib.hid (by
      have := congrArg (fun l => l[2]?) hcx
      simp only [List.getElem?_take, List.getElem?_drop] at this
      rw [← hcr]; exact this)
    have HNO : Hid (¬ (c_h = id ∧ len ≤ c_r) → k + 1 ≤ at_) := Lib.hid (fun h => HAT.out k hk hka (by
      rw [List.getD_eq_getElem?_getD, List.getElem?_eq_getElem hkc, Option.getD_some, hch, hcr]; exact h))
    clear hcx hch hcr hkc htn hn8
    by_cases h1 : c_h = id
    · have e1 : ((c_h : Int) == (id : Int)) = true := by rw [h1]; simp
      by_cases h2 : len ≤ c_r
      · have e2 : decide ((len : Int) ≤ (c_r : Int)) = true := decide_eq_true (by omega)
        have e2' : decide (len ≤ c_r) = true := decide_eq_true h2
        clear h1 h2 hk hka
        go_wp2_with (first
          | ((with_reducible refine at_load (T := 30) ?_); refine wl_ldc rfl b3 5 rfl _ (hv.vars.row (by first | exact .head _ | exact .tail _ (.head _) | exact .tail _ (.tail _ (.head _)) | exact .tail _ (.tail _ (.tail _ (.head _))) | exact .tail _ (.tail _ (.tail _ (.tail _ (.head _)))) | exact .tail _ (.tail _ (.tail _ (.tail _ (.tail _ (.head _))))) | exact .tail _ (.tail _ (.tail _ (.tail _ (.tail _ (.tail _ (.head _)))))) | exact .tail _ (.tail _ (.tail _ (.tail _ (.tail _ (.tail _ (.tail _ (.head _))))))))) _ Tryz.underlying30 rfl (.slice (some ⟨cb, co, none⟩) nc cc) rfl ?_)
          | ((with_reducible refine at_load (T := 3) ?_); refine wl_rd rfl (c := cellsC chs) (hv.rd HC.out) (k * 3) rfl _ Tryz.underlying3 rfl (.int .i64 (c_h : Nat)) HCH.out ?_)
          | ((with_reducible refine at_load (T := 3) ?_); refine wl_rd rfl (c := cellsC chs) (hv.rd HC.out) (k * 3 + 2) rfl _ Tryz.underlying3 rfl (.int .i64 (c_r : Nat)) HCR.out ?_))
        try rw [Exit.noGoto_ret]
        go_ret
        exact ⟨rfl, hv.below⟩
      · have e2 : decide ((len : Int) ≤ (c_r : Int)) = false := decide_eq_false (by omega)
        have e2' : decide (len ≤ c_r) = false := decide_eq_false h2
        have HNX : Hid (k + 1 ≤ at_) := Lib.hid (HNO.out fun h => h2 h.2)
        clear h1 h2 hk hka
        go_wp2_with (first
          | ((with_reducible refine at_load (T := 30) ?_); refine wl_ldc rfl b3 5 rfl _ (hv.vars.row (by first | exact .head _ | exact .tail _ (.head _) | exact .tail _ (.tail _ (.head _)) | exact .tail _ (.tail _ (.tail _ (.head _))) | exact .tail _ (.tail _ (.tail _ (.tail _ (.head _)))) | exact .tail _ (.tail _ (.tail _ (.tail _ (.tail _ (.head _))))) | exact .tail _ (.tail _ (.tail _ (.tail _ (.tail _ (.tail _ (.head _)))))) | exact .tail _ (.tail _ (.tail _ (.tail _ (.tail _ (.tail _ (.tail _ (.head _))))))))) _ Tryz.underlying30 rfl (.slice (some ⟨cb, co, none⟩) nc cc) rfl ?_)
          | ((with_reducible refine at_load (T := 3) ?_); refine wl_rd rfl (c := cellsC chs) (hv.rd HC.out) (k * 3) rfl _ Tryz.underlying3 rfl (.int .i64 (c_h : Nat)) HCH.out ?_)
          | ((with_reducible refine at_load (T := 3) ?_); refine wl_rd rfl (c := cellsC chs) (hv.rd HC.out) (k * 3 + 2) rfl _ Tryz.underlying3 rfl (.int .i64 (c_r : Nat)) HCR.out ?_))
        have hnx := HNX.out
        go_roundw
        case rel => exact ⟨k + 1, hnx, by go_num, hv⟩
        case measure => simp [intOf]; omega
    · have e1 : ((c_h : Int) == (id : Int)) = false := beq_eq_false_iff_ne.2 (by omega)
      have HNX : Hid (k + 1 ≤ at_) := Lib.hid (HNO.out fun h => h1 h.1)
      clear h1 hk hka
      go_wp2_with (first
        | ((with_reducible refine at_load (T := 30) ?_); refine wl_ldc rfl b3 5 rfl _ (hv.vars.row (by first | exact .head _ | exact .tail _ (.head _) | exact .tail _ (.tail _ (.head _)) | exact .tail _ (.tail _ (.tail _ (.head _))) | exact .tail _ (.tail _ (.tail _ (.tail _ (.head _)))) | exact .tail _ (.tail _ (.tail _ (.tail _ (.tail _ (.head _))))) | exact .tail _ (.tail _ (.tail _ (.tail _ (.tail _ (.tail _ (.head _)))))) | exact .tail _ (.tail _ (.tail _ (.tail _ (.tail _ (.tail _ (.tail _ (.head _))))))))) _ Tryz.underlying30 rfl (.slice (some ⟨cb, co, none⟩) nc cc) rfl ?_)
        | ((with_reducible refine at_load (T := 3) ?_); refine wl_rd rfl (c := cellsC chs) (hv.rd HC.out) (k * 3) rfl _ Tryz.underlying3 rfl (.int .i64 (c_h : Nat)) HCH.out ?_)
        | ((with_reducible refine at_load (T := 3) ?_); refine wl_rd rfl (c := cellsC chs) (hv.rd HC.out) (k * 3 + 2) rfl _ Tryz.underlying3 rfl (.int .i64 (c_r : Nat)) HCR.out ?_))
      have hnx := HNX.out
      go_roundw
      case rel => exact ⟨k + 1, hnx, by go_num, hv⟩
      case measure => simp [intOf]; omega
end Go.Proofs.YtcelehhaggoijaaGreat
end

section
/-
  The walk of the law QueueHostile.
-/
set_option linter.unusedVariables false
set_option linter.unusedSimpArgs false
namespace Go.Proofs.YtcelehhaggoijaaGreat
open Go.Proofs.Qu Go.Proofs.Nm Go.RowKit Go.Proofs
set_option maxRecDepth 100000 in
set_option maxHeartbeats 4000000 in
theorem Host_c1 (la0 : Option Addr) (ln lc : Nat) (ta : Option Addr) (tn tc : Nat) (ja : Option Addr) (jn jc : Nat) (lens : List Int) (tells : List Us) (jumps : List Nat) (w : World) (R : List (Nat × Value × List Value)) (hv : Mem w w [] R) (hl : (1, .slice la0 ln lc, lens.map (Value.int .i64)) ∈ R) (ht : (2, .slice ta tn tc, cellsU tells) ∈ R) (hj : (1, .slice ja jn jc, jumps.map fun n => Value.int .u16 (n : Nat)) ∈ R) (hU : ∀ u ∈ tells, u.1 < 4294967296 ∧ u.2 < 4294967296) (hJ : ∀ x ∈ jumps, x < 65536) (h0 : 8 < ln) : Calls Tryz.prog 3 #[.slice la0 ln lc, .slice ta tn tc, .slice ja jn jc] w (fun e w' => e = .returned (.bool true) ∧ New w w') := by
  have y1 : decide ((8 : Int) < (ln : Int)) = true := decide_eq_true (by omega)
  have z1 : decide (8 < ln) = true := decide_eq_true (by omega)
  clear h0 hl ht hj hU hJ
  go_enter Tryz.func3, Tryz.ntmps3
  go_wp2_with (first
    | (go_at_call 8; (with_reducible refine (heads08 _).mono ?_); rintro e w1 ⟨rfl, hn1⟩; replace hv := hv.new hn1; clear hn1))
  go_ret
  exact ⟨rfl, hv.below⟩
set_option maxRecDepth 100000 in
set_option maxHeartbeats 4000000 in
theorem Host_c2 (la0 : Option Addr) (ln lc : Nat) (ta : Option Addr) (tn tc : Nat) (ja : Option Addr) (jn jc : Nat) (lens : List Int) (tells : List Us) (jumps : List Nat) (w : World) (R : List (Nat × Value × List Value)) (hv : Mem w w [] R) (hl : (1, .slice la0 ln lc, lens.map (Value.int .i64)) ∈ R) (ht : (2, .slice ta tn tc, cellsU tells) ∈ R) (hj : (1, .slice ja jn jc, jumps.map fun n => Value.int .u16 (n : Nat)) ∈ R) (hU : ∀ u ∈ tells, u.1 < 4294967296 ∧ u.2 < 4294967296) (hJ : ∀ x ∈ jumps, x < 65536) (h0 : ln ≤ 8) (h1 : 60 < tn) : Calls Tryz.prog 3 #[.slice la0 ln lc, .slice ta tn tc, .slice ja jn jc] w (fun e w' => e = .returned (.bool true) ∧ New w w') := by
  have y1 : decide ((8 : Int) < (ln : Int)) = false := decide_eq_false (by omega)
  have z1 : decide (8 < ln) = false := decide_eq_false (by omega)
  have y2 : decide ((60 : Int) < (tn : Int)) = true := decide_eq_true (by omega)
  have z2 : decide (60 < tn) = true := decide_eq_true (by omega)
  clear h0 h1 hl ht hj hU hJ
  go_enter Tryz.func3, Tryz.ntmps3
  go_wp2_with (first
    | (go_at_call 8; (with_reducible refine (heads08 _).mono ?_); rintro e w1 ⟨rfl, hn1⟩; replace hv := hv.new hn1; clear hn1))
  go_ret
  exact ⟨rfl, hv.below⟩
set_option maxRecDepth 100000 in
set_option maxHeartbeats 4000000 in
theorem Host_c3 (la0 : Option Addr) (ln lc : Nat) (ta : Option Addr) (tn tc : Nat) (ja : Option Addr) (jn jc : Nat) (lens : List Int) (tells : List Us) (jumps : List Nat) (w : World) (R : List (Nat × Value × List Value)) (hv : Mem w w [] R) (hl : (1, .slice la0 ln lc, lens.map (Value.int .i64)) ∈ R) (ht : (2, .slice ta tn tc, cellsU tells) ∈ R) (hj : (1, .slice ja jn jc, jumps.map fun n => Value.int .u16 (n : Nat)) ∈ R) (hU : ∀ u ∈ tells, u.1 < 4294967296 ∧ u.2 < 4294967296) (hJ : ∀ x ∈ jumps, x < 65536) (h0 : ln ≤ 8) (h1 : tn ≤ 60) (h2 : jn < tn) : Calls Tryz.prog 3 #[.slice la0 ln lc, .slice ta tn tc, .slice ja jn jc] w (fun e w' => e = .returned (.bool true) ∧ New w w') := by
  have y1 : decide ((8 : Int) < (ln : Int)) = false := decide_eq_false (by omega)
  have z1 : decide (8 < ln) = false := decide_eq_false (by omega)
  have y2 : decide ((60 : Int) < (tn : Int)) = false := decide_eq_false (by omega)
  have z2 : decide (60 < tn) = false := decide_eq_false (by omega)
  have y3 : decide ((jn : Int) < (tn : Int)) = true := decide_eq_true (by omega)
  have z3 : decide (jn < tn) = true := decide_eq_true (by omega)
  clear h0 h1 h2 hl ht hj hU hJ
  go_enter Tryz.func3, Tryz.ntmps3
  go_wp2_with (first
    | (go_at_call 8; (with_reducible refine (heads08 _).mono ?_); rintro e w1 ⟨rfl, hn1⟩; replace hv := hv.new hn1; clear hn1))
  go_ret
  exact ⟨rfl, hv.below⟩
set_option maxRecDepth 100000 in
set_option maxHeartbeats 32000000 in
theorem Host_yes (la0 : Option Addr) (ln lc : Nat) (ta : Option Addr) (tn tc : Nat) (ja : Option Addr) (jn jc : Nat) (lens : List Int) (tells : List Us) (jumps : List Nat) (w : World) (R : List (Nat × Value × List Value)) (hv : Mem w w [] R) (hl : (1, .slice la0 ln lc, lens.map (Value.int .i64)) ∈ R) (ht : (2, .slice ta tn tc, cellsU tells) ∈ R) (hj : (1, .slice ja jn jc, jumps.map fun n => Value.int .u16 (n : Nat)) ∈ R) (hU : ∀ u ∈ tells, u.1 < 4294967296 ∧ u.2 < 4294967296) (hJ : ∀ x ∈ jumps, x < 65536) (h0 : ln ≤ 8) (h1 : tn ≤ 60) (h2 : ¬ jn < tn) : Calls Tryz.prog 3 #[.slice la0 ln lc, .slice ta tn tc, .slice ja jn jc] w (fun e w' => e = .returned (.bool true) ∧ New w w') := by
  have hln : lens.length = ln := by
    obtain ⟨_, _, _, e, g, _⟩ := hv.rd hl
    cases e
    simpa using g
  have htn : tells.length = tn := by
    obtain ⟨_, _, _, e, g, _⟩ := hv.rd ht
    cases e
    rw [cellsU_len] at g
    omega
  have hjn : jumps.length = jn := by
    obtain ⟨_, _, _, e, g, _⟩ := hv.rd hj
    cases e
    simpa using g
  have HL := Lib.hid hl
  have HT := Lib.hid ht
  have HJ := Lib.hid hj
  have HLN := Lib.hid hln
  have HTN := Lib.hid htn
  have HJN := Lib.hid hjn
  have HL8 := Lib.hid h0
  have HT60 := Lib.hid h1
  have HJT : Hid (tn ≤ jn) := Lib.hid (by omega)
  have HUU := Lib.hid hU
  have HJJ := Lib.hid hJ
  have y1 : decide ((8 : Int) < (ln : Int)) = false := decide_eq_false (by omega)
  have z1 : decide (8 < ln) = false := decide_eq_false (by omega)
  have y2 : decide ((60 : Int) < (tn : Int)) = false := decide_eq_false (by omega)
  have z2 : decide (60 < tn) = false := decide_eq_false (by omega)
  have y3 : decide ((jn : Int) < (tn : Int)) = false := decide_eq_false (by omega)
  have z3 : decide (jn < tn) = false := decide_eq_false (by omega)
  clear hl ht hj hU hJ hln htn hjn h0 h1 h2
  go_enter Tryz.func3, Tryz.ntmps3
  go_wp2_with (first
    | (go_at_call 8; (with_reducible refine (heads08 _).mono ?_); rintro e w1 ⟨rfl, hn1⟩; replace hv := hv.new hn1; clear hn1)
    | ((with_reducible refine at_mkslice (T := 26) ?_); refine wl_mkz rfl 600 rfl rfl (by decide) ?_; intro b35 w2 hm2; have hv1 := Mem.yield (L1 := []) (hv.madeAt hm2) (zeros_row b35 600 (by decide)); simp only [List.nil_append] at hv1; replace hv := hv1; clear hv1 hm2; have HMZ : Hid (InM ((1, .slice (some ⟨b35, 0, none⟩) 600 600, cellsB (List.replicate 600 0)) :: R) b35 0 600 600 OM0) := Lib.hid ⟨Mem.z, by unfold OM0; simp, by decide, by decide, zeros_good 600⟩)
    | ((with_reducible refine at_build (T := 28) ?_); refine wl_build rfl _ rfl (built_mem _ _ _) ?_)
    | (go_at_call 9; (with_reducible refine (New_O hv HMZ.out).mono ?_); rintro e w1 ⟨vb, vc, fa, fc, R1, M, free, rfl, hv1, hd1, hl1, hs1⟩; replace hv := hv1; have HD := Lib.hid hd1; have HFL := Lib.hid hl1; have HSB : Hid (∀ x ∈ R, x ∈ R1) := Lib.hid (fun x hx => hs1 x (Mem.s hx)); clear hv1 hd1 hl1 hs1)
    | ((with_reducible refine at_alloc (T := 28) (dst := some 7) ?_); refine wl_newb rfl #[.slice none 0 0] 28 (fun _ => rfl) ?_; intro b7 w2 hm2; replace hv := hv.madeAt hm2; clear hm2)
    | ((with_reducible refine at_alloc (T := 32) (dst := some 8) ?_); refine wl_newb rfl #[.int .i64 0, .int .i64 0, .slice none 0 0, .int .u16 0, .int .u16 0, .slice none 0 0] 32 (fun _ => rfl) ?_; intro b8 w2 hm2; replace hv := hv.madeAt hm2; clear hm2)
    | ((with_reducible refine at_store (T := 28) ?_); refine wl_stv rfl b7 rfl _ rfl _ (hv.vars.row (by first | exact .head _ | exact .tail _ (.head _) | exact .tail _ (.tail _ (.head _)) | exact .tail _ (.tail _ (.tail _ (.head _))) | exact .tail _ (.tail _ (.tail _ (.tail _ (.head _)))) | exact .tail _ (.tail _ (.tail _ (.tail _ (.tail _ (.head _))))) | exact .tail _ (.tail _ (.tail _ (.tail _ (.tail _ (.tail _ (.head _)))))) | exact .tail _ (.tail _ (.tail _ (.tail _ (.tail _ (.tail _ (.tail _ (.head _))))))) | exact .tail _ (.tail _ (.tail _ (.tail _ (.tail _ (.tail _ (.tail _ (.tail _ (.head _)))))))) | exact .tail _ (.tail _ (.tail _ (.tail _ (.tail _ (.tail _ (.tail _ (.tail _ (.tail _ (.head _))))))))) | exact .tail _ (.tail _ (.tail _ (.tail _ (.tail _ (.tail _ (.tail _ (.tail _ (.tail _ (.tail _ (.head _)))))))))) | exact .tail _ (.tail _ (.tail _ (.tail _ (.tail _ (.tail _ (.tail _ (.tail _ (.tail _ (.tail _ (.tail _ (.head _))))))))))))) (hv.vars.sft (by first | exact .head _ | exact .tail _ (.head _) | exact .tail _ (.tail _ (.head _)) | exact .tail _ (.tail _ (.tail _ (.head _))) | exact .tail _ (.tail _ (.tail _ (.tail _ (.head _)))) | exact .tail _ (.tail _ (.tail _ (.tail _ (.tail _ (.head _))))) | exact .tail _ (.tail _ (.tail _ (.tail _ (.tail _ (.tail _ (.head _)))))) | exact .tail _ (.tail _ (.tail _ (.tail _ (.tail _ (.tail _ (.tail _ (.head _))))))) | exact .tail _ (.tail _ (.tail _ (.tail _ (.tail _ (.tail _ (.tail _ (.tail _ (.head _)))))))) | exact .tail _ (.tail _ (.tail _ (.tail _ (.tail _ (.tail _ (.tail _ (.tail _ (.tail _ (.head _))))))))) | exact .tail _ (.tail _ (.tail _ (.tail _ (.tail _ (.tail _ (.tail _ (.tail _ (.tail _ (.tail _ (.head _)))))))))) | exact .tail _ (.tail _ (.tail _ (.tail _ (.tail _ (.tail _ (.tail _ (.tail _ (.tail _ (.tail _ (.tail _ (.head _))))))))))))) 1 infoM rfl rfl (by simp [Value.oneCell']) ?_; intro w2 hw2; (first | (replace hv := hv.set 0 rfl hw2) | (replace hv := hv.set 1 rfl hw2) | (replace hv := hv.set 2 rfl hw2) | (replace hv := hv.set 3 rfl hw2) | (replace hv := hv.set 4 rfl hw2) | (replace hv := hv.set 5 rfl hw2) | (replace hv := hv.set 6 rfl hw2) | (replace hv := hv.set 7 rfl hw2) | (replace hv := hv.set 8 rfl hw2) | (replace hv := hv.set 9 rfl hw2) | (replace hv := hv.set 10 rfl hw2) | (replace hv := hv.set 11 rfl hw2)); clear hw2; simp only [List.set] at hv)
    | ((with_reducible refine at_store (T := 32) ?_); refine wl_stv rfl b8 rfl _ rfl _ (hv.vars.row (by first | exact .head _ | exact .tail _ (.head _) | exact .tail _ (.tail _ (.head _)) | exact .tail _ (.tail _ (.tail _ (.head _))) | exact .tail _ (.tail _ (.tail _ (.tail _ (.head _)))) | exact .tail _ (.tail _ (.tail _ (.tail _ (.tail _ (.head _))))) | exact .tail _ (.tail _ (.tail _ (.tail _ (.tail _ (.tail _ (.head _)))))) | exact .tail _ (.tail _ (.tail _ (.tail _ (.tail _ (.tail _ (.tail _ (.head _))))))) | exact .tail _ (.tail _ (.tail _ (.tail _ (.tail _ (.tail _ (.tail _ (.tail _ (.head _)))))))) | exact .tail _ (.tail _ (.tail _ (.tail _ (.tail _ (.tail _ (.tail _ (.tail _ (.tail _ (.head _))))))))) | exact .tail _ (.tail _ (.tail _ (.tail _ (.tail _ (.tail _ (.tail _ (.tail _ (.tail _ (.tail _ (.head _)))))))))) | exact .tail _ (.tail _ (.tail _ (.tail _ (.tail _ (.tail _ (.tail _ (.tail _ (.tail _ (.tail _ (.tail _ (.head _))))))))))))) (hv.vars.sft (by first | exact .head _ | exact .tail _ (.head _) | exact .tail _ (.tail _ (.head _)) | exact .tail _ (.tail _ (.tail _ (.head _))) | exact .tail _ (.tail _ (.tail _ (.tail _ (.head _)))) | exact .tail _ (.tail _ (.tail _ (.tail _ (.tail _ (.head _))))) | exact .tail _ (.tail _ (.tail _ (.tail _ (.tail _ (.tail _ (.head _)))))) | exact .tail _ (.tail _ (.tail _ (.tail _ (.tail _ (.tail _ (.tail _ (.head _))))))) | exact .tail _ (.tail _ (.tail _ (.tail _ (.tail _ (.tail _ (.tail _ (.tail _ (.head _)))))))) | exact .tail _ (.tail _ (.tail _ (.tail _ (.tail _ (.tail _ (.tail _ (.tail _ (.tail _ (.head _))))))))) | exact .tail _ (.tail _ (.tail _ (.tail _ (.tail _ (.tail _ (.tail _ (.tail _ (.tail _ (.tail _ (.head _)))))))))) | exact .tail _ (.tail _ (.tail _ (.tail _ (.tail _ (.tail _ (.tail _ (.tail _ (.tail _ (.tail _ (.tail _ (.head _))))))))))))) 6 infoQ rfl rfl (by simp [Value.oneCell']) ?_; intro w2 hw2; (first | (replace hv := hv.set 0 rfl hw2) | (replace hv := hv.set 1 rfl hw2) | (replace hv := hv.set 2 rfl hw2) | (replace hv := hv.set 3 rfl hw2) | (replace hv := hv.set 4 rfl hw2) | (replace hv := hv.set 5 rfl hw2) | (replace hv := hv.set 6 rfl hw2) | (replace hv := hv.set 7 rfl hw2) | (replace hv := hv.set 8 rfl hw2) | (replace hv := hv.set 9 rfl hw2) | (replace hv := hv.set 10 rfl hw2) | (replace hv := hv.set 11 rfl hw2)); clear hw2; simp only [List.set] at hv)
    | ((with_reducible refine at_load (T := 26) ?_); refine wl_ldc rfl b7 0 rfl _ (hv.vars.row (by first | exact .head _ | exact .tail _ (.head _) | exact .tail _ (.tail _ (.head _)) | exact .tail _ (.tail _ (.tail _ (.head _))) | exact .tail _ (.tail _ (.tail _ (.tail _ (.head _)))) | exact .tail _ (.tail _ (.tail _ (.tail _ (.tail _ (.head _))))) | exact .tail _ (.tail _ (.tail _ (.tail _ (.tail _ (.tail _ (.head _)))))) | exact .tail _ (.tail _ (.tail _ (.tail _ (.tail _ (.tail _ (.tail _ (.head _))))))))) _ Tryz.underlying26 rfl (.slice (some ⟨vb, 0, none⟩) 600 vc) rfl ?_))
  go_loopw [9, 10] (fun ev iv wr => ∃ ez : Int, ev = .int .i64 ez ∧ ∃ (i fr vb vc fc cc : Nat) (fa ca : Option Addr) (M free : List Nat) (chs : List Chn) (R1 : List (Nat × Value × List Value)), fr + i = 8 ∧ i ≤ ln ∧ iv = .int .i64 (i : Nat) ∧ Mem w wr [(b8, #[.int .i64 0, .int .i64 8, .slice fa fr fc, .int .u16 (i : Nat), .int .u16 0, .slice ca i cc]), (b7, #[.slice (some ⟨vb, 0, none⟩) 600 vc])] R1 ∧ Hid (Drv R1 600 vb vc (.slice fa fr fc) (.slice ca i cc) M 8 free chs) ∧ Hid (free.length = fr) ∧ Hid (chs.length = i) ∧ Hid (∀ x ∈ R, x ∈ R1)) (fun _ iv _ => 100 - (intOf iv).toNat)
  case atStart => exact ⟨0, rfl, 0, 8, vb, vc, fc, 0, fa, none, M, free, [], R1, rfl, Nat.zero_le _, rfl, hv, HD, HFL, Lib.hid rfl, HSB⟩
  case round =>
    clear hv HD HSB HMZ HFL
    obtain ⟨ez, rfl, i, fr, vb, vc, fc, cc, fa, ca, M, free, chs, R1, hfr, hi0, rfl, hv, HD, HFL, HCL, HSB⟩ := hrel
    by_cases hi : i < ln
    · have y9 : decide ((i : Int) < (ln : Int)) = true := decide_eq_true (by omega)
      have z9 : decide (i < ln) = true := decide_eq_true hi
      have hl8 := HL8.out
      have hil : i < lens.length := by rw [HLN.out]; exact hi
      obtain ⟨x, hx⟩ : ∃ x, lens[i] = x := ⟨_, rfl⟩
      have HX : Hid ((lens.map (Value.int .i64))[i]? = some (.int .i64 x)) := Lib.hid (by rw [List.getElem?_map, List.getElem?_eq_getElem hil, hx]; rfl)
      obtain ⟨f, hf, he⟩ := and_rng2 x 31 31 rfl (by decide)
      obtain ⟨pl, hpl⟩ : ∃ p, 1 + f = p := ⟨_, rfl⟩
      have q5 : IntKind.i64.wrap (1 + (f : Int)) = (pl : Int) := by rw [IntWalk.i64_in _ (by omega)]; omega
      have HP0 : Hid (0 < pl) := Lib.hid (by omega)
      have HP32 : Hid (pl ≤ 32) := Lib.hid (by omega)
      have HFR : Hid (0 < fr) := Lib.hid (by omega)
      have HI8 : Hid (i ≤ 8) := Lib.hid (by omega)
      have HFRI := Lib.hid hfr
      have hki : (i : Int) ≤ 40 := by omega
      have hkl : (i : Int) < (ln : Int) := by omega
      have HLR := Lib.hid (HSB.out _ HL.out)
      obtain ⟨lb, lo, _, _, e, hq⟩ := (hv.rd HLR.out).some (by rw [List.length_map]; omega)
      clear hq
      cases e
      have HIN := Lib.hid hi
      clear hi hi0 hl8 hil hx hf hpl hfr
      go_wp2_with (first
        | ((with_reducible refine at_load (T := 3) ?_); refine wl_rd rfl (c := lens.map (Value.int .i64)) (hv.rd HLR.out) i rfl _ Tryz.underlying3 rfl (.int .i64 x) HX.out ?_)
        | ((with_reducible refine at_build (T := 39) ?_); refine wl_build rfl _ rfl (built_buf300 pl) ?_)
        | ((with_reducible refine at_bslice (T := 40) ?_); refine wl_mkb rfl #[.int .i64 300, .int .i64 (pl : Nat), .bool true] 39 1 1 (fun w' => (by unfold execOp; go_simp)) ?_; intro b66 w2 hm2; replace hv := hv.bsl' (k := 3) (n := 1) (c := cellsPt (OL pl)) hm2 rfl rfl (by unfold maxLen; omega); replace HD := Lib.hid (HD.out.mono fun x hx => Mem.s (y := (3, Value.slice (some ⟨b66, 0, none⟩) 1 1, cellsPt (OL pl))) hx); clear hm2)
        | ((with_reducible refine at_load (T := 28) ?_); refine wl_ldv rfl b7 rfl _ (hv.vars.row (by first | exact .head _ | exact .tail _ (.head _) | exact .tail _ (.tail _ (.head _)) | exact .tail _ (.tail _ (.tail _ (.head _))) | exact .tail _ (.tail _ (.tail _ (.tail _ (.head _)))) | exact .tail _ (.tail _ (.tail _ (.tail _ (.tail _ (.head _))))) | exact .tail _ (.tail _ (.tail _ (.tail _ (.tail _ (.tail _ (.head _)))))) | exact .tail _ (.tail _ (.tail _ (.tail _ (.tail _ (.tail _ (.tail _ (.head _))))))) | exact .tail _ (.tail _ (.tail _ (.tail _ (.tail _ (.tail _ (.tail _ (.tail _ (.head _)))))))) | exact .tail _ (.tail _ (.tail _ (.tail _ (.tail _ (.tail _ (.tail _ (.tail _ (.tail _ (.head _))))))))) | exact .tail _ (.tail _ (.tail _ (.tail _ (.tail _ (.tail _ (.tail _ (.tail _ (.tail _ (.tail _ (.head _)))))))))) | exact .tail _ (.tail _ (.tail _ (.tail _ (.tail _ (.tail _ (.tail _ (.tail _ (.tail _ (.tail _ (.tail _ (.head _))))))))))))) 1 _ Tryz.underlying28 rfl infoM (by decide) rfl ?_)
        | ((with_reducible refine at_load (T := 32) ?_); refine wl_ldv rfl b8 rfl _ (hv.vars.row (by first | exact .head _ | exact .tail _ (.head _) | exact .tail _ (.tail _ (.head _)) | exact .tail _ (.tail _ (.tail _ (.head _))) | exact .tail _ (.tail _ (.tail _ (.tail _ (.head _)))) | exact .tail _ (.tail _ (.tail _ (.tail _ (.tail _ (.head _))))) | exact .tail _ (.tail _ (.tail _ (.tail _ (.tail _ (.tail _ (.head _)))))) | exact .tail _ (.tail _ (.tail _ (.tail _ (.tail _ (.tail _ (.tail _ (.head _))))))) | exact .tail _ (.tail _ (.tail _ (.tail _ (.tail _ (.tail _ (.tail _ (.tail _ (.head _)))))))) | exact .tail _ (.tail _ (.tail _ (.tail _ (.tail _ (.tail _ (.tail _ (.tail _ (.tail _ (.head _))))))))) | exact .tail _ (.tail _ (.tail _ (.tail _ (.tail _ (.tail _ (.tail _ (.tail _ (.tail _ (.tail _ (.head _)))))))))) | exact .tail _ (.tail _ (.tail _ (.tail _ (.tail _ (.tail _ (.tail _ (.tail _ (.tail _ (.tail _ (.tail _ (.head _))))))))))))) 6 _ Tryz.underlying32 rfl infoQ (by decide) rfl ?_)
        | (go_at_call 10; (with_reducible refine (Add_O hv HD.out HFL.out HCL.out Mem.z HP0.out HP32.out HFR.out HI8.out).mono ?_); rintro e w1 ⟨vb2, vc2, fa2, fc2, ca2, cc2, M2, free2, chs2, R2, hdn, rfl, hv1, hd1, g0, g1, hs1⟩; replace hv := hv1; have HD2 := Lib.hid hd1; have G0 := Lib.hid g0; have G1 := Lib.hid g1; have HS2 := Lib.hid hs1; clear hv1 hd1 g0 g1 hs1)
        | ((with_reducible refine at_store (T := 28) ?_); refine wl_stv rfl b7 rfl _ rfl _ (hv.vars.row (by first | exact .head _ | exact .tail _ (.head _) | exact .tail _ (.tail _ (.head _)) | exact .tail _ (.tail _ (.tail _ (.head _))) | exact .tail _ (.tail _ (.tail _ (.tail _ (.head _)))) | exact .tail _ (.tail _ (.tail _ (.tail _ (.tail _ (.head _))))) | exact .tail _ (.tail _ (.tail _ (.tail _ (.tail _ (.tail _ (.head _)))))) | exact .tail _ (.tail _ (.tail _ (.tail _ (.tail _ (.tail _ (.tail _ (.head _))))))) | exact .tail _ (.tail _ (.tail _ (.tail _ (.tail _ (.tail _ (.tail _ (.tail _ (.head _)))))))) | exact .tail _ (.tail _ (.tail _ (.tail _ (.tail _ (.tail _ (.tail _ (.tail _ (.tail _ (.head _))))))))) | exact .tail _ (.tail _ (.tail _ (.tail _ (.tail _ (.tail _ (.tail _ (.tail _ (.tail _ (.tail _ (.head _)))))))))) | exact .tail _ (.tail _ (.tail _ (.tail _ (.tail _ (.tail _ (.tail _ (.tail _ (.tail _ (.tail _ (.tail _ (.head _))))))))))))) (hv.vars.sft (by first | exact .head _ | exact .tail _ (.head _) | exact .tail _ (.tail _ (.head _)) | exact .tail _ (.tail _ (.tail _ (.head _))) | exact .tail _ (.tail _ (.tail _ (.tail _ (.head _)))) | exact .tail _ (.tail _ (.tail _ (.tail _ (.tail _ (.head _))))) | exact .tail _ (.tail _ (.tail _ (.tail _ (.tail _ (.tail _ (.head _)))))) | exact .tail _ (.tail _ (.tail _ (.tail _ (.tail _ (.tail _ (.tail _ (.head _))))))) | exact .tail _ (.tail _ (.tail _ (.tail _ (.tail _ (.tail _ (.tail _ (.tail _ (.head _)))))))) | exact .tail _ (.tail _ (.tail _ (.tail _ (.tail _ (.tail _ (.tail _ (.tail _ (.tail _ (.head _))))))))) | exact .tail _ (.tail _ (.tail _ (.tail _ (.tail _ (.tail _ (.tail _ (.tail _ (.tail _ (.tail _ (.head _)))))))))) | exact .tail _ (.tail _ (.tail _ (.tail _ (.tail _ (.tail _ (.tail _ (.tail _ (.tail _ (.tail _ (.tail _ (.head _))))))))))))) 1 infoM rfl rfl (by simp [Value.oneCell']) ?_; intro w2 hw2; (first | (replace hv := hv.set 0 rfl hw2) | (replace hv := hv.set 1 rfl hw2) | (replace hv := hv.set 2 rfl hw2) | (replace hv := hv.set 3 rfl hw2) | (replace hv := hv.set 4 rfl hw2) | (replace hv := hv.set 5 rfl hw2) | (replace hv := hv.set 6 rfl hw2) | (replace hv := hv.set 7 rfl hw2) | (replace hv := hv.set 8 rfl hw2) | (replace hv := hv.set 9 rfl hw2) | (replace hv := hv.set 10 rfl hw2) | (replace hv := hv.set 11 rfl hw2)); clear hw2; simp only [List.set] at hv)
        | ((with_reducible refine at_store (T := 32) ?_); refine wl_stv rfl b8 rfl _ rfl _ (hv.vars.row (by first | exact .head _ | exact .tail _ (.head _) | exact .tail _ (.tail _ (.head _)) | exact .tail _ (.tail _ (.tail _ (.head _))) | exact .tail _ (.tail _ (.tail _ (.tail _ (.head _)))) | exact .tail _ (.tail _ (.tail _ (.tail _ (.tail _ (.head _))))) | exact .tail _ (.tail _ (.tail _ (.tail _ (.tail _ (.tail _ (.head _)))))) | exact .tail _ (.tail _ (.tail _ (.tail _ (.tail _ (.tail _ (.tail _ (.head _))))))) | exact .tail _ (.tail _ (.tail _ (.tail _ (.tail _ (.tail _ (.tail _ (.tail _ (.head _)))))))) | exact .tail _ (.tail _ (.tail _ (.tail _ (.tail _ (.tail _ (.tail _ (.tail _ (.tail _ (.head _))))))))) | exact .tail _ (.tail _ (.tail _ (.tail _ (.tail _ (.tail _ (.tail _ (.tail _ (.tail _ (.tail _ (.head _)))))))))) | exact .tail _ (.tail _ (.tail _ (.tail _ (.tail _ (.tail _ (.tail _ (.tail _ (.tail _ (.tail _ (.tail _ (.head _))))))))))))) (hv.vars.sft (by first | exact .head _ | exact .tail _ (.head _) | exact .tail _ (.tail _ (.head _)) | exact .tail _ (.tail _ (.tail _ (.head _))) | exact .tail _ (.tail _ (.tail _ (.tail _ (.head _)))) | exact .tail _ (.tail _ (.tail _ (.tail _ (.tail _ (.head _))))) | exact .tail _ (.tail _ (.tail _ (.tail _ (.tail _ (.tail _ (.head _)))))) | exact .tail _ (.tail _ (.tail _ (.tail _ (.tail _ (.tail _ (.tail _ (.head _))))))) | exact .tail _ (.tail _ (.tail _ (.tail _ (.tail _ (.tail _ (.tail _ (.tail _ (.head _)))))))) | exact .tail _ (.tail _ (.tail _ (.tail _ (.tail _ (.tail _ (.tail _ (.tail _ (.tail _ (.head _))))))))) | exact .tail _ (.tail _ (.tail _ (.tail _ (.tail _ (.tail _ (.tail _ (.tail _ (.tail _ (.tail _ (.head _)))))))))) | exact .tail _ (.tail _ (.tail _ (.tail _ (.tail _ (.tail _ (.tail _ (.tail _ (.tail _ (.tail _ (.tail _ (.head _))))))))))))) 6 infoQ rfl rfl (by simp [Value.oneCell']) ?_; intro w2 hw2; (first | (replace hv := hv.set 0 rfl hw2) | (replace hv := hv.set 1 rfl hw2) | (replace hv := hv.set 2 rfl hw2) | (replace hv := hv.set 3 rfl hw2) | (replace hv := hv.set 4 rfl hw2) | (replace hv := hv.set 5 rfl hw2) | (replace hv := hv.set 6 rfl hw2) | (replace hv := hv.set 7 rfl hw2) | (replace hv := hv.set 8 rfl hw2) | (replace hv := hv.set 9 rfl hw2) | (replace hv := hv.set 10 rfl hw2) | (replace hv := hv.set 11 rfl hw2)); clear hw2; simp only [List.set] at hv))
      have hin := HIN.out
      go_roundw
      case rel => exact ⟨0, rfl, i + 1, fr - 1, vb2, vc2, fc2, cc2, fa2, ca2, M2, free2, chs2, R2, by have := HFR.out; have := HFRI.out; omega, by omega, by go_num, hv, HD2, G0, G1, Lib.hid (fun x hx => HS2.out x (Mem.s (HSB.out x hx)))⟩
      case measure => simp [intOf]; omega
    · have y9 : decide ((i : Int) < (ln : Int)) = false := decide_eq_false (by omega)
      have z9 : decide (i < ln) = false := decide_eq_false hi
      obtain rfl : ln = i := by omega
      clear hi hi0 hfr
      go_wp2
      go_loopw [12] (fun iv wr => ∃ (i vb vc la nf nc fc cc : Nat) (fa ca : Option Addr) (M free : List Nat) (chs : List Chn) (R1 : List (Nat × Value × List Value)), i ≤ tn ∧ iv = .int .i64 (i : Nat) ∧ la < 65536 ∧ nc ≤ 8 ∧ Mem w wr [(b8, #[.int .i64 0, .int .i64 8, .slice fa nf fc, .int .u16 (ln : Nat), .int .u16 (la : Nat), .slice ca nc cc]), (b7, #[.slice (some ⟨vb, 0, none⟩) 600 vc])] R1 ∧ Hid (Drv R1 600 vb vc (.slice fa nf fc) (.slice ca nc cc) M 8 free chs) ∧ Hid (free.length = nf) ∧ Hid (chs.length = nc) ∧ Hid (∀ x ∈ R, x ∈ R1)) (fun iv _ => 100 - (intOf iv).toNat)
      case atStart => exact ⟨0, vb, vc, 0, fr, ln, fc, cc, fa, ca, M, free, chs, R1, Nat.zero_le _, rfl, by decide, HL8.out, hv, HD, HFL, HCL, HSB⟩
      case round =>
        clear hv HD HSB HFL HCL
        obtain ⟨i, vb, vc, la, nf, nc, fc, cc, fa, ca, M, free, chs, R1, hi0, rfl, hla, hn8, hv, HD, HFL, HCL, HSB⟩ := hrel
        by_cases hi : i < tn
        · have y9 : decide ((i : Int) < (tn : Int)) = true := decide_eq_true (by omega)
          have z9 : decide (i < tn) = true := decide_eq_true hi
          have ht60 := HT60.out
          have hjt := HJT.out
          have hit : i < tells.length := by rw [HTN.out]; exact hi
          have hij : i < jumps.length := by rw [HJN.out]; omega
          obtain ⟨⟨ti, tl⟩, htu⟩ : ∃ u, tells[i] = u := ⟨_, rfl⟩
          obtain ⟨jx, hjx⟩ : ∃ x, jumps[i] = x := ⟨_, rfl⟩
          have htl := HUU.out tells[i] (List.getElem_mem hit)
          have hjl := HJJ.out jumps[i] (List.getElem_mem hij)
          rw [htu] at htl
          rw [hjx] at hjl
          have HTI : Hid (ti < 4294967296) := Lib.hid htl.1
          have HTL : Hid (tl < 4294967296) := Lib.hid htl.2
          have HJ16 := Lib.hid hjl
          have HTU : Hid (((cellsU tells).drop (i * 2)).take 2 = [.int .u32 (ti : Nat), .int .u32 (tl : Nat)]) := Lib.hid (by
            have := part_flat (k := 2) (en := encU) (fun _ => rfl) tells i hit
            rw [htu] at this
            exact this)
          have HJX : Hid ((jumps.map fun n => Value.int .u16 (n : Nat))[i]? = some (.int .u16 (jx : Nat))) := Lib.hid (by rw [List.getElem?_map, List.getElem?_eq_getElem hij, hjx]; rfl)
          have HLA := Lib.hid hla
          have HN8 := Lib.hid hn8
          have hki : (i : Int) ≤ 60 := by omega
          have hkt : (i : Int) < (tn : Int) := by omega
          have hkj : (i : Int) < (jn : Int) := by omega
          have HTR := Lib.hid (HSB.out _ HT.out)
          have HJR := Lib.hid (HSB.out _ HJ.out)
          obtain ⟨tb, to, _, _, e, hq⟩ := (hv.rd HTR.out).some (by rw [cellsU_len]; omega)
          clear hq
          cases e
          obtain ⟨jb, jo, _, _, e, hq⟩ := (hv.rd HJR.out).some (by rw [List.length_map]; omega)
          clear hq
          cases e
          have HPT := Lib.hid (Any.rd_start hv HTR.out)
          have HIN := Lib.hid hi
          obtain ⟨r, hr⟩ : ∃ r, jx % 8 = r := ⟨_, rfl⟩
          have q6 : (jx : Int) % 8 = (r : Int) := by omega
          clear hi hi0 ht60 hjt hit hij htu hjx htl hjl hla hn8 hr
          by_cases hr0 : r = 0
          · have yr : ((r : Int) == 0) = true := by rw [hr0]; rfl
            clear hr0
            go_wp2
            have hv0 := hv
            clear hv
            have hv : Mem w _ ([(b8, #[.int .i64 0, .int .i64 8, .slice fa nf fc, .int .u16 (ln : Nat), .int .u16 (la : Nat), .slice ca nc cc]), (b7, #[.slice (some ⟨vb, 0, none⟩) 600 vc])] ++ ([] : List (Nat × Array Value))) _ := hv0
            clear hv0
            refine Any.wp_region_cut 7 [⟨[1001], none⟩, ⟨[], none⟩, ⟨[1000], none⟩, ⟨[], none⟩, ⟨[], none⟩, ⟨[], none⟩, ⟨[], none⟩, ⟨[], none⟩, ⟨[], none⟩, ⟨[], none⟩, ⟨[], none⟩, ⟨[], none⟩] [.val, .val, .val, .val, .val, .val, .val] (by kernel_rfl) (by kernel_rfl) (hv.vars.keep (List.sublist_append_left [(b8, #[.int .i64 0, .int .i64 8, .slice fa nf fc, .int .u16 (ln : Nat), .int .u16 (la : Nat), .slice ca nc cc]), (b7, #[.slice (some ⟨vb, 0, none⟩) 600 vc])] ([] : List (Nat × Array Value)))) ?_
            simp only [Any.someVals, List.take_succ_cons, List.take_zero]
            iterate 7 apply Exists.intro
            repeat (first
              | (refine Any.E_off rfl ?_; simp only [Act.put, List.setIfInBounds_toArray, List.set_cons_succ, List.set_cons_zero])
              | (apply Any.E_pureq rfl rfl rfl
                 case h => intro K hK; go_big_quiet_op; (refine hK _ ?_; rfl)
                 case hr => exact fun _ => rfl
                 simp only [Act.put, List.setIfInBounds_toArray, List.set_cons_succ, List.set_cons_zero])
              | (apply Any.E_val rfl rfl rfl rfl
                 case h =>
                   intro E' hA K hK
                   first
                     | ((with_reducible refine Any.at_qload (T := 28) ?_); refine Any.q_ldv 1001 hA (by decide) rfl rfl 1 _ Tryz.underlying28 rfl infoM (by decide) rfl ?_; refine hK _ ?_; rfl)
                     | ((with_reducible refine Any.at_qload (T := 29) ?_); refine Any.q_ldc 1000 hA (by decide) rfl rfl _ Tryz.underlying29 rfl (.int .u16 (la : Nat)) rfl ?_; refine hK _ ?_; rfl)
                     | ((with_reducible refine Any.at_qload (T := 45) ?_); refine Any.q_rdv HPT.out (i * 2) rfl 2 _ Tryz.underlying45 rfl infoUs (by decide) #[.int .u32 (ti : Nat), .int .u32 (tl : Nat)] HTU.out rfl ?_; refine hK _ ?_; rfl)
                     | (go_big_quiet_op; first
                       | (refine hK _ ?_; rfl)
                       | (refine ⟨_, fun _ _ => rfl, ?_⟩; refine hK _ ?_; rfl)
                       | (apply Exists.intro; refine ⟨fun w1 hw1 => ?_, ?_⟩; · (first
                           | fail)
                          refine hK _ ?_; rfl))
                 case hD => rfl
                 simp only [Act.put, List.setIfInBounds_toArray, List.set_cons_succ, List.set_cons_zero])
              | ((with_reducible refine Any.at_ealloc ?_); refine Any.E_lay rfl rfl rfl (fun _ => rfl) ?_; intro B; simp only [Act.put, List.setIfInBounds_toArray, List.set_cons_succ, List.set_cons_zero])
              | ((with_reducible refine Any.at_estore (T := 28) ?_); refine Any.E_putv (T := 28) rfl rfl rfl rfl rfl rfl 1 infoM rfl rfl (by simp [Value.oneCell']) ?_; simp only [Act.put, List.setIfInBounds_toArray, List.set_cons_succ, List.set_cons_zero]))
            try any_goals exact undef
            refine Any.E_nil ?_
            intro w9 hE9
            replace hv : Mem w w9 ([(b8, #[.int .i64 0, .int .i64 8, .slice fa nf fc, .int .u16 (ln : Nat), .int .u16 (la : Nat), .slice ca nc cc]), (b7, #[.slice (some ⟨vb, 0, none⟩) 600 vc])] ++ ([] : List (Nat × Array Value))) _ := hE9.memr (L1 := [(b8, #[.int .i64 0, .int .i64 8, .slice fa nf fc, .int .u16 (ln : Nat), .int .u16 (la : Nat), .slice ca nc cc]), (b7, #[.slice (some ⟨vb, 0, none⟩) 600 vc])]) hv [1000, 1001] (by decide)
            clear hE9
            refine Any.wpOp_callv rfl rfl (Go.Proofs.enters_of Tryz.func11 (by kernel_rfl) rfl) rfl [.agg #[.slice (some ⟨vb, 0, none⟩) 600 vc], .int .i64 0, .int .i64 8, .int .u16 (la : Nat), .agg #[.int .u32 (ti : Nat), .int .u32 (tl : Nat)]] rfl ?_
            refine (Ret_O hv HD.out.m HLA.out HTI.out HTL.out).mono ?_
            rintro e w1 ⟨vb2, vc2, R2, M2, rfl, hv1, hi1, hs1⟩
            replace hv := hv1
            have HDM : Hid (Drv R2 600 vb2 vc2 (.slice fa nf fc) (.slice ca nc cc) M2 8 free chs) := Lib.hid ⟨hi1, HD.out.q.mono hs1, HD.out.ok⟩
            have HSB2 : Hid (∀ x ∈ R, x ∈ R2) := Lib.hid (fun x hx => hs1 x (HSB.out x hx))
            clear hv1 hi1 hs1
            refine ⟨_, rfl, ?_⟩
            have hv0 := hv
            clear hv
            have hv : Mem w _ ([(b8, #[.int .i64 0, .int .i64 8, .slice fa nf fc, .int .u16 (ln : Nat), .int .u16 (la : Nat), .slice ca nc cc]), (b7, #[.slice (some ⟨vb, 0, none⟩) 600 vc])] ++ ([] : List (Nat × Array Value))) _ := hv0
            clear hv0
            refine Any.wpAny_rest 8 [⟨[], none⟩, ⟨[], none⟩, ⟨[], none⟩, ⟨[1001], some 1001⟩] [.val, .val, .val, .put] (by kernel_rfl) (hv.vars.keep (List.sublist_append_left [(b8, #[.int .i64 0, .int .i64 8, .slice fa nf fc, .int .u16 (ln : Nat), .int .u16 (la : Nat), .slice ca nc cc]), (b7, #[.slice (some ⟨vb, 0, none⟩) 600 vc])] ([] : List (Nat × Array Value)))) ?_
            simp only [List.length_cons, List.length_nil, Nat.zero_add, Nat.reduceAdd, Nat.reduceSub, Any.someVals, List.drop_succ_cons, List.drop_zero]
            simp only [Act.put, List.setIfInBounds_toArray, List.set_cons_succ, List.set_cons_zero]
            iterate 4 apply Exists.intro
            repeat (first
              | (refine Any.E_off rfl ?_; simp only [Act.put, List.setIfInBounds_toArray, List.set_cons_succ, List.set_cons_zero])
              | (apply Any.E_pureq rfl rfl rfl
                 case h => intro K hK; go_big_quiet_op; (refine hK _ ?_; rfl)
                 case hr => exact fun _ => rfl
                 simp only [Act.put, List.setIfInBounds_toArray, List.set_cons_succ, List.set_cons_zero])
              | (apply Any.E_val rfl rfl rfl rfl
                 case h =>
                   intro E' hA K hK
                   first
                     | ((with_reducible refine Any.at_qload (T := 28) ?_); refine Any.q_ldv 1001 hA (by decide) rfl rfl 1 _ Tryz.underlying28 rfl infoM (by decide) rfl ?_; refine hK _ ?_; rfl)
                     | ((with_reducible refine Any.at_qload (T := 29) ?_); refine Any.q_ldc 1000 hA (by decide) rfl rfl _ Tryz.underlying29 rfl (.int .u16 (la : Nat)) rfl ?_; refine hK _ ?_; rfl)
                     | ((with_reducible refine Any.at_qload (T := 45) ?_); refine Any.q_rdv HPT.out (i * 2) rfl 2 _ Tryz.underlying45 rfl infoUs (by decide) #[.int .u32 (ti : Nat), .int .u32 (tl : Nat)] HTU.out rfl ?_; refine hK _ ?_; rfl)
                     | (go_big_quiet_op; first
                       | (refine hK _ ?_; rfl)
                       | (refine ⟨_, fun _ _ => rfl, ?_⟩; refine hK _ ?_; rfl)
                       | (apply Exists.intro; refine ⟨fun w1 hw1 => ?_, ?_⟩; · (first
                           | fail)
                          refine hK _ ?_; rfl))
                 case hD => rfl
                 simp only [Act.put, List.setIfInBounds_toArray, List.set_cons_succ, List.set_cons_zero])
              | ((with_reducible refine Any.at_ealloc ?_); refine Any.E_lay rfl rfl rfl (fun _ => rfl) ?_; intro B; simp only [Act.put, List.setIfInBounds_toArray, List.set_cons_succ, List.set_cons_zero])
              | ((with_reducible refine Any.at_estore (T := 28) ?_); refine Any.E_putv (T := 28) rfl rfl rfl rfl rfl rfl 1 infoM rfl rfl (by simp [Value.oneCell']) ?_; simp only [Act.put, List.setIfInBounds_toArray, List.set_cons_succ, List.set_cons_zero]))
            try any_goals exact undef
            refine Any.E_nil ?_
            intro w9 hE9
            replace hv : Mem w w9 ([(b8, #[.int .i64 0, .int .i64 8, .slice fa nf fc, .int .u16 (ln : Nat), .int .u16 (la : Nat), .slice ca nc cc]), (b7, #[.slice (some ⟨vb2, 0, none⟩) 600 vc2])] ++ ([] : List (Nat × Array Value))) _ := hE9.memr0 (L1 := [(b8, #[.int .i64 0, .int .i64 8, .slice fa nf fc, .int .u16 (ln : Nat), .int .u16 (la : Nat), .slice ca nc cc]), (b7, #[.slice (some ⟨vb, 0, none⟩) 600 vc])]) hv [1000, 1001] (by decide)
            clear hE9
            simp only [List.cons_append, List.nil_append] at hv
            replace HJR := Lib.hid (HSB2.out _ HJ.out)
            clear HPT
            go_wp2_with (first
              | ((with_reducible refine at_load (T := 29) ?_); refine wl_rd rfl (c := jumps.map fun n => Value.int .u16 (n : Nat)) (hv.rd HJR.out) i rfl _ Tryz.underlying29 rfl (.int .u16 (jx : Nat)) HJX.out ?_))
            clear q6 yr
            have HPT := Lib.hid (Any.rd_start hv (HSB2.out _ HT.out))
            have HPJ := Lib.hid (Any.rd_start hv HJR.out)
            have hv0 := hv
            clear hv
            have hv : Mem w _ ([(b8, #[.int .i64 0, .int .i64 8, .slice fa nf fc, .int .u16 (ln : Nat), .int .u16 (la : Nat), .slice ca nc cc]), (b7, #[.slice (some ⟨vb2, 0, none⟩) 600 vc2])] ++ ([] : List (Nat × Array Value))) _ := hv0
            clear hv0
            refine Any.wp_region_cut 9 [⟨[1001], none⟩, ⟨[], none⟩, ⟨[], none⟩, ⟨[], none⟩, ⟨[], none⟩, ⟨[], none⟩, ⟨[], none⟩, ⟨[], none⟩, ⟨[], none⟩, ⟨[], none⟩, ⟨[], none⟩, ⟨[], none⟩, ⟨[], none⟩, ⟨[], none⟩] [.val, .val, .val, .val, .val, .val, .val, .val, .val] (by kernel_rfl) (by kernel_rfl) (hv.vars.keep (List.sublist_append_left [(b8, #[.int .i64 0, .int .i64 8, .slice fa nf fc, .int .u16 (ln : Nat), .int .u16 (la : Nat), .slice ca nc cc]), (b7, #[.slice (some ⟨vb2, 0, none⟩) 600 vc2])] ([] : List (Nat × Array Value)))) ?_
            simp only [Any.someVals, List.take_succ_cons, List.take_zero]
            iterate 9 apply Exists.intro
            repeat (first
              | (refine Any.E_off rfl ?_; simp only [Act.put, List.setIfInBounds_toArray, List.set_cons_succ, List.set_cons_zero])
              | (apply Any.E_pureq rfl rfl rfl
                 case h => intro K hK; go_big_quiet_op; (refine hK _ ?_; rfl)
                 case hr => exact fun _ => rfl
                 simp only [Act.put, List.setIfInBounds_toArray, List.set_cons_succ, List.set_cons_zero])
              | (apply Any.E_val rfl rfl rfl rfl
                 case h =>
                   intro E' hA K hK
                   first
                     | ((with_reducible refine Any.at_qload (T := 28) ?_); refine Any.q_ldv 1001 hA (by decide) rfl rfl 1 _ Tryz.underlying28 rfl infoM (by decide) rfl ?_; refine hK _ ?_; rfl)
                     | ((with_reducible refine Any.at_qload (T := 29) ?_); refine Any.q_rd HPJ.out i rfl _ Tryz.underlying29 rfl (.int .u16 (jx : Nat)) HJX.out ?_; refine hK _ ?_; rfl)
                     | ((with_reducible refine Any.at_qload (T := 45) ?_); refine Any.q_rdv HPT.out (i * 2) rfl 2 _ Tryz.underlying45 rfl infoUs (by decide) #[.int .u32 (ti : Nat), .int .u32 (tl : Nat)] HTU.out rfl ?_; refine hK _ ?_; rfl)
                     | (go_big_quiet_op; first
                       | (refine hK _ ?_; rfl)
                       | (refine ⟨_, fun _ _ => rfl, ?_⟩; refine hK _ ?_; rfl)
                       | (apply Exists.intro; refine ⟨fun w1 hw1 => ?_, ?_⟩; · (first
                           | fail)
                          refine hK _ ?_; rfl))
                 case hD => rfl
                 simp only [Act.put, List.setIfInBounds_toArray, List.set_cons_succ, List.set_cons_zero])
              | ((with_reducible refine Any.at_ealloc ?_); refine Any.E_lay rfl rfl rfl (fun _ => rfl) ?_; intro B; simp only [Act.put, List.setIfInBounds_toArray, List.set_cons_succ, List.set_cons_zero])
              | ((with_reducible refine Any.at_estore (T := 28) ?_); refine Any.E_putv (T := 28) rfl rfl rfl rfl rfl rfl 1 infoM rfl rfl (by simp [Value.oneCell']) ?_; simp only [Act.put, List.setIfInBounds_toArray, List.set_cons_succ, List.set_cons_zero]))
            try any_goals exact undef
            refine Any.E_nil ?_
            intro w9 hE9
            replace hv : Mem w w9 ([(b8, #[.int .i64 0, .int .i64 8, .slice fa nf fc, .int .u16 (ln : Nat), .int .u16 (la : Nat), .slice ca nc cc]), (b7, #[.slice (some ⟨vb2, 0, none⟩) 600 vc2])] ++ ([] : List (Nat × Array Value))) _ := hE9.memr (L1 := [(b8, #[.int .i64 0, .int .i64 8, .slice fa nf fc, .int .u16 (ln : Nat), .int .u16 (la : Nat), .slice ca nc cc]), (b7, #[.slice (some ⟨vb2, 0, none⟩) 600 vc2])]) hv [1000, 1001] (by decide)
            clear hE9
            refine Any.wpOp_callv rfl rfl (Go.Proofs.enters_of Tryz.func11 (by kernel_rfl) rfl) rfl [.agg #[.slice (some ⟨vb2, 0, none⟩) 600 vc2], .int .i64 0, .int .i64 8, .int .u16 (jx : Nat), .agg #[.int .u32 (ti : Nat), .int .u32 (tl : Nat)]] rfl ?_
            refine (Ret_O hv HDM.out.m HJ16.out HTI.out HTL.out).mono ?_
            rintro e w1 ⟨vb3, vc3, R3, M3, rfl, hv1, hi1, hs1⟩
            replace hv := hv1
            replace HDM : Hid (Drv R3 600 vb3 vc3 (.slice fa nf fc) (.slice ca nc cc) M3 8 free chs) := Lib.hid ⟨hi1, HDM.out.q.mono hs1, HDM.out.ok⟩
            have HSB3 : Hid (∀ x ∈ R, x ∈ R3) := Lib.hid (fun x hx => hs1 x (HSB2.out x hx))
            clear hv1 hi1 hs1
            refine ⟨_, rfl, ?_⟩
            have hv0 := hv
            clear hv
            have hv : Mem w _ ([(b8, #[.int .i64 0, .int .i64 8, .slice fa nf fc, .int .u16 (ln : Nat), .int .u16 (la : Nat), .slice ca nc cc]), (b7, #[.slice (some ⟨vb2, 0, none⟩) 600 vc2])] ++ ([] : List (Nat × Array Value))) _ := hv0
            clear hv0
            refine Any.wpAny_rest 10 [⟨[], none⟩, ⟨[], none⟩, ⟨[], none⟩, ⟨[1001], some 1001⟩] [.val, .val, .val, .put] (by kernel_rfl) (hv.vars.keep (List.sublist_append_left [(b8, #[.int .i64 0, .int .i64 8, .slice fa nf fc, .int .u16 (ln : Nat), .int .u16 (la : Nat), .slice ca nc cc]), (b7, #[.slice (some ⟨vb2, 0, none⟩) 600 vc2])] ([] : List (Nat × Array Value)))) ?_
            simp only [List.length_cons, List.length_nil, Nat.zero_add, Nat.reduceAdd, Nat.reduceSub, Any.someVals, List.drop_succ_cons, List.drop_zero]
            simp only [Act.put, List.setIfInBounds_toArray, List.set_cons_succ, List.set_cons_zero]
            iterate 4 apply Exists.intro
            repeat (first
              | (refine Any.E_off rfl ?_; simp only [Act.put, List.setIfInBounds_toArray, List.set_cons_succ, List.set_cons_zero])
              | (apply Any.E_pureq rfl rfl rfl
                 case h => intro K hK; go_big_quiet_op; (refine hK _ ?_; rfl)
                 case hr => exact fun _ => rfl
                 simp only [Act.put, List.setIfInBounds_toArray, List.set_cons_succ, List.set_cons_zero])
              | (apply Any.E_val rfl rfl rfl rfl
                 case h =>
                   intro E' hA K hK
                   first
                     | ((with_reducible refine Any.at_qload (T := 28) ?_); refine Any.q_ldv 1001 hA (by decide) rfl rfl 1 _ Tryz.underlying28 rfl infoM (by decide) rfl ?_; refine hK _ ?_; rfl)
                     | ((with_reducible refine Any.at_qload (T := 29) ?_); refine Any.q_rd HPJ.out i rfl _ Tryz.underlying29 rfl (.int .u16 (jx : Nat)) HJX.out ?_; refine hK _ ?_; rfl)
                     | ((with_reducible refine Any.at_qload (T := 45) ?_); refine Any.q_rdv HPT.out (i * 2) rfl 2 _ Tryz.underlying45 rfl infoUs (by decide) #[.int .u32 (ti : Nat), .int .u32 (tl : Nat)] HTU.out rfl ?_; refine hK _ ?_; rfl)
                     | (go_big_quiet_op; first
                       | (refine hK _ ?_; rfl)
                       | (refine ⟨_, fun _ _ => rfl, ?_⟩; refine hK _ ?_; rfl)
                       | (apply Exists.intro; refine ⟨fun w1 hw1 => ?_, ?_⟩; · (first
                           | fail)
                          refine hK _ ?_; rfl))
                 case hD => rfl
                 simp only [Act.put, List.setIfInBounds_toArray, List.set_cons_succ, List.set_cons_zero])
              | ((with_reducible refine Any.at_ealloc ?_); refine Any.E_lay rfl rfl rfl (fun _ => rfl) ?_; intro B; simp only [Act.put, List.setIfInBounds_toArray, List.set_cons_succ, List.set_cons_zero])
              | ((with_reducible refine Any.at_estore (T := 28) ?_); refine Any.E_putv (T := 28) rfl rfl rfl rfl rfl rfl 1 infoM rfl rfl (by simp [Value.oneCell']) ?_; simp only [Act.put, List.setIfInBounds_toArray, List.set_cons_succ, List.set_cons_zero]))
            try any_goals exact undef
            refine Any.E_nil ?_
            intro w9 hE9
            replace hv : Mem w w9 ([(b8, #[.int .i64 0, .int .i64 8, .slice fa nf fc, .int .u16 (ln : Nat), .int .u16 (la : Nat), .slice ca nc cc]), (b7, #[.slice (some ⟨vb3, 0, none⟩) 600 vc3])] ++ ([] : List (Nat × Array Value))) _ := hE9.memr0 (L1 := [(b8, #[.int .i64 0, .int .i64 8, .slice fa nf fc, .int .u16 (ln : Nat), .int .u16 (la : Nat), .slice ca nc cc]), (b7, #[.slice (some ⟨vb2, 0, none⟩) 600 vc2])]) hv [1000, 1001] (by decide)
            clear hE9
            simp only [List.cons_append, List.nil_append] at hv
            clear HPT HPJ
            have HGM := HDM.out.m
            obtain ⟨us, hus⟩ : ∃ us, getN M3 (0 + (backN 8 + 2)) 2 = us := ⟨_, rfl⟩
            have HUS := Lib.hid hus
            have HU16 : Hid (us < 65536) := Lib.hid (by rw [← hus]; exact getN_lt' HGM.good _ (by decide))
            clear hus HGM
            go_wp2
            go_loopw [13] (fun kv wr => ∃ (k la nf nc fc cc : Nat) (fa ca : Option Addr) (free : List Nat) (chs : List Chn) (R2 : List (Nat × Value × List Value)), kv = .int .i64 (k : Nat) ∧ la < 65536 ∧ nc ≤ 8 ∧ Hid (k + looks ((us + 65536 - la) % 65536) nc ≤ 9) ∧ Mem w wr [(b8, #[.int .i64 0, .int .i64 8, .slice fa nf fc, .int .u16 (ln : Nat), .int .u16 (la : Nat), .slice ca nc cc]), (b7, #[.slice (some ⟨vb3, 0, none⟩) 600 vc3])] R2 ∧ Hid (Drv R2 600 vb3 vc3 (.slice fa nf fc) (.slice ca nc cc) M3 8 free chs) ∧ Hid (free.length = nf) ∧ Hid (chs.length = nc) ∧ Hid (∀ x ∈ R, x ∈ R2)) (fun kv _ => 30 - (intOf kv).toNat)
            case atStart => exact ⟨0, la, nf, nc, fc, cc, fa, ca, free, chs, R3, rfl, HLA.out, HN8.out, Lib.hid (by have := HN8.out; unfold looks; split <;> omega), hv, HDM, HFL, HCL, HSB3⟩
            case round =>
              clear hv HDM HFL HCL HSB3 HLA HN8
              obtain ⟨k, la, nf, nc, fc, cc, fa, ca, free, chs, R2, rfl, hla, hn8, HKL, hv, HD3, HFL, HCL, HSB3⟩ := hrel
              have HLA := Lib.hid hla
              have HN8 := Lib.hid hn8
              have hk9 : k ≤ 9 := by have := HKL.out; omega
              have hki : (k : Int) ≤ 9 := by omega
              have yk : decide ((20 : Int) < (k : Int)) = false := decide_eq_false (by omega)
              have zk : decide (20 < k) = false := decide_eq_false (by omega)
              have yav : ((ln : Int) != (ln : Int)) = false := by simp
              have ycn : ((nc : Int) != (nc : Int)) = false := by simp
              obtain ⟨ah, hah⟩ : ∃ ah, (us + 65536 - la) % 65536 = ah := ⟨_, rfl⟩
              have HAH := Lib.hid hah
              rw [hah] at HKL
              clear hah hla hn8 hk9
              by_cases ha0 : ah = 0
              · have HA0 := Lib.hid ha0
                clear ha0
                go_wp2_with (first
                  | ((with_reducible refine at_load (T := 28) ?_); refine wl_ldv rfl b7 rfl _ (hv.vars.row (by first | exact .head _ | exact .tail _ (.head _) | exact .tail _ (.tail _ (.head _)) | exact .tail _ (.tail _ (.tail _ (.head _))) | exact .tail _ (.tail _ (.tail _ (.tail _ (.head _)))) | exact .tail _ (.tail _ (.tail _ (.tail _ (.tail _ (.head _))))) | exact .tail _ (.tail _ (.tail _ (.tail _ (.tail _ (.tail _ (.head _)))))) | exact .tail _ (.tail _ (.tail _ (.tail _ (.tail _ (.tail _ (.tail _ (.head _))))))) | exact .tail _ (.tail _ (.tail _ (.tail _ (.tail _ (.tail _ (.tail _ (.tail _ (.head _)))))))) | exact .tail _ (.tail _ (.tail _ (.tail _ (.tail _ (.tail _ (.tail _ (.tail _ (.tail _ (.head _))))))))) | exact .tail _ (.tail _ (.tail _ (.tail _ (.tail _ (.tail _ (.tail _ (.tail _ (.tail _ (.tail _ (.head _)))))))))) | exact .tail _ (.tail _ (.tail _ (.tail _ (.tail _ (.tail _ (.tail _ (.tail _ (.tail _ (.tail _ (.tail _ (.head _))))))))))))) 1 _ Tryz.underlying28 rfl infoM (by decide) rfl ?_)
                  | ((with_reducible refine at_load (T := 32) ?_); refine wl_ldv rfl b8 rfl _ (hv.vars.row (by first | exact .head _ | exact .tail _ (.head _) | exact .tail _ (.tail _ (.head _)) | exact .tail _ (.tail _ (.tail _ (.head _))) | exact .tail _ (.tail _ (.tail _ (.tail _ (.head _)))) | exact .tail _ (.tail _ (.tail _ (.tail _ (.tail _ (.head _))))) | exact .tail _ (.tail _ (.tail _ (.tail _ (.tail _ (.tail _ (.head _)))))) | exact .tail _ (.tail _ (.tail _ (.tail _ (.tail _ (.tail _ (.tail _ (.head _))))))) | exact .tail _ (.tail _ (.tail _ (.tail _ (.tail _ (.tail _ (.tail _ (.tail _ (.head _)))))))) | exact .tail _ (.tail _ (.tail _ (.tail _ (.tail _ (.tail _ (.tail _ (.tail _ (.tail _ (.head _))))))))) | exact .tail _ (.tail _ (.tail _ (.tail _ (.tail _ (.tail _ (.tail _ (.tail _ (.tail _ (.tail _ (.head _)))))))))) | exact .tail _ (.tail _ (.tail _ (.tail _ (.tail _ (.tail _ (.tail _ (.tail _ (.tail _ (.tail _ (.tail _ (.head _))))))))))))) 6 _ Tryz.underlying32 rfl infoQ (by decide) rfl ?_)
                  | (go_at_call 12; (with_reducible refine (Poll_ON hv HD3.out HUS.out HAH.out HLA.out HA0.out).mono ?_); rintro e w1 ⟨rfl, hn1⟩; replace hv := hv.new hn1; clear hn1)
                  | ((with_reducible refine at_alloc (T := 32) (dst := some 14) ?_); refine wl_newb rfl #[.int .i64 0, .int .i64 0, .slice none 0 0, .int .u16 0, .int .u16 0, .slice none 0 0] 32 (fun _ => rfl) ?_; intro b14 w2 hm2; replace hv := hv.madeAt hm2; clear hm2)
                  | ((with_reducible refine at_store (T := 32) ?_); refine wl_stv rfl b14 rfl _ rfl _ (hv.vars.row (by first | exact .head _ | exact .tail _ (.head _) | exact .tail _ (.tail _ (.head _)) | exact .tail _ (.tail _ (.tail _ (.head _))) | exact .tail _ (.tail _ (.tail _ (.tail _ (.head _)))) | exact .tail _ (.tail _ (.tail _ (.tail _ (.tail _ (.head _))))) | exact .tail _ (.tail _ (.tail _ (.tail _ (.tail _ (.tail _ (.head _)))))) | exact .tail _ (.tail _ (.tail _ (.tail _ (.tail _ (.tail _ (.tail _ (.head _))))))) | exact .tail _ (.tail _ (.tail _ (.tail _ (.tail _ (.tail _ (.tail _ (.tail _ (.head _)))))))) | exact .tail _ (.tail _ (.tail _ (.tail _ (.tail _ (.tail _ (.tail _ (.tail _ (.tail _ (.head _))))))))) | exact .tail _ (.tail _ (.tail _ (.tail _ (.tail _ (.tail _ (.tail _ (.tail _ (.tail _ (.tail _ (.head _)))))))))) | exact .tail _ (.tail _ (.tail _ (.tail _ (.tail _ (.tail _ (.tail _ (.tail _ (.tail _ (.tail _ (.tail _ (.head _))))))))))))) (hv.vars.sft (by first | exact .head _ | exact .tail _ (.head _) | exact .tail _ (.tail _ (.head _)) | exact .tail _ (.tail _ (.tail _ (.head _))) | exact .tail _ (.tail _ (.tail _ (.tail _ (.head _)))) | exact .tail _ (.tail _ (.tail _ (.tail _ (.tail _ (.head _))))) | exact .tail _ (.tail _ (.tail _ (.tail _ (.tail _ (.tail _ (.head _)))))) | exact .tail _ (.tail _ (.tail _ (.tail _ (.tail _ (.tail _ (.tail _ (.head _))))))) | exact .tail _ (.tail _ (.tail _ (.tail _ (.tail _ (.tail _ (.tail _ (.tail _ (.head _)))))))) | exact .tail _ (.tail _ (.tail _ (.tail _ (.tail _ (.tail _ (.tail _ (.tail _ (.tail _ (.head _))))))))) | exact .tail _ (.tail _ (.tail _ (.tail _ (.tail _ (.tail _ (.tail _ (.tail _ (.tail _ (.tail _ (.head _)))))))))) | exact .tail _ (.tail _ (.tail _ (.tail _ (.tail _ (.tail _ (.tail _ (.tail _ (.tail _ (.tail _ (.tail _ (.head _))))))))))))) 6 infoQ rfl rfl (by simp [Value.oneCell']) ?_; intro w2 hw2; (first | (replace hv := hv.set 0 rfl hw2) | (replace hv := hv.set 1 rfl hw2) | (replace hv := hv.set 2 rfl hw2) | (replace hv := hv.set 3 rfl hw2) | (replace hv := hv.set 4 rfl hw2) | (replace hv := hv.set 5 rfl hw2) | (replace hv := hv.set 6 rfl hw2) | (replace hv := hv.set 7 rfl hw2) | (replace hv := hv.set 8 rfl hw2) | (replace hv := hv.set 9 rfl hw2) | (replace hv := hv.set 10 rfl hw2) | (replace hv := hv.set 11 rfl hw2)); clear hw2; simp only [List.set] at hv)
                  | ((with_reducible refine at_load (T := 32) ?_); refine wl_ldv rfl b14 rfl _ (hv.vars.row (by first | exact .head _ | exact .tail _ (.head _) | exact .tail _ (.tail _ (.head _)) | exact .tail _ (.tail _ (.tail _ (.head _))) | exact .tail _ (.tail _ (.tail _ (.tail _ (.head _)))) | exact .tail _ (.tail _ (.tail _ (.tail _ (.tail _ (.head _))))) | exact .tail _ (.tail _ (.tail _ (.tail _ (.tail _ (.tail _ (.head _)))))) | exact .tail _ (.tail _ (.tail _ (.tail _ (.tail _ (.tail _ (.tail _ (.head _))))))) | exact .tail _ (.tail _ (.tail _ (.tail _ (.tail _ (.tail _ (.tail _ (.tail _ (.head _)))))))) | exact .tail _ (.tail _ (.tail _ (.tail _ (.tail _ (.tail _ (.tail _ (.tail _ (.tail _ (.head _))))))))) | exact .tail _ (.tail _ (.tail _ (.tail _ (.tail _ (.tail _ (.tail _ (.tail _ (.tail _ (.tail _ (.head _)))))))))) | exact .tail _ (.tail _ (.tail _ (.tail _ (.tail _ (.tail _ (.tail _ (.tail _ (.tail _ (.tail _ (.tail _ (.head _))))))))))))) 6 _ Tryz.underlying32 rfl infoQ (by decide) rfl ?_)
                  | (go_at_call 13; (with_reducible refine (Check_O hv HD3.out).mono ?_); rintro e w1 ⟨rfl, hn1⟩; replace hv := hv.new hn1; clear hn1)
                  | ((with_reducible refine at_load (T := 30) ?_); refine wl_ldc rfl b14 5 rfl _ (hv.vars.row (by first | exact .head _ | exact .tail _ (.head _) | exact .tail _ (.tail _ (.head _)) | exact .tail _ (.tail _ (.tail _ (.head _))) | exact .tail _ (.tail _ (.tail _ (.tail _ (.head _)))) | exact .tail _ (.tail _ (.tail _ (.tail _ (.tail _ (.head _))))) | exact .tail _ (.tail _ (.tail _ (.tail _ (.tail _ (.tail _ (.head _)))))) | exact .tail _ (.tail _ (.tail _ (.tail _ (.tail _ (.tail _ (.tail _ (.head _))))))))) _ Tryz.underlying30 rfl (.slice ca nc cc) rfl ?_)
                  | ((with_reducible refine at_load (T := 30) ?_); refine wl_ldc rfl b8 5 rfl _ (hv.vars.row (by first | exact .head _ | exact .tail _ (.head _) | exact .tail _ (.tail _ (.head _)) | exact .tail _ (.tail _ (.tail _ (.head _))) | exact .tail _ (.tail _ (.tail _ (.tail _ (.head _)))) | exact .tail _ (.tail _ (.tail _ (.tail _ (.tail _ (.head _))))) | exact .tail _ (.tail _ (.tail _ (.tail _ (.tail _ (.tail _ (.head _)))))) | exact .tail _ (.tail _ (.tail _ (.tail _ (.tail _ (.tail _ (.tail _ (.head _))))))))) _ Tryz.underlying30 rfl (.slice ca nc cc) rfl ?_)
                  | ((with_reducible refine at_load (T := 3) ?_); refine wl_ldc rfl b14 0 rfl _ (hv.vars.row (by first | exact .head _ | exact .tail _ (.head _) | exact .tail _ (.tail _ (.head _)) | exact .tail _ (.tail _ (.tail _ (.head _))) | exact .tail _ (.tail _ (.tail _ (.tail _ (.head _)))) | exact .tail _ (.tail _ (.tail _ (.tail _ (.tail _ (.head _))))) | exact .tail _ (.tail _ (.tail _ (.tail _ (.tail _ (.tail _ (.head _)))))) | exact .tail _ (.tail _ (.tail _ (.tail _ (.tail _ (.tail _ (.tail _ (.head _))))))))) _ Tryz.underlying3 rfl (.int .i64 0) rfl ?_)
                  | ((with_reducible refine at_load (T := 3) ?_); refine wl_ldc rfl b8 0 rfl _ (hv.vars.row (by first | exact .head _ | exact .tail _ (.head _) | exact .tail _ (.tail _ (.head _)) | exact .tail _ (.tail _ (.tail _ (.head _))) | exact .tail _ (.tail _ (.tail _ (.tail _ (.head _)))) | exact .tail _ (.tail _ (.tail _ (.tail _ (.tail _ (.head _))))) | exact .tail _ (.tail _ (.tail _ (.tail _ (.tail _ (.tail _ (.head _)))))) | exact .tail _ (.tail _ (.tail _ (.tail _ (.tail _ (.tail _ (.tail _ (.head _))))))))) _ Tryz.underlying3 rfl (.int .i64 0) rfl ?_)
                  | ((with_reducible refine at_load (T := 29) ?_); refine wl_ldc rfl b14 3 rfl _ (hv.vars.row (by first | exact .head _ | exact .tail _ (.head _) | exact .tail _ (.tail _ (.head _)) | exact .tail _ (.tail _ (.tail _ (.head _))) | exact .tail _ (.tail _ (.tail _ (.tail _ (.head _)))) | exact .tail _ (.tail _ (.tail _ (.tail _ (.tail _ (.head _))))) | exact .tail _ (.tail _ (.tail _ (.tail _ (.tail _ (.tail _ (.head _)))))) | exact .tail _ (.tail _ (.tail _ (.tail _ (.tail _ (.tail _ (.tail _ (.head _))))))))) _ Tryz.underlying29 rfl (.int .u16 (ln : Nat)) rfl ?_)
                  | ((with_reducible refine at_load (T := 29) ?_); refine wl_ldc rfl b8 3 rfl _ (hv.vars.row (by first | exact .head _ | exact .tail _ (.head _) | exact .tail _ (.tail _ (.head _)) | exact .tail _ (.tail _ (.tail _ (.head _))) | exact .tail _ (.tail _ (.tail _ (.tail _ (.head _)))) | exact .tail _ (.tail _ (.tail _ (.tail _ (.tail _ (.head _))))) | exact .tail _ (.tail _ (.tail _ (.tail _ (.tail _ (.tail _ (.head _)))))) | exact .tail _ (.tail _ (.tail _ (.tail _ (.tail _ (.tail _ (.tail _ (.head _))))))))) _ Tryz.underlying29 rfl (.int .u16 (ln : Nat)) rfl ?_))
                go_wp2
                have hin := HIN.out
                go_roundw
                case rel => exact ⟨i + 1, vb3, vc3, la, nf, nc, fc, cc, fa, ca, M3, free, chs, R2, by omega, by go_num, HLA.out, HN8.out, hv.drop, HD3, HFL, HCL, HSB3⟩
                case measure => simp [intOf]; omega
              · have HA0 := Lib.hid ha0
                clear ha0
                by_cases hno : ah ≤ nc → ∀ at_ c, idxF (fun c => c.h == getN M3 (0 + (backN 8 + (4 + 8 * (la % 8)))) 4) chs = (at_ : Nat) → chs[at_]? = some c → c.rm < getN M3 (0 + (backN 8 + (4 + 8 * (la % 8))) + 4) 4
                · have HNO := Lib.hid hno
                  clear hno
                  go_wp2_with (first
                    | ((with_reducible refine at_load (T := 28) ?_); refine wl_ldv rfl b7 rfl _ (hv.vars.row (by first | exact .head _ | exact .tail _ (.head _) | exact .tail _ (.tail _ (.head _)) | exact .tail _ (.tail _ (.tail _ (.head _))) | exact .tail _ (.tail _ (.tail _ (.tail _ (.head _)))) | exact .tail _ (.tail _ (.tail _ (.tail _ (.tail _ (.head _))))) | exact .tail _ (.tail _ (.tail _ (.tail _ (.tail _ (.tail _ (.head _)))))) | exact .tail _ (.tail _ (.tail _ (.tail _ (.tail _ (.tail _ (.tail _ (.head _))))))) | exact .tail _ (.tail _ (.tail _ (.tail _ (.tail _ (.tail _ (.tail _ (.tail _ (.head _)))))))) | exact .tail _ (.tail _ (.tail _ (.tail _ (.tail _ (.tail _ (.tail _ (.tail _ (.tail _ (.head _))))))))) | exact .tail _ (.tail _ (.tail _ (.tail _ (.tail _ (.tail _ (.tail _ (.tail _ (.tail _ (.tail _ (.head _)))))))))) | exact .tail _ (.tail _ (.tail _ (.tail _ (.tail _ (.tail _ (.tail _ (.tail _ (.tail _ (.tail _ (.tail _ (.head _))))))))))))) 1 _ Tryz.underlying28 rfl infoM (by decide) rfl ?_)
                    | ((with_reducible refine at_load (T := 32) ?_); refine wl_ldv rfl b8 rfl _ (hv.vars.row (by first | exact .head _ | exact .tail _ (.head _) | exact .tail _ (.tail _ (.head _)) | exact .tail _ (.tail _ (.tail _ (.head _))) | exact .tail _ (.tail _ (.tail _ (.tail _ (.head _)))) | exact .tail _ (.tail _ (.tail _ (.tail _ (.tail _ (.head _))))) | exact .tail _ (.tail _ (.tail _ (.tail _ (.tail _ (.tail _ (.head _)))))) | exact .tail _ (.tail _ (.tail _ (.tail _ (.tail _ (.tail _ (.tail _ (.head _))))))) | exact .tail _ (.tail _ (.tail _ (.tail _ (.tail _ (.tail _ (.tail _ (.tail _ (.head _)))))))) | exact .tail _ (.tail _ (.tail _ (.tail _ (.tail _ (.tail _ (.tail _ (.tail _ (.tail _ (.head _))))))))) | exact .tail _ (.tail _ (.tail _ (.tail _ (.tail _ (.tail _ (.tail _ (.tail _ (.tail _ (.tail _ (.head _)))))))))) | exact .tail _ (.tail _ (.tail _ (.tail _ (.tail _ (.tail _ (.tail _ (.tail _ (.tail _ (.tail _ (.tail _ (.head _))))))))))))) 6 _ Tryz.underlying32 rfl infoQ (by decide) rfl ?_)
                    | (go_at_call 12; (with_reducible refine (Poll_OE hv HD3.out HCL.out HUS.out HU16.out HAH.out HLA.out HA0.out HNO.out).mono ?_); rintro e w1 ⟨la2, rfl, hn1, g1, g2⟩; replace hv := hv.new hn1; have G1 := Lib.hid g1; have G2 := Lib.hid g2; clear hn1 g1 g2)
                    | ((with_reducible refine at_alloc (T := 32) (dst := some 14) ?_); refine wl_newb rfl #[.int .i64 0, .int .i64 0, .slice none 0 0, .int .u16 0, .int .u16 0, .slice none 0 0] 32 (fun _ => rfl) ?_; intro b14 w2 hm2; replace hv := hv.madeAt hm2; clear hm2)
                    | ((with_reducible refine at_store (T := 32) ?_); refine wl_stv rfl b14 rfl _ rfl _ (hv.vars.row (by first | exact .head _ | exact .tail _ (.head _) | exact .tail _ (.tail _ (.head _)) | exact .tail _ (.tail _ (.tail _ (.head _))) | exact .tail _ (.tail _ (.tail _ (.tail _ (.head _)))) | exact .tail _ (.tail _ (.tail _ (.tail _ (.tail _ (.head _))))) | exact .tail _ (.tail _ (.tail _ (.tail _ (.tail _ (.tail _ (.head _)))))) | exact .tail _ (.tail _ (.tail _ (.tail _ (.tail _ (.tail _ (.tail _ (.head _))))))) | exact .tail _ (.tail _ (.tail _ (.tail _ (.tail _ (.tail _ (.tail _ (.tail _ (.head _)))))))) | exact .tail _ (.tail _ (.tail _ (.tail _ (.tail _ (.tail _ (.tail _ (.tail _ (.tail _ (.head _))))))))) | exact .tail _ (.tail _ (.tail _ (.tail _ (.tail _ (.tail _ (.tail _ (.tail _ (.tail _ (.tail _ (.head _)))))))))) | exact .tail _ (.tail _ (.tail _ (.tail _ (.tail _ (.tail _ (.tail _ (.tail _ (.tail _ (.tail _ (.tail _ (.head _))))))))))))) (hv.vars.sft (by first | exact .head _ | exact .tail _ (.head _) | exact .tail _ (.tail _ (.head _)) | exact .tail _ (.tail _ (.tail _ (.head _))) | exact .tail _ (.tail _ (.tail _ (.tail _ (.head _)))) | exact .tail _ (.tail _ (.tail _ (.tail _ (.tail _ (.head _))))) | exact .tail _ (.tail _ (.tail _ (.tail _ (.tail _ (.tail _ (.head _)))))) | exact .tail _ (.tail _ (.tail _ (.tail _ (.tail _ (.tail _ (.tail _ (.head _))))))) | exact .tail _ (.tail _ (.tail _ (.tail _ (.tail _ (.tail _ (.tail _ (.tail _ (.head _)))))))) | exact .tail _ (.tail _ (.tail _ (.tail _ (.tail _ (.tail _ (.tail _ (.tail _ (.tail _ (.head _))))))))) | exact .tail _ (.tail _ (.tail _ (.tail _ (.tail _ (.tail _ (.tail _ (.tail _ (.tail _ (.tail _ (.head _)))))))))) | exact .tail _ (.tail _ (.tail _ (.tail _ (.tail _ (.tail _ (.tail _ (.tail _ (.tail _ (.tail _ (.tail _ (.head _))))))))))))) 6 infoQ rfl rfl (by simp [Value.oneCell']) ?_; intro w2 hw2; (first | (replace hv := hv.set 0 rfl hw2) | (replace hv := hv.set 1 rfl hw2) | (replace hv := hv.set 2 rfl hw2) | (replace hv := hv.set 3 rfl hw2) | (replace hv := hv.set 4 rfl hw2) | (replace hv := hv.set 5 rfl hw2) | (replace hv := hv.set 6 rfl hw2) | (replace hv := hv.set 7 rfl hw2) | (replace hv := hv.set 8 rfl hw2) | (replace hv := hv.set 9 rfl hw2) | (replace hv := hv.set 10 rfl hw2) | (replace hv := hv.set 11 rfl hw2)); clear hw2; simp only [List.set] at hv)
                    | ((with_reducible refine at_load (T := 32) ?_); refine wl_ldv rfl b14 rfl _ (hv.vars.row (by first | exact .head _ | exact .tail _ (.head _) | exact .tail _ (.tail _ (.head _)) | exact .tail _ (.tail _ (.tail _ (.head _))) | exact .tail _ (.tail _ (.tail _ (.tail _ (.head _)))) | exact .tail _ (.tail _ (.tail _ (.tail _ (.tail _ (.head _))))) | exact .tail _ (.tail _ (.tail _ (.tail _ (.tail _ (.tail _ (.head _)))))) | exact .tail _ (.tail _ (.tail _ (.tail _ (.tail _ (.tail _ (.tail _ (.head _))))))) | exact .tail _ (.tail _ (.tail _ (.tail _ (.tail _ (.tail _ (.tail _ (.tail _ (.head _)))))))) | exact .tail _ (.tail _ (.tail _ (.tail _ (.tail _ (.tail _ (.tail _ (.tail _ (.tail _ (.head _))))))))) | exact .tail _ (.tail _ (.tail _ (.tail _ (.tail _ (.tail _ (.tail _ (.tail _ (.tail _ (.tail _ (.head _)))))))))) | exact .tail _ (.tail _ (.tail _ (.tail _ (.tail _ (.tail _ (.tail _ (.tail _ (.tail _ (.tail _ (.tail _ (.head _))))))))))))) 6 _ Tryz.underlying32 rfl infoQ (by decide) rfl ?_)
                    | (go_at_call 13; (with_reducible refine (Check_O hv HD3.out).mono ?_); rintro e w1 ⟨rfl, hn1⟩; replace hv := hv.new hn1; clear hn1)
                    | ((with_reducible refine at_load (T := 30) ?_); refine wl_ldc rfl b14 5 rfl _ (hv.vars.row (by first | exact .head _ | exact .tail _ (.head _) | exact .tail _ (.tail _ (.head _)) | exact .tail _ (.tail _ (.tail _ (.head _))) | exact .tail _ (.tail _ (.tail _ (.tail _ (.head _)))) | exact .tail _ (.tail _ (.tail _ (.tail _ (.tail _ (.head _))))) | exact .tail _ (.tail _ (.tail _ (.tail _ (.tail _ (.tail _ (.head _)))))) | exact .tail _ (.tail _ (.tail _ (.tail _ (.tail _ (.tail _ (.tail _ (.head _))))))))) _ Tryz.underlying30 rfl (.slice ca nc cc) rfl ?_)
                    | ((with_reducible refine at_load (T := 30) ?_); refine wl_ldc rfl b8 5 rfl _ (hv.vars.row (by first | exact .head _ | exact .tail _ (.head _) | exact .tail _ (.tail _ (.head _)) | exact .tail _ (.tail _ (.tail _ (.head _))) | exact .tail _ (.tail _ (.tail _ (.tail _ (.head _)))) | exact .tail _ (.tail _ (.tail _ (.tail _ (.tail _ (.head _))))) | exact .tail _ (.tail _ (.tail _ (.tail _ (.tail _ (.tail _ (.head _)))))) | exact .tail _ (.tail _ (.tail _ (.tail _ (.tail _ (.tail _ (.tail _ (.head _))))))))) _ Tryz.underlying30 rfl (.slice ca nc cc) rfl ?_)
                    | ((with_reducible refine at_load (T := 3) ?_); refine wl_ldc rfl b14 0 rfl _ (hv.vars.row (by first | exact .head _ | exact .tail _ (.head _) | exact .tail _ (.tail _ (.head _)) | exact .tail _ (.tail _ (.tail _ (.head _))) | exact .tail _ (.tail _ (.tail _ (.tail _ (.head _)))) | exact .tail _ (.tail _ (.tail _ (.tail _ (.tail _ (.head _))))) | exact .tail _ (.tail _ (.tail _ (.tail _ (.tail _ (.tail _ (.head _)))))) | exact .tail _ (.tail _ (.tail _ (.tail _ (.tail _ (.tail _ (.tail _ (.head _))))))))) _ Tryz.underlying3 rfl (.int .i64 0) rfl ?_)
                    | ((with_reducible refine at_load (T := 3) ?_); refine wl_ldc rfl b8 0 rfl _ (hv.vars.row (by first | exact .head _ | exact .tail _ (.head _) | exact .tail _ (.tail _ (.head _)) | exact .tail _ (.tail _ (.tail _ (.head _))) | exact .tail _ (.tail _ (.tail _ (.tail _ (.head _)))) | exact .tail _ (.tail _ (.tail _ (.tail _ (.tail _ (.head _))))) | exact .tail _ (.tail _ (.tail _ (.tail _ (.tail _ (.tail _ (.head _)))))) | exact .tail _ (.tail _ (.tail _ (.tail _ (.tail _ (.tail _ (.tail _ (.head _))))))))) _ Tryz.underlying3 rfl (.int .i64 0) rfl ?_)
                    | ((with_reducible refine at_load (T := 29) ?_); refine wl_ldc rfl b14 3 rfl _ (hv.vars.row (by first | exact .head _ | exact .tail _ (.head _) | exact .tail _ (.tail _ (.head _)) | exact .tail _ (.tail _ (.tail _ (.head _))) | exact .tail _ (.tail _ (.tail _ (.tail _ (.head _)))) | exact .tail _ (.tail _ (.tail _ (.tail _ (.tail _ (.head _))))) | exact .tail _ (.tail _ (.tail _ (.tail _ (.tail _ (.tail _ (.head _)))))) | exact .tail _ (.tail _ (.tail _ (.tail _ (.tail _ (.tail _ (.tail _ (.head _))))))))) _ Tryz.underlying29 rfl (.int .u16 (ln : Nat)) rfl ?_)
                    | ((with_reducible refine at_load (T := 29) ?_); refine wl_ldc rfl b8 3 rfl _ (hv.vars.row (by first | exact .head _ | exact .tail _ (.head _) | exact .tail _ (.tail _ (.head _)) | exact .tail _ (.tail _ (.tail _ (.head _))) | exact .tail _ (.tail _ (.tail _ (.tail _ (.head _)))) | exact .tail _ (.tail _ (.tail _ (.tail _ (.tail _ (.head _))))) | exact .tail _ (.tail _ (.tail _ (.tail _ (.tail _ (.tail _ (.head _)))))) | exact .tail _ (.tail _ (.tail _ (.tail _ (.tail _ (.tail _ (.tail _ (.head _))))))))) _ Tryz.underlying29 rfl (.int .u16 (ln : Nat)) rfl ?_)
                    | ((with_reducible refine at_store (T := 32) ?_); refine wl_stv rfl b8 rfl _ rfl _ (hv.vars.row (by first | exact .head _ | exact .tail _ (.head _) | exact .tail _ (.tail _ (.head _)) | exact .tail _ (.tail _ (.tail _ (.head _))) | exact .tail _ (.tail _ (.tail _ (.tail _ (.head _)))) | exact .tail _ (.tail _ (.tail _ (.tail _ (.tail _ (.head _))))) | exact .tail _ (.tail _ (.tail _ (.tail _ (.tail _ (.tail _ (.head _)))))) | exact .tail _ (.tail _ (.tail _ (.tail _ (.tail _ (.tail _ (.tail _ (.head _))))))) | exact .tail _ (.tail _ (.tail _ (.tail _ (.tail _ (.tail _ (.tail _ (.tail _ (.head _)))))))) | exact .tail _ (.tail _ (.tail _ (.tail _ (.tail _ (.tail _ (.tail _ (.tail _ (.tail _ (.head _))))))))) | exact .tail _ (.tail _ (.tail _ (.tail _ (.tail _ (.tail _ (.tail _ (.tail _ (.tail _ (.tail _ (.head _)))))))))) | exact .tail _ (.tail _ (.tail _ (.tail _ (.tail _ (.tail _ (.tail _ (.tail _ (.tail _ (.tail _ (.tail _ (.head _))))))))))))) (hv.vars.sft (by first | exact .head _ | exact .tail _ (.head _) | exact .tail _ (.tail _ (.head _)) | exact .tail _ (.tail _ (.tail _ (.head _))) | exact .tail _ (.tail _ (.tail _ (.tail _ (.head _)))) | exact .tail _ (.tail _ (.tail _ (.tail _ (.tail _ (.head _))))) | exact .tail _ (.tail _ (.tail _ (.tail _ (.tail _ (.tail _ (.head _)))))) | exact .tail _ (.tail _ (.tail _ (.tail _ (.tail _ (.tail _ (.tail _ (.head _))))))) | exact .tail _ (.tail _ (.tail _ (.tail _ (.tail _ (.tail _ (.tail _ (.tail _ (.head _)))))))) | exact .tail _ (.tail _ (.tail _ (.tail _ (.tail _ (.tail _ (.tail _ (.tail _ (.tail _ (.head _))))))))) | exact .tail _ (.tail _ (.tail _ (.tail _ (.tail _ (.tail _ (.tail _ (.tail _ (.tail _ (.tail _ (.head _)))))))))) | exact .tail _ (.tail _ (.tail _ (.tail _ (.tail _ (.tail _ (.tail _ (.tail _ (.tail _ (.tail _ (.tail _ (.head _))))))))))))) 6 infoQ rfl rfl (by simp [Value.oneCell']) ?_; intro w2 hw2; (first | (replace hv := hv.set 0 rfl hw2) | (replace hv := hv.set 1 rfl hw2) | (replace hv := hv.set 2 rfl hw2) | (replace hv := hv.set 3 rfl hw2) | (replace hv := hv.set 4 rfl hw2) | (replace hv := hv.set 5 rfl hw2) | (replace hv := hv.set 6 rfl hw2) | (replace hv := hv.set 7 rfl hw2) | (replace hv := hv.set 8 rfl hw2) | (replace hv := hv.set 9 rfl hw2) | (replace hv := hv.set 10 rfl hw2) | (replace hv := hv.set 11 rfl hw2)); clear hw2; simp only [List.set] at hv))
                  go_roundw
                  case rel => exact ⟨k + 1, la2, nf, nc, fc, cc, fa, ca, free, chs, R2, by go_num, G1.out, HN8.out, Lib.hid (looks_next HKL.out G2.out), hv.drop, HD3, HFL, HCL, HSB3⟩
                  case measure => simp [intOf]; omega
                · have ⟨h1, at_, c, hix, hat, hrm⟩ : ah ≤ nc ∧ ∃ at_ c, idxF (fun c => c.h == getN M3 (0 + (backN 8 + (4 + 8 * (la % 8)))) 4) chs = (at_ : Nat) ∧ chs[at_]? = some c ∧ getN M3 (0 + (backN 8 + (4 + 8 * (la % 8))) + 4) 4 ≤ c.rm := by
                    apply Classical.byContradiction
                    intro hcon
                    exact hno fun h1 at_ c h2 h3 => by
                      apply Classical.byContradiction
                      intro h4
                      exact hcon ⟨h1, at_, c, h2, h3, by omega⟩
                  obtain ⟨id_, hid⟩ : ∃ x, getN M3 (0 + (backN 8 + (4 + 8 * (la % 8)))) 4 = x := ⟨_, rfl⟩
                  obtain ⟨len_, hlen⟩ : ∃ x, getN M3 (0 + (backN 8 + (4 + 8 * (la % 8))) + 4) 4 = x := ⟨_, rfl⟩
                  rw [hid] at hix
                  rw [hlen] at hrm
                  have HIDE := Lib.hid hid
                  have HLENE := Lib.hid hlen
                  have HIX := Lib.hid hix
                  have HAT := Lib.hid hat
                  have HRM := Lib.hid hrm
                  have HA1 := Lib.hid h1
                  have HCID : Hid (c.h = id_) := Lib.hid (by
                    rcases idxF_or (fun c => c.h == id_) chs with hx | ⟨k2, x, hx, hc, hp⟩
                    · rw [hix] at hx; omega
                    · have : at_ = k2 := by rw [hix] at hx; omega
                      subst this
                      rw [hat] at hc
                      cases hc
                      simpa using hp)
                  have hatl := (List.getElem?_eq_some_iff.1 hat).1
                  have hcl := HCL.out
                  obtain ⟨nc1, hnc1⟩ : ∃ m, nc = m + 1 := ⟨nc - 1, by omega⟩
                  have HNC1 := Lib.hid hnc1
                  have q9 : IntKind.i64.wrap ((nc : Int) - 1) = (nc1 : Int) := by rw [IntWalk.i64_in _ (by have := HN8.out; omega)]; omega
                  have yn1 : ((nc1 : Int) != (nc1 : Int)) = false := by simp
                  obtain ⟨cb, co, _, _, e9, hq9⟩ := (hv.rd HD3.out.q.ch).some (by rw [cellsC_len]; omega)
                  clear hq9
                  cases e9
                  clear hno h1 hix hat hrm hid hlen hatl hcl hnc1
                  go_wp2_with (first
                    | ((with_reducible refine at_load (T := 28) ?_); refine wl_ldv rfl b7 rfl _ (hv.vars.row (by first | exact .head _ | exact .tail _ (.head _) | exact .tail _ (.tail _ (.head _)) | exact .tail _ (.tail _ (.tail _ (.head _))) | exact .tail _ (.tail _ (.tail _ (.tail _ (.head _)))) | exact .tail _ (.tail _ (.tail _ (.tail _ (.tail _ (.head _))))) | exact .tail _ (.tail _ (.tail _ (.tail _ (.tail _ (.tail _ (.head _)))))) | exact .tail _ (.tail _ (.tail _ (.tail _ (.tail _ (.tail _ (.tail _ (.head _))))))) | exact .tail _ (.tail _ (.tail _ (.tail _ (.tail _ (.tail _ (.tail _ (.tail _ (.head _)))))))) | exact .tail _ (.tail _ (.tail _ (.tail _ (.tail _ (.tail _ (.tail _ (.tail _ (.tail _ (.head _))))))))) | exact .tail _ (.tail _ (.tail _ (.tail _ (.tail _ (.tail _ (.tail _ (.tail _ (.tail _ (.tail _ (.head _)))))))))) | exact .tail _ (.tail _ (.tail _ (.tail _ (.tail _ (.tail _ (.tail _ (.tail _ (.tail _ (.tail _ (.tail _ (.head _))))))))))))) 1 _ Tryz.underlying28 rfl infoM (by decide) rfl ?_)
                    | ((with_reducible refine at_load (T := 32) ?_); refine wl_ldv rfl b8 rfl _ (hv.vars.row (by first | exact .head _ | exact .tail _ (.head _) | exact .tail _ (.tail _ (.head _)) | exact .tail _ (.tail _ (.tail _ (.head _))) | exact .tail _ (.tail _ (.tail _ (.tail _ (.head _)))) | exact .tail _ (.tail _ (.tail _ (.tail _ (.tail _ (.head _))))) | exact .tail _ (.tail _ (.tail _ (.tail _ (.tail _ (.tail _ (.head _)))))) | exact .tail _ (.tail _ (.tail _ (.tail _ (.tail _ (.tail _ (.tail _ (.head _))))))) | exact .tail _ (.tail _ (.tail _ (.tail _ (.tail _ (.tail _ (.tail _ (.tail _ (.head _)))))))) | exact .tail _ (.tail _ (.tail _ (.tail _ (.tail _ (.tail _ (.tail _ (.tail _ (.tail _ (.head _))))))))) | exact .tail _ (.tail _ (.tail _ (.tail _ (.tail _ (.tail _ (.tail _ (.tail _ (.tail _ (.tail _ (.head _)))))))))) | exact .tail _ (.tail _ (.tail _ (.tail _ (.tail _ (.tail _ (.tail _ (.tail _ (.tail _ (.tail _ (.tail _ (.head _))))))))))))) 6 _ Tryz.underlying32 rfl infoQ (by decide) rfl ?_)
                    | (go_at_call 12; (with_reducible refine (Poll_OY hv HD3.out HCL.out HUS.out HAH.out HLA.out HA0.out HA1.out HIDE.out HLENE.out HIX.out HAT.out HRM.out HNC1.out).mono ?_); rintro e w1 ⟨fa2, nf2, fc2, ca2, cc2, la2, free2, chs2, R3, rfl, hv1, hd1, g0, g1, g2, g3, hs1⟩; replace hv := hv1; have HDN := Lib.hid hd1; have G0 := Lib.hid g0; have G1 := Lib.hid g1; have G2 := Lib.hid g2; have G3 := Lib.hid g3; have HS3 := Lib.hid hs1; clear hv1 hd1 g0 g1 g2 g3 hs1)
                    | ((with_reducible refine at_alloc (T := 32) (dst := some 14) ?_); refine wl_newb rfl #[.int .i64 0, .int .i64 0, .slice none 0 0, .int .u16 0, .int .u16 0, .slice none 0 0] 32 (fun _ => rfl) ?_; intro b14 w2 hm2; replace hv := hv.madeAt hm2; clear hm2)
                    | ((with_reducible refine at_store (T := 32) ?_); refine wl_stv rfl b14 rfl _ rfl _ (hv.vars.row (by first | exact .head _ | exact .tail _ (.head _) | exact .tail _ (.tail _ (.head _)) | exact .tail _ (.tail _ (.tail _ (.head _))) | exact .tail _ (.tail _ (.tail _ (.tail _ (.head _)))) | exact .tail _ (.tail _ (.tail _ (.tail _ (.tail _ (.head _))))) | exact .tail _ (.tail _ (.tail _ (.tail _ (.tail _ (.tail _ (.head _)))))) | exact .tail _ (.tail _ (.tail _ (.tail _ (.tail _ (.tail _ (.tail _ (.head _))))))) | exact .tail _ (.tail _ (.tail _ (.tail _ (.tail _ (.tail _ (.tail _ (.tail _ (.head _)))))))) | exact .tail _ (.tail _ (.tail _ (.tail _ (.tail _ (.tail _ (.tail _ (.tail _ (.tail _ (.head _))))))))) | exact .tail _ (.tail _ (.tail _ (.tail _ (.tail _ (.tail _ (.tail _ (.tail _ (.tail _ (.tail _ (.head _)))))))))) | exact .tail _ (.tail _ (.tail _ (.tail _ (.tail _ (.tail _ (.tail _ (.tail _ (.tail _ (.tail _ (.tail _ (.head _))))))))))))) (hv.vars.sft (by first | exact .head _ | exact .tail _ (.head _) | exact .tail _ (.tail _ (.head _)) | exact .tail _ (.tail _ (.tail _ (.head _))) | exact .tail _ (.tail _ (.tail _ (.tail _ (.head _)))) | exact .tail _ (.tail _ (.tail _ (.tail _ (.tail _ (.head _))))) | exact .tail _ (.tail _ (.tail _ (.tail _ (.tail _ (.tail _ (.head _)))))) | exact .tail _ (.tail _ (.tail _ (.tail _ (.tail _ (.tail _ (.tail _ (.head _))))))) | exact .tail _ (.tail _ (.tail _ (.tail _ (.tail _ (.tail _ (.tail _ (.tail _ (.head _)))))))) | exact .tail _ (.tail _ (.tail _ (.tail _ (.tail _ (.tail _ (.tail _ (.tail _ (.tail _ (.head _))))))))) | exact .tail _ (.tail _ (.tail _ (.tail _ (.tail _ (.tail _ (.tail _ (.tail _ (.tail _ (.tail _ (.head _)))))))))) | exact .tail _ (.tail _ (.tail _ (.tail _ (.tail _ (.tail _ (.tail _ (.tail _ (.tail _ (.tail _ (.tail _ (.head _))))))))))))) 6 infoQ rfl rfl (by simp [Value.oneCell']) ?_; intro w2 hw2; (first | (replace hv := hv.set 0 rfl hw2) | (replace hv := hv.set 1 rfl hw2) | (replace hv := hv.set 2 rfl hw2) | (replace hv := hv.set 3 rfl hw2) | (replace hv := hv.set 4 rfl hw2) | (replace hv := hv.set 5 rfl hw2) | (replace hv := hv.set 6 rfl hw2) | (replace hv := hv.set 7 rfl hw2) | (replace hv := hv.set 8 rfl hw2) | (replace hv := hv.set 9 rfl hw2) | (replace hv := hv.set 10 rfl hw2) | (replace hv := hv.set 11 rfl hw2)); clear hw2; simp only [List.set] at hv)
                    | ((with_reducible refine at_load (T := 32) ?_); refine wl_ldv rfl b14 rfl _ (hv.vars.row (by first | exact .head _ | exact .tail _ (.head _) | exact .tail _ (.tail _ (.head _)) | exact .tail _ (.tail _ (.tail _ (.head _))) | exact .tail _ (.tail _ (.tail _ (.tail _ (.head _)))) | exact .tail _ (.tail _ (.tail _ (.tail _ (.tail _ (.head _))))) | exact .tail _ (.tail _ (.tail _ (.tail _ (.tail _ (.tail _ (.head _)))))) | exact .tail _ (.tail _ (.tail _ (.tail _ (.tail _ (.tail _ (.tail _ (.head _))))))) | exact .tail _ (.tail _ (.tail _ (.tail _ (.tail _ (.tail _ (.tail _ (.tail _ (.head _)))))))) | exact .tail _ (.tail _ (.tail _ (.tail _ (.tail _ (.tail _ (.tail _ (.tail _ (.tail _ (.head _))))))))) | exact .tail _ (.tail _ (.tail _ (.tail _ (.tail _ (.tail _ (.tail _ (.tail _ (.tail _ (.tail _ (.head _)))))))))) | exact .tail _ (.tail _ (.tail _ (.tail _ (.tail _ (.tail _ (.tail _ (.tail _ (.tail _ (.tail _ (.tail _ (.head _))))))))))))) 6 _ Tryz.underlying32 rfl infoQ (by decide) rfl ?_)
                    | (go_at_call 13; (with_reducible refine (Check_O hv HDN.out).mono ?_); rintro e w1 ⟨rfl, hn1⟩; replace hv := hv.new hn1; clear hn1)
                    | (go_at_call 14; (with_reducible refine (had_yes hv (HD3.out.mono HS3.out) HCL.out HN8.out HAT.out HCID.out HRM.out).mono ?_); rintro e w1 ⟨rfl, hn1⟩; replace hv := hv.new hn1; clear hn1)
                    | ((with_reducible refine at_load (T := 30) ?_); refine wl_ldc rfl b14 5 rfl _ (hv.vars.row (by first | exact .head _ | exact .tail _ (.head _) | exact .tail _ (.tail _ (.head _)) | exact .tail _ (.tail _ (.tail _ (.head _))) | exact .tail _ (.tail _ (.tail _ (.tail _ (.head _)))) | exact .tail _ (.tail _ (.tail _ (.tail _ (.tail _ (.head _))))) | exact .tail _ (.tail _ (.tail _ (.tail _ (.tail _ (.tail _ (.head _)))))) | exact .tail _ (.tail _ (.tail _ (.tail _ (.tail _ (.tail _ (.tail _ (.head _))))))))) _ Tryz.underlying30 rfl (.slice ca2 nc1 cc2) rfl ?_)
                    | ((with_reducible refine at_load (T := 30) ?_); refine wl_ldc rfl b8 5 rfl _ (hv.vars.row (by first | exact .head _ | exact .tail _ (.head _) | exact .tail _ (.tail _ (.head _)) | exact .tail _ (.tail _ (.tail _ (.head _))) | exact .tail _ (.tail _ (.tail _ (.tail _ (.head _)))) | exact .tail _ (.tail _ (.tail _ (.tail _ (.tail _ (.head _))))) | exact .tail _ (.tail _ (.tail _ (.tail _ (.tail _ (.tail _ (.head _)))))) | exact .tail _ (.tail _ (.tail _ (.tail _ (.tail _ (.tail _ (.tail _ (.head _))))))))) _ Tryz.underlying30 rfl (.slice (some ⟨cb, co, none⟩) nc cc) rfl ?_)
                    | ((with_reducible refine at_load (T := 3) ?_); refine wl_ldc rfl b14 0 rfl _ (hv.vars.row (by first | exact .head _ | exact .tail _ (.head _) | exact .tail _ (.tail _ (.head _)) | exact .tail _ (.tail _ (.tail _ (.head _))) | exact .tail _ (.tail _ (.tail _ (.tail _ (.head _)))) | exact .tail _ (.tail _ (.tail _ (.tail _ (.tail _ (.head _))))) | exact .tail _ (.tail _ (.tail _ (.tail _ (.tail _ (.tail _ (.head _)))))) | exact .tail _ (.tail _ (.tail _ (.tail _ (.tail _ (.tail _ (.tail _ (.head _))))))))) _ Tryz.underlying3 rfl (.int .i64 0) rfl ?_)
                    | ((with_reducible refine at_load (T := 3) ?_); refine wl_ldc rfl b8 0 rfl _ (hv.vars.row (by first | exact .head _ | exact .tail _ (.head _) | exact .tail _ (.tail _ (.head _)) | exact .tail _ (.tail _ (.tail _ (.head _))) | exact .tail _ (.tail _ (.tail _ (.tail _ (.head _)))) | exact .tail _ (.tail _ (.tail _ (.tail _ (.tail _ (.head _))))) | exact .tail _ (.tail _ (.tail _ (.tail _ (.tail _ (.tail _ (.head _)))))) | exact .tail _ (.tail _ (.tail _ (.tail _ (.tail _ (.tail _ (.tail _ (.head _))))))))) _ Tryz.underlying3 rfl (.int .i64 0) rfl ?_)
                    | ((with_reducible refine at_load (T := 29) ?_); refine wl_ldc rfl b14 3 rfl _ (hv.vars.row (by first | exact .head _ | exact .tail _ (.head _) | exact .tail _ (.tail _ (.head _)) | exact .tail _ (.tail _ (.tail _ (.head _))) | exact .tail _ (.tail _ (.tail _ (.tail _ (.head _)))) | exact .tail _ (.tail _ (.tail _ (.tail _ (.tail _ (.head _))))) | exact .tail _ (.tail _ (.tail _ (.tail _ (.tail _ (.tail _ (.head _)))))) | exact .tail _ (.tail _ (.tail _ (.tail _ (.tail _ (.tail _ (.tail _ (.head _))))))))) _ Tryz.underlying29 rfl (.int .u16 (ln : Nat)) rfl ?_)
                    | ((with_reducible refine at_load (T := 29) ?_); refine wl_ldc rfl b8 3 rfl _ (hv.vars.row (by first | exact .head _ | exact .tail _ (.head _) | exact .tail _ (.tail _ (.head _)) | exact .tail _ (.tail _ (.tail _ (.head _))) | exact .tail _ (.tail _ (.tail _ (.tail _ (.head _)))) | exact .tail _ (.tail _ (.tail _ (.tail _ (.tail _ (.head _))))) | exact .tail _ (.tail _ (.tail _ (.tail _ (.tail _ (.tail _ (.head _)))))) | exact .tail _ (.tail _ (.tail _ (.tail _ (.tail _ (.tail _ (.tail _ (.head _))))))))) _ Tryz.underlying29 rfl (.int .u16 (ln : Nat)) rfl ?_)
                    | ((with_reducible refine at_store (T := 32) ?_); refine wl_stv rfl b8 rfl _ rfl _ (hv.vars.row (by first | exact .head _ | exact .tail _ (.head _) | exact .tail _ (.tail _ (.head _)) | exact .tail _ (.tail _ (.tail _ (.head _))) | exact .tail _ (.tail _ (.tail _ (.tail _ (.head _)))) | exact .tail _ (.tail _ (.tail _ (.tail _ (.tail _ (.head _))))) | exact .tail _ (.tail _ (.tail _ (.tail _ (.tail _ (.tail _ (.head _)))))) | exact .tail _ (.tail _ (.tail _ (.tail _ (.tail _ (.tail _ (.tail _ (.head _))))))) | exact .tail _ (.tail _ (.tail _ (.tail _ (.tail _ (.tail _ (.tail _ (.tail _ (.head _)))))))) | exact .tail _ (.tail _ (.tail _ (.tail _ (.tail _ (.tail _ (.tail _ (.tail _ (.tail _ (.head _))))))))) | exact .tail _ (.tail _ (.tail _ (.tail _ (.tail _ (.tail _ (.tail _ (.tail _ (.tail _ (.tail _ (.head _)))))))))) | exact .tail _ (.tail _ (.tail _ (.tail _ (.tail _ (.tail _ (.tail _ (.tail _ (.tail _ (.tail _ (.tail _ (.head _))))))))))))) (hv.vars.sft (by first | exact .head _ | exact .tail _ (.head _) | exact .tail _ (.tail _ (.head _)) | exact .tail _ (.tail _ (.tail _ (.head _))) | exact .tail _ (.tail _ (.tail _ (.tail _ (.head _)))) | exact .tail _ (.tail _ (.tail _ (.tail _ (.tail _ (.head _))))) | exact .tail _ (.tail _ (.tail _ (.tail _ (.tail _ (.tail _ (.head _)))))) | exact .tail _ (.tail _ (.tail _ (.tail _ (.tail _ (.tail _ (.tail _ (.head _))))))) | exact .tail _ (.tail _ (.tail _ (.tail _ (.tail _ (.tail _ (.tail _ (.tail _ (.head _)))))))) | exact .tail _ (.tail _ (.tail _ (.tail _ (.tail _ (.tail _ (.tail _ (.tail _ (.tail _ (.head _))))))))) | exact .tail _ (.tail _ (.tail _ (.tail _ (.tail _ (.tail _ (.tail _ (.tail _ (.tail _ (.tail _ (.head _)))))))))) | exact .tail _ (.tail _ (.tail _ (.tail _ (.tail _ (.tail _ (.tail _ (.tail _ (.tail _ (.tail _ (.tail _ (.head _))))))))))))) 6 infoQ rfl rfl (by simp [Value.oneCell']) ?_; intro w2 hw2; (first | (replace hv := hv.set 0 rfl hw2) | (replace hv := hv.set 1 rfl hw2) | (replace hv := hv.set 2 rfl hw2) | (replace hv := hv.set 3 rfl hw2) | (replace hv := hv.set 4 rfl hw2) | (replace hv := hv.set 5 rfl hw2) | (replace hv := hv.set 6 rfl hw2) | (replace hv := hv.set 7 rfl hw2) | (replace hv := hv.set 8 rfl hw2) | (replace hv := hv.set 9 rfl hw2) | (replace hv := hv.set 10 rfl hw2) | (replace hv := hv.set 11 rfl hw2)); clear hw2; simp only [List.set] at hv))
                  go_roundw
                  case rel => exact ⟨k + 1, la2, nf2, nc1, fc2, cc2, fa2, ca2, free2, chs2, R3, by go_num, G2.out, le8_next HN8.out HNC1.out, Lib.hid (looks_next HKL.out G3.out), hv.drop, HDN, G0, G1, Lib.hid (fun x hx => HS3.out x (HSB3.out x hx))⟩
                  case measure => simp [intOf]; omega
            
          · have yr : ((r : Int) == 0) = false := beq_eq_false_iff_ne.2 (by omega)
            clear hr0
            go_wp2
            have hv0 := hv
            clear hv
            have hv : Mem w _ ([(b8, #[.int .i64 0, .int .i64 8, .slice fa nf fc, .int .u16 (ln : Nat), .int .u16 (la : Nat), .slice ca nc cc]), (b7, #[.slice (some ⟨vb, 0, none⟩) 600 vc])] ++ ([] : List (Nat × Array Value))) _ := hv0
            clear hv0
            refine Any.wp_region_cut 7 [⟨[1001], none⟩, ⟨[], none⟩, ⟨[1000], none⟩, ⟨[], none⟩, ⟨[], none⟩, ⟨[], none⟩, ⟨[], none⟩, ⟨[], none⟩, ⟨[], none⟩, ⟨[], none⟩, ⟨[], none⟩, ⟨[], none⟩] [.val, .val, .val, .val, .val, .val, .val] (by kernel_rfl) (by kernel_rfl) (hv.vars.keep (List.sublist_append_left [(b8, #[.int .i64 0, .int .i64 8, .slice fa nf fc, .int .u16 (ln : Nat), .int .u16 (la : Nat), .slice ca nc cc]), (b7, #[.slice (some ⟨vb, 0, none⟩) 600 vc])] ([] : List (Nat × Array Value)))) ?_
            simp only [Any.someVals, List.take_succ_cons, List.take_zero]
            iterate 7 apply Exists.intro
            repeat (first
              | (refine Any.E_off rfl ?_; simp only [Act.put, List.setIfInBounds_toArray, List.set_cons_succ, List.set_cons_zero])
              | (apply Any.E_pureq rfl rfl rfl
                 case h => intro K hK; go_big_quiet_op; (refine hK _ ?_; rfl)
                 case hr => exact fun _ => rfl
                 simp only [Act.put, List.setIfInBounds_toArray, List.set_cons_succ, List.set_cons_zero])
              | (apply Any.E_val rfl rfl rfl rfl
                 case h =>
                   intro E' hA K hK
                   first
                     | ((with_reducible refine Any.at_qload (T := 28) ?_); refine Any.q_ldv 1001 hA (by decide) rfl rfl 1 _ Tryz.underlying28 rfl infoM (by decide) rfl ?_; refine hK _ ?_; rfl)
                     | ((with_reducible refine Any.at_qload (T := 29) ?_); refine Any.q_ldc 1000 hA (by decide) rfl rfl _ Tryz.underlying29 rfl (.int .u16 (la : Nat)) rfl ?_; refine hK _ ?_; rfl)
                     | ((with_reducible refine Any.at_qload (T := 45) ?_); refine Any.q_rdv HPT.out (i * 2) rfl 2 _ Tryz.underlying45 rfl infoUs (by decide) #[.int .u32 (ti : Nat), .int .u32 (tl : Nat)] HTU.out rfl ?_; refine hK _ ?_; rfl)
                     | (go_big_quiet_op; first
                       | (refine hK _ ?_; rfl)
                       | (refine ⟨_, fun _ _ => rfl, ?_⟩; refine hK _ ?_; rfl)
                       | (apply Exists.intro; refine ⟨fun w1 hw1 => ?_, ?_⟩; · (first
                           | fail)
                          refine hK _ ?_; rfl))
                 case hD => rfl
                 simp only [Act.put, List.setIfInBounds_toArray, List.set_cons_succ, List.set_cons_zero])
              | ((with_reducible refine Any.at_ealloc ?_); refine Any.E_lay rfl rfl rfl (fun _ => rfl) ?_; intro B; simp only [Act.put, List.setIfInBounds_toArray, List.set_cons_succ, List.set_cons_zero])
              | ((with_reducible refine Any.at_estore (T := 28) ?_); refine Any.E_putv (T := 28) rfl rfl rfl rfl rfl rfl 1 infoM rfl rfl (by simp [Value.oneCell']) ?_; simp only [Act.put, List.setIfInBounds_toArray, List.set_cons_succ, List.set_cons_zero]))
            try any_goals exact undef
            refine Any.E_nil ?_
            intro w9 hE9
            replace hv : Mem w w9 ([(b8, #[.int .i64 0, .int .i64 8, .slice fa nf fc, .int .u16 (ln : Nat), .int .u16 (la : Nat), .slice ca nc cc]), (b7, #[.slice (some ⟨vb, 0, none⟩) 600 vc])] ++ ([] : List (Nat × Array Value))) _ := hE9.memr (L1 := [(b8, #[.int .i64 0, .int .i64 8, .slice fa nf fc, .int .u16 (ln : Nat), .int .u16 (la : Nat), .slice ca nc cc]), (b7, #[.slice (some ⟨vb, 0, none⟩) 600 vc])]) hv [1000, 1001] (by decide)
            clear hE9
            refine Any.wpOp_callv rfl rfl (Go.Proofs.enters_of Tryz.func11 (by kernel_rfl) rfl) rfl [.agg #[.slice (some ⟨vb, 0, none⟩) 600 vc], .int .i64 0, .int .i64 8, .int .u16 (la : Nat), .agg #[.int .u32 (ti : Nat), .int .u32 (tl : Nat)]] rfl ?_
            refine (Ret_O hv HD.out.m HLA.out HTI.out HTL.out).mono ?_
            rintro e w1 ⟨vb3, vc3, R3, M3, rfl, hv1, hi1, hs1⟩
            replace hv := hv1
            have HDM : Hid (Drv R3 600 vb3 vc3 (.slice fa nf fc) (.slice ca nc cc) M3 8 free chs) := Lib.hid ⟨hi1, HD.out.q.mono hs1, HD.out.ok⟩
            have HSB3 : Hid (∀ x ∈ R, x ∈ R3) := Lib.hid (fun x hx => hs1 x (HSB.out x hx))
            clear hv1 hi1 hs1
            refine ⟨_, rfl, ?_⟩
            have hv0 := hv
            clear hv
            have hv : Mem w _ ([(b8, #[.int .i64 0, .int .i64 8, .slice fa nf fc, .int .u16 (ln : Nat), .int .u16 (la : Nat), .slice ca nc cc]), (b7, #[.slice (some ⟨vb, 0, none⟩) 600 vc])] ++ ([] : List (Nat × Array Value))) _ := hv0
            clear hv0
            refine Any.wpAny_rest 8 [⟨[], none⟩, ⟨[], none⟩, ⟨[], none⟩, ⟨[1001], some 1001⟩] [.val, .val, .val, .put] (by kernel_rfl) (hv.vars.keep (List.sublist_append_left [(b8, #[.int .i64 0, .int .i64 8, .slice fa nf fc, .int .u16 (ln : Nat), .int .u16 (la : Nat), .slice ca nc cc]), (b7, #[.slice (some ⟨vb, 0, none⟩) 600 vc])] ([] : List (Nat × Array Value)))) ?_
            simp only [List.length_cons, List.length_nil, Nat.zero_add, Nat.reduceAdd, Nat.reduceSub, Any.someVals, List.drop_succ_cons, List.drop_zero]
            simp only [Act.put, List.setIfInBounds_toArray, List.set_cons_succ, List.set_cons_zero]
            iterate 4 apply Exists.intro
            repeat (first
              | (refine Any.E_off rfl ?_; simp only [Act.put, List.setIfInBounds_toArray, List.set_cons_succ, List.set_cons_zero])
              | (apply Any.E_pureq rfl rfl rfl
                 case h => intro K hK; go_big_quiet_op; (refine hK _ ?_; rfl)
                 case hr => exact fun _ => rfl
                 simp only [Act.put, List.setIfInBounds_toArray, List.set_cons_succ, List.set_cons_zero])
              | (apply Any.E_val rfl rfl rfl rfl
                 case h =>
                   intro E' hA K hK
                   first
                     | ((with_reducible refine Any.at_qload (T := 28) ?_); refine Any.q_ldv 1001 hA (by decide) rfl rfl 1 _ Tryz.underlying28 rfl infoM (by decide) rfl ?_; refine hK _ ?_; rfl)
                     | ((with_reducible refine Any.at_qload (T := 29) ?_); refine Any.q_ldc 1000 hA (by decide) rfl rfl _ Tryz.underlying29 rfl (.int .u16 (la : Nat)) rfl ?_; refine hK _ ?_; rfl)
                     | ((with_reducible refine Any.at_qload (T := 45) ?_); refine Any.q_rdv HPT.out (i * 2) rfl 2 _ Tryz.underlying45 rfl infoUs (by decide) #[.int .u32 (ti : Nat), .int .u32 (tl : Nat)] HTU.out rfl ?_; refine hK _ ?_; rfl)
                     | (go_big_quiet_op; first
                       | (refine hK _ ?_; rfl)
                       | (refine ⟨_, fun _ _ => rfl, ?_⟩; refine hK _ ?_; rfl)
                       | (apply Exists.intro; refine ⟨fun w1 hw1 => ?_, ?_⟩; · (first
                           | fail)
                          refine hK _ ?_; rfl))
                 case hD => rfl
                 simp only [Act.put, List.setIfInBounds_toArray, List.set_cons_succ, List.set_cons_zero])
              | ((with_reducible refine Any.at_ealloc ?_); refine Any.E_lay rfl rfl rfl (fun _ => rfl) ?_; intro B; simp only [Act.put, List.setIfInBounds_toArray, List.set_cons_succ, List.set_cons_zero])
              | ((with_reducible refine Any.at_estore (T := 28) ?_); refine Any.E_putv (T := 28) rfl rfl rfl rfl rfl rfl 1 infoM rfl rfl (by simp [Value.oneCell']) ?_; simp only [Act.put, List.setIfInBounds_toArray, List.set_cons_succ, List.set_cons_zero]))
            try any_goals exact undef
            refine Any.E_nil ?_
            intro w9 hE9
            replace hv : Mem w w9 ([(b8, #[.int .i64 0, .int .i64 8, .slice fa nf fc, .int .u16 (ln : Nat), .int .u16 (la : Nat), .slice ca nc cc]), (b7, #[.slice (some ⟨vb3, 0, none⟩) 600 vc3])] ++ ([] : List (Nat × Array Value))) _ := hE9.memr0 (L1 := [(b8, #[.int .i64 0, .int .i64 8, .slice fa nf fc, .int .u16 (ln : Nat), .int .u16 (la : Nat), .slice ca nc cc]), (b7, #[.slice (some ⟨vb, 0, none⟩) 600 vc])]) hv [1000, 1001] (by decide)
            clear hE9
            simp only [List.cons_append, List.nil_append] at hv
            replace HJR := Lib.hid (HSB3.out _ HJ.out)
            clear HPT
            have HGM := HDM.out.m
            obtain ⟨us, hus⟩ : ∃ us, getN M3 (0 + (backN 8 + 2)) 2 = us := ⟨_, rfl⟩
            have HUS := Lib.hid hus
            have HU16 : Hid (us < 65536) := Lib.hid (by rw [← hus]; exact getN_lt' HGM.good _ (by decide))
            clear hus HGM
            go_wp2_with (first
              | ((with_reducible refine at_load (T := 29) ?_); refine wl_rd rfl (c := jumps.map fun n => Value.int .u16 (n : Nat)) (hv.rd HJR.out) i rfl _ Tryz.underlying29 rfl (.int .u16 (jx : Nat)) HJX.out ?_))
            clear q6 yr
            go_loopw [13] (fun kv wr => ∃ (k la nf nc fc cc : Nat) (fa ca : Option Addr) (free : List Nat) (chs : List Chn) (R2 : List (Nat × Value × List Value)), kv = .int .i64 (k : Nat) ∧ la < 65536 ∧ nc ≤ 8 ∧ Hid (k + looks ((us + 65536 - la) % 65536) nc ≤ 9) ∧ Mem w wr [(b8, #[.int .i64 0, .int .i64 8, .slice fa nf fc, .int .u16 (ln : Nat), .int .u16 (la : Nat), .slice ca nc cc]), (b7, #[.slice (some ⟨vb3, 0, none⟩) 600 vc3])] R2 ∧ Hid (Drv R2 600 vb3 vc3 (.slice fa nf fc) (.slice ca nc cc) M3 8 free chs) ∧ Hid (free.length = nf) ∧ Hid (chs.length = nc) ∧ Hid (∀ x ∈ R, x ∈ R2)) (fun kv _ => 30 - (intOf kv).toNat)
            case atStart => exact ⟨0, la, nf, nc, fc, cc, fa, ca, free, chs, R3, rfl, HLA.out, HN8.out, Lib.hid (by have := HN8.out; unfold looks; split <;> omega), hv, HDM, HFL, HCL, HSB3⟩
            case round =>
              clear hv HDM HFL HCL HSB3 HLA HN8
              obtain ⟨k, la, nf, nc, fc, cc, fa, ca, free, chs, R2, rfl, hla, hn8, HKL, hv, HD3, HFL, HCL, HSB3⟩ := hrel
              have HLA := Lib.hid hla
              have HN8 := Lib.hid hn8
              have hk9 : k ≤ 9 := by have := HKL.out; omega
              have hki : (k : Int) ≤ 9 := by omega
              have yk : decide ((20 : Int) < (k : Int)) = false := decide_eq_false (by omega)
              have zk : decide (20 < k) = false := decide_eq_false (by omega)
              have yav : ((ln : Int) != (ln : Int)) = false := by simp
              have ycn : ((nc : Int) != (nc : Int)) = false := by simp
              obtain ⟨ah, hah⟩ : ∃ ah, (us + 65536 - la) % 65536 = ah := ⟨_, rfl⟩
              have HAH := Lib.hid hah
              rw [hah] at HKL
              clear hah hla hn8 hk9
              by_cases ha0 : ah = 0
              · have HA0 := Lib.hid ha0
                clear ha0
                go_wp2_with (first
                  | ((with_reducible refine at_load (T := 28) ?_); refine wl_ldv rfl b7 rfl _ (hv.vars.row (by first | exact .head _ | exact .tail _ (.head _) | exact .tail _ (.tail _ (.head _)) | exact .tail _ (.tail _ (.tail _ (.head _))) | exact .tail _ (.tail _ (.tail _ (.tail _ (.head _)))) | exact .tail _ (.tail _ (.tail _ (.tail _ (.tail _ (.head _))))) | exact .tail _ (.tail _ (.tail _ (.tail _ (.tail _ (.tail _ (.head _)))))) | exact .tail _ (.tail _ (.tail _ (.tail _ (.tail _ (.tail _ (.tail _ (.head _))))))) | exact .tail _ (.tail _ (.tail _ (.tail _ (.tail _ (.tail _ (.tail _ (.tail _ (.head _)))))))) | exact .tail _ (.tail _ (.tail _ (.tail _ (.tail _ (.tail _ (.tail _ (.tail _ (.tail _ (.head _))))))))) | exact .tail _ (.tail _ (.tail _ (.tail _ (.tail _ (.tail _ (.tail _ (.tail _ (.tail _ (.tail _ (.head _)))))))))) | exact .tail _ (.tail _ (.tail _ (.tail _ (.tail _ (.tail _ (.tail _ (.tail _ (.tail _ (.tail _ (.tail _ (.head _))))))))))))) 1 _ Tryz.underlying28 rfl infoM (by decide) rfl ?_)
                  | ((with_reducible refine at_load (T := 32) ?_); refine wl_ldv rfl b8 rfl _ (hv.vars.row (by first | exact .head _ | exact .tail _ (.head _) | exact .tail _ (.tail _ (.head _)) | exact .tail _ (.tail _ (.tail _ (.head _))) | exact .tail _ (.tail _ (.tail _ (.tail _ (.head _)))) | exact .tail _ (.tail _ (.tail _ (.tail _ (.tail _ (.head _))))) | exact .tail _ (.tail _ (.tail _ (.tail _ (.tail _ (.tail _ (.head _)))))) | exact .tail _ (.tail _ (.tail _ (.tail _ (.tail _ (.tail _ (.tail _ (.head _))))))) | exact .tail _ (.tail _ (.tail _ (.tail _ (.tail _ (.tail _ (.tail _ (.tail _ (.head _)))))))) | exact .tail _ (.tail _ (.tail _ (.tail _ (.tail _ (.tail _ (.tail _ (.tail _ (.tail _ (.head _))))))))) | exact .tail _ (.tail _ (.tail _ (.tail _ (.tail _ (.tail _ (.tail _ (.tail _ (.tail _ (.tail _ (.head _)))))))))) | exact .tail _ (.tail _ (.tail _ (.tail _ (.tail _ (.tail _ (.tail _ (.tail _ (.tail _ (.tail _ (.tail _ (.head _))))))))))))) 6 _ Tryz.underlying32 rfl infoQ (by decide) rfl ?_)
                  | (go_at_call 12; (with_reducible refine (Poll_ON hv HD3.out HUS.out HAH.out HLA.out HA0.out).mono ?_); rintro e w1 ⟨rfl, hn1⟩; replace hv := hv.new hn1; clear hn1)
                  | ((with_reducible refine at_alloc (T := 32) (dst := some 14) ?_); refine wl_newb rfl #[.int .i64 0, .int .i64 0, .slice none 0 0, .int .u16 0, .int .u16 0, .slice none 0 0] 32 (fun _ => rfl) ?_; intro b14 w2 hm2; replace hv := hv.madeAt hm2; clear hm2)
                  | ((with_reducible refine at_store (T := 32) ?_); refine wl_stv rfl b14 rfl _ rfl _ (hv.vars.row (by first | exact .head _ | exact .tail _ (.head _) | exact .tail _ (.tail _ (.head _)) | exact .tail _ (.tail _ (.tail _ (.head _))) | exact .tail _ (.tail _ (.tail _ (.tail _ (.head _)))) | exact .tail _ (.tail _ (.tail _ (.tail _ (.tail _ (.head _))))) | exact .tail _ (.tail _ (.tail _ (.tail _ (.tail _ (.tail _ (.head _)))))) | exact .tail _ (.tail _ (.tail _ (.tail _ (.tail _ (.tail _ (.tail _ (.head _))))))) | exact .tail _ (.tail _ (.tail _ (.tail _ (.tail _ (.tail _ (.tail _ (.tail _ (.head _)))))))) | exact .tail _ (.tail _ (.tail _ (.tail _ (.tail _ (.tail _ (.tail _ (.tail _ (.tail _ (.head _))))))))) | exact .tail _ (.tail _ (.tail _ (.tail _ (.tail _ (.tail _ (.tail _ (.tail _ (.tail _ (.tail _ (.head _)))))))))) | exact .tail _ (.tail _ (.tail _ (.tail _ (.tail _ (.tail _ (.tail _ (.tail _ (.tail _ (.tail _ (.tail _ (.head _))))))))))))) (hv.vars.sft (by first | exact .head _ | exact .tail _ (.head _) | exact .tail _ (.tail _ (.head _)) | exact .tail _ (.tail _ (.tail _ (.head _))) | exact .tail _ (.tail _ (.tail _ (.tail _ (.head _)))) | exact .tail _ (.tail _ (.tail _ (.tail _ (.tail _ (.head _))))) | exact .tail _ (.tail _ (.tail _ (.tail _ (.tail _ (.tail _ (.head _)))))) | exact .tail _ (.tail _ (.tail _ (.tail _ (.tail _ (.tail _ (.tail _ (.head _))))))) | exact .tail _ (.tail _ (.tail _ (.tail _ (.tail _ (.tail _ (.tail _ (.tail _ (.head _)))))))) | exact .tail _ (.tail _ (.tail _ (.tail _ (.tail _ (.tail _ (.tail _ (.tail _ (.tail _ (.head _))))))))) | exact .tail _ (.tail _ (.tail _ (.tail _ (.tail _ (.tail _ (.tail _ (.tail _ (.tail _ (.tail _ (.head _)))))))))) | exact .tail _ (.tail _ (.tail _ (.tail _ (.tail _ (.tail _ (.tail _ (.tail _ (.tail _ (.tail _ (.tail _ (.head _))))))))))))) 6 infoQ rfl rfl (by simp [Value.oneCell']) ?_; intro w2 hw2; (first | (replace hv := hv.set 0 rfl hw2) | (replace hv := hv.set 1 rfl hw2) | (replace hv := hv.set 2 rfl hw2) | (replace hv := hv.set 3 rfl hw2) | (replace hv := hv.set 4 rfl hw2) | (replace hv := hv.set 5 rfl hw2) | (replace hv := hv.set 6 rfl hw2) | (replace hv := hv.set 7 rfl hw2) | (replace hv := hv.set 8 rfl hw2) | (replace hv := hv.set 9 rfl hw2) | (replace hv := hv.set 10 rfl hw2) | (replace hv := hv.set 11 rfl hw2)); clear hw2; simp only [List.set] at hv)
                  | ((with_reducible refine at_load (T := 32) ?_); refine wl_ldv rfl b14 rfl _ (hv.vars.row (by first | exact .head _ | exact .tail _ (.head _) | exact .tail _ (.tail _ (.head _)) | exact .tail _ (.tail _ (.tail _ (.head _))) | exact .tail _ (.tail _ (.tail _ (.tail _ (.head _)))) | exact .tail _ (.tail _ (.tail _ (.tail _ (.tail _ (.head _))))) | exact .tail _ (.tail _ (.tail _ (.tail _ (.tail _ (.tail _ (.head _)))))) | exact .tail _ (.tail _ (.tail _ (.tail _ (.tail _ (.tail _ (.tail _ (.head _))))))) | exact .tail _ (.tail _ (.tail _ (.tail _ (.tail _ (.tail _ (.tail _ (.tail _ (.head _)))))))) | exact .tail _ (.tail _ (.tail _ (.tail _ (.tail _ (.tail _ (.tail _ (.tail _ (.tail _ (.head _))))))))) | exact .tail _ (.tail _ (.tail _ (.tail _ (.tail _ (.tail _ (.tail _ (.tail _ (.tail _ (.tail _ (.head _)))))))))) | exact .tail _ (.tail _ (.tail _ (.tail _ (.tail _ (.tail _ (.tail _ (.tail _ (.tail _ (.tail _ (.tail _ (.head _))))))))))))) 6 _ Tryz.underlying32 rfl infoQ (by decide) rfl ?_)
                  | (go_at_call 13; (with_reducible refine (Check_O hv HD3.out).mono ?_); rintro e w1 ⟨rfl, hn1⟩; replace hv := hv.new hn1; clear hn1)
                  | ((with_reducible refine at_load (T := 30) ?_); refine wl_ldc rfl b14 5 rfl _ (hv.vars.row (by first | exact .head _ | exact .tail _ (.head _) | exact .tail _ (.tail _ (.head _)) | exact .tail _ (.tail _ (.tail _ (.head _))) | exact .tail _ (.tail _ (.tail _ (.tail _ (.head _)))) | exact .tail _ (.tail _ (.tail _ (.tail _ (.tail _ (.head _))))) | exact .tail _ (.tail _ (.tail _ (.tail _ (.tail _ (.tail _ (.head _)))))) | exact .tail _ (.tail _ (.tail _ (.tail _ (.tail _ (.tail _ (.tail _ (.head _))))))))) _ Tryz.underlying30 rfl (.slice ca nc cc) rfl ?_)
                  | ((with_reducible refine at_load (T := 30) ?_); refine wl_ldc rfl b8 5 rfl _ (hv.vars.row (by first | exact .head _ | exact .tail _ (.head _) | exact .tail _ (.tail _ (.head _)) | exact .tail _ (.tail _ (.tail _ (.head _))) | exact .tail _ (.tail _ (.tail _ (.tail _ (.head _)))) | exact .tail _ (.tail _ (.tail _ (.tail _ (.tail _ (.head _))))) | exact .tail _ (.tail _ (.tail _ (.tail _ (.tail _ (.tail _ (.head _)))))) | exact .tail _ (.tail _ (.tail _ (.tail _ (.tail _ (.tail _ (.tail _ (.head _))))))))) _ Tryz.underlying30 rfl (.slice ca nc cc) rfl ?_)
                  | ((with_reducible refine at_load (T := 3) ?_); refine wl_ldc rfl b14 0 rfl _ (hv.vars.row (by first | exact .head _ | exact .tail _ (.head _) | exact .tail _ (.tail _ (.head _)) | exact .tail _ (.tail _ (.tail _ (.head _))) | exact .tail _ (.tail _ (.tail _ (.tail _ (.head _)))) | exact .tail _ (.tail _ (.tail _ (.tail _ (.tail _ (.head _))))) | exact .tail _ (.tail _ (.tail _ (.tail _ (.tail _ (.tail _ (.head _)))))) | exact .tail _ (.tail _ (.tail _ (.tail _ (.tail _ (.tail _ (.tail _ (.head _))))))))) _ Tryz.underlying3 rfl (.int .i64 0) rfl ?_)
                  | ((with_reducible refine at_load (T := 3) ?_); refine wl_ldc rfl b8 0 rfl _ (hv.vars.row (by first | exact .head _ | exact .tail _ (.head _) | exact .tail _ (.tail _ (.head _)) | exact .tail _ (.tail _ (.tail _ (.head _))) | exact .tail _ (.tail _ (.tail _ (.tail _ (.head _)))) | exact .tail _ (.tail _ (.tail _ (.tail _ (.tail _ (.head _))))) | exact .tail _ (.tail _ (.tail _ (.tail _ (.tail _ (.tail _ (.head _)))))) | exact .tail _ (.tail _ (.tail _ (.tail _ (.tail _ (.tail _ (.tail _ (.head _))))))))) _ Tryz.underlying3 rfl (.int .i64 0) rfl ?_)
                  | ((with_reducible refine at_load (T := 29) ?_); refine wl_ldc rfl b14 3 rfl _ (hv.vars.row (by first | exact .head _ | exact .tail _ (.head _) | exact .tail _ (.tail _ (.head _)) | exact .tail _ (.tail _ (.tail _ (.head _))) | exact .tail _ (.tail _ (.tail _ (.tail _ (.head _)))) | exact .tail _ (.tail _ (.tail _ (.tail _ (.tail _ (.head _))))) | exact .tail _ (.tail _ (.tail _ (.tail _ (.tail _ (.tail _ (.head _)))))) | exact .tail _ (.tail _ (.tail _ (.tail _ (.tail _ (.tail _ (.tail _ (.head _))))))))) _ Tryz.underlying29 rfl (.int .u16 (ln : Nat)) rfl ?_)
                  | ((with_reducible refine at_load (T := 29) ?_); refine wl_ldc rfl b8 3 rfl _ (hv.vars.row (by first | exact .head _ | exact .tail _ (.head _) | exact .tail _ (.tail _ (.head _)) | exact .tail _ (.tail _ (.tail _ (.head _))) | exact .tail _ (.tail _ (.tail _ (.tail _ (.head _)))) | exact .tail _ (.tail _ (.tail _ (.tail _ (.tail _ (.head _))))) | exact .tail _ (.tail _ (.tail _ (.tail _ (.tail _ (.tail _ (.head _)))))) | exact .tail _ (.tail _ (.tail _ (.tail _ (.tail _ (.tail _ (.tail _ (.head _))))))))) _ Tryz.underlying29 rfl (.int .u16 (ln : Nat)) rfl ?_))
                go_wp2
                have hin := HIN.out
                go_roundw
                case rel => exact ⟨i + 1, vb3, vc3, la, nf, nc, fc, cc, fa, ca, M3, free, chs, R2, by omega, by go_num, HLA.out, HN8.out, hv.drop, HD3, HFL, HCL, HSB3⟩
                case measure => simp [intOf]; omega
              · have HA0 := Lib.hid ha0
                clear ha0
                by_cases hno : ah ≤ nc → ∀ at_ c, idxF (fun c => c.h == getN M3 (0 + (backN 8 + (4 + 8 * (la % 8)))) 4) chs = (at_ : Nat) → chs[at_]? = some c → c.rm < getN M3 (0 + (backN 8 + (4 + 8 * (la % 8))) + 4) 4
                · have HNO := Lib.hid hno
                  clear hno
                  go_wp2_with (first
                    | ((with_reducible refine at_load (T := 28) ?_); refine wl_ldv rfl b7 rfl _ (hv.vars.row (by first | exact .head _ | exact .tail _ (.head _) | exact .tail _ (.tail _ (.head _)) | exact .tail _ (.tail _ (.tail _ (.head _))) | exact .tail _ (.tail _ (.tail _ (.tail _ (.head _)))) | exact .tail _ (.tail _ (.tail _ (.tail _ (.tail _ (.head _))))) | exact .tail _ (.tail _ (.tail _ (.tail _ (.tail _ (.tail _ (.head _)))))) | exact .tail _ (.tail _ (.tail _ (.tail _ (.tail _ (.tail _ (.tail _ (.head _))))))) | exact .tail _ (.tail _ (.tail _ (.tail _ (.tail _ (.tail _ (.tail _ (.tail _ (.head _)))))))) | exact .tail _ (.tail _ (.tail _ (.tail _ (.tail _ (.tail _ (.tail _ (.tail _ (.tail _ (.head _))))))))) | exact .tail _ (.tail _ (.tail _ (.tail _ (.tail _ (.tail _ (.tail _ (.tail _ (.tail _ (.tail _ (.head _)))))))))) | exact .tail _ (.tail _ (.tail _ (.tail _ (.tail _ (.tail _ (.tail _ (.tail _ (.tail _ (.tail _ (.tail _ (.head _))))))))))))) 1 _ Tryz.underlying28 rfl infoM (by decide) rfl ?_)
                    | ((with_reducible refine at_load (T := 32) ?_); refine wl_ldv rfl b8 rfl _ (hv.vars.row (by first | exact .head _ | exact .tail _ (.head _) | exact .tail _ (.tail _ (.head _)) | exact .tail _ (.tail _ (.tail _ (.head _))) | exact .tail _ (.tail _ (.tail _ (.tail _ (.head _)))) | exact .tail _ (.tail _ (.tail _ (.tail _ (.tail _ (.head _))))) | exact .tail _ (.tail _ (.tail _ (.tail _ (.tail _ (.tail _ (.head _)))))) | exact .tail _ (.tail _ (.tail _ (.tail _ (.tail _ (.tail _ (.tail _ (.head _))))))) | exact .tail _ (.tail _ (.tail _ (.tail _ (.tail _ (.tail _ (.tail _ (.tail _ (.head _)))))))) | exact .tail _ (.tail _ (.tail _ (.tail _ (.tail _ (.tail _ (.tail _ (.tail _ (.tail _ (.head _))))))))) | exact .tail _ (.tail _ (.tail _ (.tail _ (.tail _ (.tail _ (.tail _ (.tail _ (.tail _ (.tail _ (.head _)))))))))) | exact .tail _ (.tail _ (.tail _ (.tail _ (.tail _ (.tail _ (.tail _ (.tail _ (.tail _ (.tail _ (.tail _ (.head _))))))))))))) 6 _ Tryz.underlying32 rfl infoQ (by decide) rfl ?_)
                    | (go_at_call 12; (with_reducible refine (Poll_OE hv HD3.out HCL.out HUS.out HU16.out HAH.out HLA.out HA0.out HNO.out).mono ?_); rintro e w1 ⟨la2, rfl, hn1, g1, g2⟩; replace hv := hv.new hn1; have G1 := Lib.hid g1; have G2 := Lib.hid g2; clear hn1 g1 g2)
                    | ((with_reducible refine at_alloc (T := 32) (dst := some 14) ?_); refine wl_newb rfl #[.int .i64 0, .int .i64 0, .slice none 0 0, .int .u16 0, .int .u16 0, .slice none 0 0] 32 (fun _ => rfl) ?_; intro b14 w2 hm2; replace hv := hv.madeAt hm2; clear hm2)
                    | ((with_reducible refine at_store (T := 32) ?_); refine wl_stv rfl b14 rfl _ rfl _ (hv.vars.row (by first | exact .head _ | exact .tail _ (.head _) | exact .tail _ (.tail _ (.head _)) | exact .tail _ (.tail _ (.tail _ (.head _))) | exact .tail _ (.tail _ (.tail _ (.tail _ (.head _)))) | exact .tail _ (.tail _ (.tail _ (.tail _ (.tail _ (.head _))))) | exact .tail _ (.tail _ (.tail _ (.tail _ (.tail _ (.tail _ (.head _)))))) | exact .tail _ (.tail _ (.tail _ (.tail _ (.tail _ (.tail _ (.tail _ (.head _))))))) | exact .tail _ (.tail _ (.tail _ (.tail _ (.tail _ (.tail _ (.tail _ (.tail _ (.head _)))))))) | exact .tail _ (.tail _ (.tail _ (.tail _ (.tail _ (.tail _ (.tail _ (.tail _ (.tail _ (.head _))))))))) | exact .tail _ (.tail _ (.tail _ (.tail _ (.tail _ (.tail _ (.tail _ (.tail _ (.tail _ (.tail _ (.head _)))))))))) | exact .tail _ (.tail _ (.tail _ (.tail _ (.tail _ (.tail _ (.tail _ (.tail _ (.tail _ (.tail _ (.tail _ (.head _))))))))))))) (hv.vars.sft (by first | exact .head _ | exact .tail _ (.head _) | exact .tail _ (.tail _ (.head _)) | exact .tail _ (.tail _ (.tail _ (.head _))) | exact .tail _ (.tail _ (.tail _ (.tail _ (.head _)))) | exact .tail _ (.tail _ (.tail _ (.tail _ (.tail _ (.head _))))) | exact .tail _ (.tail _ (.tail _ (.tail _ (.tail _ (.tail _ (.head _)))))) | exact .tail _ (.tail _ (.tail _ (.tail _ (.tail _ (.tail _ (.tail _ (.head _))))))) | exact .tail _ (.tail _ (.tail _ (.tail _ (.tail _ (.tail _ (.tail _ (.tail _ (.head _)))))))) | exact .tail _ (.tail _ (.tail _ (.tail _ (.tail _ (.tail _ (.tail _ (.tail _ (.tail _ (.head _))))))))) | exact .tail _ (.tail _ (.tail _ (.tail _ (.tail _ (.tail _ (.tail _ (.tail _ (.tail _ (.tail _ (.head _)))))))))) | exact .tail _ (.tail _ (.tail _ (.tail _ (.tail _ (.tail _ (.tail _ (.tail _ (.tail _ (.tail _ (.tail _ (.head _))))))))))))) 6 infoQ rfl rfl (by simp [Value.oneCell']) ?_; intro w2 hw2; (first | (replace hv := hv.set 0 rfl hw2) | (replace hv := hv.set 1 rfl hw2) | (replace hv := hv.set 2 rfl hw2) | (replace hv := hv.set 3 rfl hw2) | (replace hv := hv.set 4 rfl hw2) | (replace hv := hv.set 5 rfl hw2) | (replace hv := hv.set 6 rfl hw2) | (replace hv := hv.set 7 rfl hw2) | (replace hv := hv.set 8 rfl hw2) | (replace hv := hv.set 9 rfl hw2) | (replace hv := hv.set 10 rfl hw2) | (replace hv := hv.set 11 rfl hw2)); clear hw2; simp only [List.set] at hv)
                    | ((with_reducible refine at_load (T := 32) ?_); refine wl_ldv rfl b14 rfl _ (hv.vars.row (by first | exact .head _ | exact .tail _ (.head _) | exact .tail _ (.tail _ (.head _)) | exact .tail _ (.tail _ (.tail _ (.head _))) | exact .tail _ (.tail _ (.tail _ (.tail _ (.head _)))) | exact .tail _ (.tail _ (.tail _ (.tail _ (.tail _ (.head _))))) | exact .tail _ (.tail _ (.tail _ (.tail _ (.tail _ (.tail _ (.head _)))))) | exact .tail _ (.tail _ (.tail _ (.tail _ (.tail _ (.tail _ (.tail _ (.head _))))))) | exact .tail _ (.tail _ (.tail _ (.tail _ (.tail _ (.tail _ (.tail _ (.tail _ (.head _)))))))) | exact .tail _ (.tail _ (.tail _ (.tail _ (.tail _ (.tail _ (.tail _ (.tail _ (.tail _ (.head _))))))))) | exact .tail _ (.tail _ (.tail _ (.tail _ (.tail _ (.tail _ (.tail _ (.tail _ (.tail _ (.tail _ (.head _)))))))))) | exact .tail _ (.tail _ (.tail _ (.tail _ (.tail _ (.tail _ (.tail _ (.tail _ (.tail _ (.tail _ (.tail _ (.head _))))))))))))) 6 _ Tryz.underlying32 rfl infoQ (by decide) rfl ?_)
                    | (go_at_call 13; (with_reducible refine (Check_O hv HD3.out).mono ?_); rintro e w1 ⟨rfl, hn1⟩; replace hv := hv.new hn1; clear hn1)
                    | ((with_reducible refine at_load (T := 30) ?_); refine wl_ldc rfl b14 5 rfl _ (hv.vars.row (by first | exact .head _ | exact .tail _ (.head _) | exact .tail _ (.tail _ (.head _)) | exact .tail _ (.tail _ (.tail _ (.head _))) | exact .tail _ (.tail _ (.tail _ (.tail _ (.head _)))) | exact .tail _ (.tail _ (.tail _ (.tail _ (.tail _ (.head _))))) | exact .tail _ (.tail _ (.tail _ (.tail _ (.tail _ (.tail _ (.head _)))))) | exact .tail _ (.tail _ (.tail _ (.tail _ (.tail _ (.tail _ (.tail _ (.head _))))))))) _ Tryz.underlying30 rfl (.slice ca nc cc) rfl ?_)
                    | ((with_reducible refine at_load (T := 30) ?_); refine wl_ldc rfl b8 5 rfl _ (hv.vars.row (by first | exact .head _ | exact .tail _ (.head _) | exact .tail _ (.tail _ (.head _)) | exact .tail _ (.tail _ (.tail _ (.head _))) | exact .tail _ (.tail _ (.tail _ (.tail _ (.head _)))) | exact .tail _ (.tail _ (.tail _ (.tail _ (.tail _ (.head _))))) | exact .tail _ (.tail _ (.tail _ (.tail _ (.tail _ (.tail _ (.head _)))))) | exact .tail _ (.tail _ (.tail _ (.tail _ (.tail _ (.tail _ (.tail _ (.head _))))))))) _ Tryz.underlying30 rfl (.slice ca nc cc) rfl ?_)
                    | ((with_reducible refine at_load (T := 3) ?_); refine wl_ldc rfl b14 0 rfl _ (hv.vars.row (by first | exact .head _ | exact .tail _ (.head _) | exact .tail _ (.tail _ (.head _)) | exact .tail _ (.tail _ (.tail _ (.head _))) | exact .tail _ (.tail _ (.tail _ (.tail _ (.head _)))) | exact .tail _ (.tail _ (.tail _ (.tail _ (.tail _ (.head _))))) | exact .tail _ (.tail _ (.tail _ (.tail _ (.tail _ (.tail _ (.head _)))))) | exact .tail _ (.tail _ (.tail _ (.tail _ (.tail _ (.tail _ (.tail _ (.head _))))))))) _ Tryz.underlying3 rfl (.int .i64 0) rfl ?_)
                    | ((with_reducible refine at_load (T := 3) ?_); refine wl_ldc rfl b8 0 rfl _ (hv.vars.row (by first | exact .head _ | exact .tail _ (.head _) | exact .tail _ (.tail _ (.head _)) | exact .tail _ (.tail _ (.tail _ (.head _))) | exact .tail _ (.tail _ (.tail _ (.tail _ (.head _)))) | exact .tail _ (.tail _ (.tail _ (.tail _ (.tail _ (.head _))))) | exact .tail _ (.tail _ (.tail _ (.tail _ (.tail _ (.tail _ (.head _)))))) | exact .tail _ (.tail _ (.tail _ (.tail _ (.tail _ (.tail _ (.tail _ (.head _))))))))) _ Tryz.underlying3 rfl (.int .i64 0) rfl ?_)
                    | ((with_reducible refine at_load (T := 29) ?_); refine wl_ldc rfl b14 3 rfl _ (hv.vars.row (by first | exact .head _ | exact .tail _ (.head _) | exact .tail _ (.tail _ (.head _)) | exact .tail _ (.tail _ (.tail _ (.head _))) | exact .tail _ (.tail _ (.tail _ (.tail _ (.head _)))) | exact .tail _ (.tail _ (.tail _ (.tail _ (.tail _ (.head _))))) | exact .tail _ (.tail _ (.tail _ (.tail _ (.tail _ (.tail _ (.head _)))))) | exact .tail _ (.tail _ (.tail _ (.tail _ (.tail _ (.tail _ (.tail _ (.head _))))))))) _ Tryz.underlying29 rfl (.int .u16 (ln : Nat)) rfl ?_)
                    | ((with_reducible refine at_load (T := 29) ?_); refine wl_ldc rfl b8 3 rfl _ (hv.vars.row (by first | exact .head _ | exact .tail _ (.head _) | exact .tail _ (.tail _ (.head _)) | exact .tail _ (.tail _ (.tail _ (.head _))) | exact .tail _ (.tail _ (.tail _ (.tail _ (.head _)))) | exact .tail _ (.tail _ (.tail _ (.tail _ (.tail _ (.head _))))) | exact .tail _ (.tail _ (.tail _ (.tail _ (.tail _ (.tail _ (.head _)))))) | exact .tail _ (.tail _ (.tail _ (.tail _ (.tail _ (.tail _ (.tail _ (.head _))))))))) _ Tryz.underlying29 rfl (.int .u16 (ln : Nat)) rfl ?_)
                    | ((with_reducible refine at_store (T := 32) ?_); refine wl_stv rfl b8 rfl _ rfl _ (hv.vars.row (by first | exact .head _ | exact .tail _ (.head _) | exact .tail _ (.tail _ (.head _)) | exact .tail _ (.tail _ (.tail _ (.head _))) | exact .tail _ (.tail _ (.tail _ (.tail _ (.head _)))) | exact .tail _ (.tail _ (.tail _ (.tail _ (.tail _ (.head _))))) | exact .tail _ (.tail _ (.tail _ (.tail _ (.tail _ (.tail _ (.head _)))))) | exact .tail _ (.tail _ (.tail _ (.tail _ (.tail _ (.tail _ (.tail _ (.head _))))))) | exact .tail _ (.tail _ (.tail _ (.tail _ (.tail _ (.tail _ (.tail _ (.tail _ (.head _)))))))) | exact .tail _ (.tail _ (.tail _ (.tail _ (.tail _ (.tail _ (.tail _ (.tail _ (.tail _ (.head _))))))))) | exact .tail _ (.tail _ (.tail _ (.tail _ (.tail _ (.tail _ (.tail _ (.tail _ (.tail _ (.tail _ (.head _)))))))))) | exact .tail _ (.tail _ (.tail _ (.tail _ (.tail _ (.tail _ (.tail _ (.tail _ (.tail _ (.tail _ (.tail _ (.head _))))))))))))) (hv.vars.sft (by first | exact .head _ | exact .tail _ (.head _) | exact .tail _ (.tail _ (.head _)) | exact .tail _ (.tail _ (.tail _ (.head _))) | exact .tail _ (.tail _ (.tail _ (.tail _ (.head _)))) | exact .tail _ (.tail _ (.tail _ (.tail _ (.tail _ (.head _))))) | exact .tail _ (.tail _ (.tail _ (.tail _ (.tail _ (.tail _ (.head _)))))) | exact .tail _ (.tail _ (.tail _ (.tail _ (.tail _ (.tail _ (.tail _ (.head _))))))) | exact .tail _ (.tail _ (.tail _ (.tail _ (.tail _ (.tail _ (.tail _ (.tail _ (.head _)))))))) | exact .tail _ (.tail _ (.tail _ (.tail _ (.tail _ (.tail _ (.tail _ (.tail _ (.tail _ (.head _))))))))) | exact .tail _ (.tail _ (.tail _ (.tail _ (.tail _ (.tail _ (.tail _ (.tail _ (.tail _ (.tail _ (.head _)))))))))) | exact .tail _ (.tail _ (.tail _ (.tail _ (.tail _ (.tail _ (.tail _ (.tail _ (.tail _ (.tail _ (.tail _ (.head _))))))))))))) 6 infoQ rfl rfl (by simp [Value.oneCell']) ?_; intro w2 hw2; (first | (replace hv := hv.set 0 rfl hw2) | (replace hv := hv.set 1 rfl hw2) | (replace hv := hv.set 2 rfl hw2) | (replace hv := hv.set 3 rfl hw2) | (replace hv := hv.set 4 rfl hw2) | (replace hv := hv.set 5 rfl hw2) | (replace hv := hv.set 6 rfl hw2) | (replace hv := hv.set 7 rfl hw2) | (replace hv := hv.set 8 rfl hw2) | (replace hv := hv.set 9 rfl hw2) | (replace hv := hv.set 10 rfl hw2) | (replace hv := hv.set 11 rfl hw2)); clear hw2; simp only [List.set] at hv))
                  go_roundw
                  case rel => exact ⟨k + 1, la2, nf, nc, fc, cc, fa, ca, free, chs, R2, by go_num, G1.out, HN8.out, Lib.hid (looks_next HKL.out G2.out), hv.drop, HD3, HFL, HCL, HSB3⟩
                  case measure => simp [intOf]; omega
                · have ⟨h1, at_, c, hix, hat, hrm⟩ : ah ≤ nc ∧ ∃ at_ c, idxF (fun c => c.h == getN M3 (0 + (backN 8 + (4 + 8 * (la % 8)))) 4) chs = (at_ : Nat) ∧ chs[at_]? = some c ∧ getN M3 (0 + (backN 8 + (4 + 8 * (la % 8))) + 4) 4 ≤ c.rm := by
                    apply Classical.byContradiction
                    intro hcon
                    exact hno fun h1 at_ c h2 h3 => by
                      apply Classical.byContradiction
                      intro h4
                      exact hcon ⟨h1, at_, c, h2, h3, by omega⟩
                  obtain ⟨id_, hid⟩ : ∃ x, getN M3 (0 + (backN 8 + (4 + 8 * (la % 8)))) 4 = x := ⟨_, rfl⟩
                  obtain ⟨len_, hlen⟩ : ∃ x, getN M3 (0 + (backN 8 + (4 + 8 * (la % 8))) + 4) 4 = x := ⟨_, rfl⟩
                  rw [hid] at hix
                  rw [hlen] at hrm
                  have HIDE := Lib.hid hid
                  have HLENE := Lib.hid hlen
                  have HIX := Lib.hid hix
                  have HAT := Lib.hid hat
                  have HRM := Lib.hid hrm
                  have HA1 := Lib.hid h1
                  have HCID : Hid (c.h = id_) := Lib.hid (by
                    rcases idxF_or (fun c => c.h == id_) chs with hx | ⟨k2, x, hx, hc, hp⟩
                    · rw [hix] at hx; omega
                    · have : at_ = k2 := by rw [hix] at hx; omega
                      subst this
                      rw [hat] at hc
                      cases hc
                      simpa using hp)
                  have hatl := (List.getElem?_eq_some_iff.1 hat).1
                  have hcl := HCL.out
                  obtain ⟨nc1, hnc1⟩ : ∃ m, nc = m + 1 := ⟨nc - 1, by omega⟩
                  have HNC1 := Lib.hid hnc1
                  have q9 : IntKind.i64.wrap ((nc : Int) - 1) = (nc1 : Int) := by rw [IntWalk.i64_in _ (by have := HN8.out; omega)]; omega
                  have yn1 : ((nc1 : Int) != (nc1 : Int)) = false := by simp
                  obtain ⟨cb, co, _, _, e9, hq9⟩ := (hv.rd HD3.out.q.ch).some (by rw [cellsC_len]; omega)
                  clear hq9
                  cases e9
                  clear hno h1 hix hat hrm hid hlen hatl hcl hnc1
                  go_wp2_with (first
                    | ((with_reducible refine at_load (T := 28) ?_); refine wl_ldv rfl b7 rfl _ (hv.vars.row (by first | exact .head _ | exact .tail _ (.head _) | exact .tail _ (.tail _ (.head _)) | exact .tail _ (.tail _ (.tail _ (.head _))) | exact .tail _ (.tail _ (.tail _ (.tail _ (.head _)))) | exact .tail _ (.tail _ (.tail _ (.tail _ (.tail _ (.head _))))) | exact .tail _ (.tail _ (.tail _ (.tail _ (.tail _ (.tail _ (.head _)))))) | exact .tail _ (.tail _ (.tail _ (.tail _ (.tail _ (.tail _ (.tail _ (.head _))))))) | exact .tail _ (.tail _ (.tail _ (.tail _ (.tail _ (.tail _ (.tail _ (.tail _ (.head _)))))))) | exact .tail _ (.tail _ (.tail _ (.tail _ (.tail _ (.tail _ (.tail _ (.tail _ (.tail _ (.head _))))))))) | exact .tail _ (.tail _ (.tail _ (.tail _ (.tail _ (.tail _ (.tail _ (.tail _ (.tail _ (.tail _ (.head _)))))))))) | exact .tail _ (.tail _ (.tail _ (.tail _ (.tail _ (.tail _ (.tail _ (.tail _ (.tail _ (.tail _ (.tail _ (.head _))))))))))))) 1 _ Tryz.underlying28 rfl infoM (by decide) rfl ?_)
                    | ((with_reducible refine at_load (T := 32) ?_); refine wl_ldv rfl b8 rfl _ (hv.vars.row (by first | exact .head _ | exact .tail _ (.head _) | exact .tail _ (.tail _ (.head _)) | exact .tail _ (.tail _ (.tail _ (.head _))) | exact .tail _ (.tail _ (.tail _ (.tail _ (.head _)))) | exact .tail _ (.tail _ (.tail _ (.tail _ (.tail _ (.head _))))) | exact .tail _ (.tail _ (.tail _ (.tail _ (.tail _ (.tail _ (.head _)))))) | exact .tail _ (.tail _ (.tail _ (.tail _ (.tail _ (.tail _ (.tail _ (.head _))))))) | exact .tail _ (.tail _ (.tail _ (.tail _ (.tail _ (.tail _ (.tail _ (.tail _ (.head _)))))))) | exact .tail _ (.tail _ (.tail _ (.tail _ (.tail _ (.tail _ (.tail _ (.tail _ (.tail _ (.head _))))))))) | exact .tail _ (.tail _ (.tail _ (.tail _ (.tail _ (.tail _ (.tail _ (.tail _ (.tail _ (.tail _ (.head _)))))))))) | exact .tail _ (.tail _ (.tail _ (.tail _ (.tail _ (.tail _ (.tail _ (.tail _ (.tail _ (.tail _ (.tail _ (.head _))))))))))))) 6 _ Tryz.underlying32 rfl infoQ (by decide) rfl ?_)
                    | (go_at_call 12; (with_reducible refine (Poll_OY hv HD3.out HCL.out HUS.out HAH.out HLA.out HA0.out HA1.out HIDE.out HLENE.out HIX.out HAT.out HRM.out HNC1.out).mono ?_); rintro e w1 ⟨fa2, nf2, fc2, ca2, cc2, la2, free2, chs2, R3, rfl, hv1, hd1, g0, g1, g2, g3, hs1⟩; replace hv := hv1; have HDN := Lib.hid hd1; have G0 := Lib.hid g0; have G1 := Lib.hid g1; have G2 := Lib.hid g2; have G3 := Lib.hid g3; have HS3 := Lib.hid hs1; clear hv1 hd1 g0 g1 g2 g3 hs1)
                    | ((with_reducible refine at_alloc (T := 32) (dst := some 14) ?_); refine wl_newb rfl #[.int .i64 0, .int .i64 0, .slice none 0 0, .int .u16 0, .int .u16 0, .slice none 0 0] 32 (fun _ => rfl) ?_; intro b14 w2 hm2; replace hv := hv.madeAt hm2; clear hm2)
                    | ((with_reducible refine at_store (T := 32) ?_); refine wl_stv rfl b14 rfl _ rfl _ (hv.vars.row (by first | exact .head _ | exact .tail _ (.head _) | exact .tail _ (.tail _ (.head _)) | exact .tail _ (.tail _ (.tail _ (.head _))) | exact .tail _ (.tail _ (.tail _ (.tail _ (.head _)))) | exact .tail _ (.tail _ (.tail _ (.tail _ (.tail _ (.head _))))) | exact .tail _ (.tail _ (.tail _ (.tail _ (.tail _ (.tail _ (.head _)))))) | exact .tail _ (.tail _ (.tail _ (.tail _ (.tail _ (.tail _ (.tail _ (.head _))))))) | exact .tail _ (.tail _ (.tail _ (.tail _ (.tail _ (.tail _ (.tail _ (.tail _ (.head _)))))))) | exact .tail _ (.tail _ (.tail _ (.tail _ (.tail _ (.tail _ (.tail _ (.tail _ (.tail _ (.head _))))))))) | exact .tail _ (.tail _ (.tail _ (.tail _ (.tail _ (.tail _ (.tail _ (.tail _ (.tail _ (.tail _ (.head _)))))))))) | exact .tail _ (.tail _ (.tail _ (.tail _ (.tail _ (.tail _ (.tail _ (.tail _ (.tail _ (.tail _ (.tail _ (.head _))))))))))))) (hv.vars.sft (by first | exact .head _ | exact .tail _ (.head _) | exact .tail _ (.tail _ (.head _)) | exact .tail _ (.tail _ (.tail _ (.head _))) | exact .tail _ (.tail _ (.tail _ (.tail _ (.head _)))) | exact .tail _ (.tail _ (.tail _ (.tail _ (.tail _ (.head _))))) | exact .tail _ (.tail _ (.tail _ (.tail _ (.tail _ (.tail _ (.head _)))))) | exact .tail _ (.tail _ (.tail _ (.tail _ (.tail _ (.tail _ (.tail _ (.head _))))))) | exact .tail _ (.tail _ (.tail _ (.tail _ (.tail _ (.tail _ (.tail _ (.tail _ (.head _)))))))) | exact .tail _ (.tail _ (.tail _ (.tail _ (.tail _ (.tail _ (.tail _ (.tail _ (.tail _ (.head _))))))))) | exact .tail _ (.tail _ (.tail _ (.tail _ (.tail _ (.tail _ (.tail _ (.tail _ (.tail _ (.tail _ (.head _)))))))))) | exact .tail _ (.tail _ (.tail _ (.tail _ (.tail _ (.tail _ (.tail _ (.tail _ (.tail _ (.tail _ (.tail _ (.head _))))))))))))) 6 infoQ rfl rfl (by simp [Value.oneCell']) ?_; intro w2 hw2; (first | (replace hv := hv.set 0 rfl hw2) | (replace hv := hv.set 1 rfl hw2) | (replace hv := hv.set 2 rfl hw2) | (replace hv := hv.set 3 rfl hw2) | (replace hv := hv.set 4 rfl hw2) | (replace hv := hv.set 5 rfl hw2) | (replace hv := hv.set 6 rfl hw2) | (replace hv := hv.set 7 rfl hw2) | (replace hv := hv.set 8 rfl hw2) | (replace hv := hv.set 9 rfl hw2) | (replace hv := hv.set 10 rfl hw2) | (replace hv := hv.set 11 rfl hw2)); clear hw2; simp only [List.set] at hv)
                    | ((with_reducible refine at_load (T := 32) ?_); refine wl_ldv rfl b14 rfl _ (hv.vars.row (by first | exact .head _ | exact .tail _ (.head _) | exact .tail _ (.tail _ (.head _)) | exact .tail _ (.tail _ (.tail _ (.head _))) | exact .tail _ (.tail _ (.tail _ (.tail _ (.head _)))) | exact .tail _ (.tail _ (.tail _ (.tail _ (.tail _ (.head _))))) | exact .tail _ (.tail _ (.tail _ (.tail _ (.tail _ (.tail _ (.head _)))))) | exact .tail _ (.tail _ (.tail _ (.tail _ (.tail _ (.tail _ (.tail _ (.head _))))))) | exact .tail _ (.tail _ (.tail _ (.tail _ (.tail _ (.tail _ (.tail _ (.tail _ (.head _)))))))) | exact .tail _ (.tail _ (.tail _ (.tail _ (.tail _ (.tail _ (.tail _ (.tail _ (.tail _ (.head _))))))))) | exact .tail _ (.tail _ (.tail _ (.tail _ (.tail _ (.tail _ (.tail _ (.tail _ (.tail _ (.tail _ (.head _)))))))))) | exact .tail _ (.tail _ (.tail _ (.tail _ (.tail _ (.tail _ (.tail _ (.tail _ (.tail _ (.tail _ (.tail _ (.head _))))))))))))) 6 _ Tryz.underlying32 rfl infoQ (by decide) rfl ?_)
                    | (go_at_call 13; (with_reducible refine (Check_O hv HDN.out).mono ?_); rintro e w1 ⟨rfl, hn1⟩; replace hv := hv.new hn1; clear hn1)
                    | (go_at_call 14; (with_reducible refine (had_yes hv (HD3.out.mono HS3.out) HCL.out HN8.out HAT.out HCID.out HRM.out).mono ?_); rintro e w1 ⟨rfl, hn1⟩; replace hv := hv.new hn1; clear hn1)
                    | ((with_reducible refine at_load (T := 30) ?_); refine wl_ldc rfl b14 5 rfl _ (hv.vars.row (by first | exact .head _ | exact .tail _ (.head _) | exact .tail _ (.tail _ (.head _)) | exact .tail _ (.tail _ (.tail _ (.head _))) | exact .tail _ (.tail _ (.tail _ (.tail _ (.head _)))) | exact .tail _ (.tail _ (.tail _ (.tail _ (.tail _ (.head _))))) | exact .tail _ (.tail _ (.tail _ (.tail _ (.tail _ (.tail _ (.head _)))))) | exact .tail _ (.tail _ (.tail _ (.tail _ (.tail _ (.tail _ (.tail _ (.head _))))))))) _ Tryz.underlying30 rfl (.slice ca2 nc1 cc2) rfl ?_)
                    | ((with_reducible refine at_load (T := 30) ?_); refine wl_ldc rfl b8 5 rfl _ (hv.vars.row (by first | exact .head _ | exact .tail _ (.head _) | exact .tail _ (.tail _ (.head _)) | exact .tail _ (.tail _ (.tail _ (.head _))) | exact .tail _ (.tail _ (.tail _ (.tail _ (.head _)))) | exact .tail _ (.tail _ (.tail _ (.tail _ (.tail _ (.head _))))) | exact .tail _ (.tail _ (.tail _ (.tail _ (.tail _ (.tail _ (.head _)))))) | exact .tail _ (.tail _ (.tail _ (.tail _ (.tail _ (.tail _ (.tail _ (.head _))))))))) _ Tryz.underlying30 rfl (.slice (some ⟨cb, co, none⟩) nc cc) rfl ?_)
                    | ((with_reducible refine at_load (T := 3) ?_); refine wl_ldc rfl b14 0 rfl _ (hv.vars.row (by first | exact .head _ | exact .tail _ (.head _) | exact .tail _ (.tail _ (.head _)) | exact .tail _ (.tail _ (.tail _ (.head _))) | exact .tail _ (.tail _ (.tail _ (.tail _ (.head _)))) | exact .tail _ (.tail _ (.tail _ (.tail _ (.tail _ (.head _))))) | exact .tail _ (.tail _ (.tail _ (.tail _ (.tail _ (.tail _ (.head _)))))) | exact .tail _ (.tail _ (.tail _ (.tail _ (.tail _ (.tail _ (.tail _ (.head _))))))))) _ Tryz.underlying3 rfl (.int .i64 0) rfl ?_)
                    | ((with_reducible refine at_load (T := 3) ?_); refine wl_ldc rfl b8 0 rfl _ (hv.vars.row (by first | exact .head _ | exact .tail _ (.head _) | exact .tail _ (.tail _ (.head _)) | exact .tail _ (.tail _ (.tail _ (.head _))) | exact .tail _ (.tail _ (.tail _ (.tail _ (.head _)))) | exact .tail _ (.tail _ (.tail _ (.tail _ (.tail _ (.head _))))) | exact .tail _ (.tail _ (.tail _ (.tail _ (.tail _ (.tail _ (.head _)))))) | exact .tail _ (.tail _ (.tail _ (.tail _ (.tail _ (.tail _ (.tail _ (.head _))))))))) _ Tryz.underlying3 rfl (.int .i64 0) rfl ?_)
                    | ((with_reducible refine at_load (T := 29) ?_); refine wl_ldc rfl b14 3 rfl _ (hv.vars.row (by first | exact .head _ | exact .tail _ (.head _) | exact .tail _ (.tail _ (.head _)) | exact .tail _ (.tail _ (.tail _ (.head _))) | exact .tail _ (.tail _ (.tail _ (.tail _ (.head _)))) | exact .tail _ (.tail _ (.tail _ (.tail _ (.tail _ (.head _))))) | exact .tail _ (.tail _ (.tail _ (.tail _ (.tail _ (.tail _ (.head _)))))) | exact .tail _ (.tail _ (.tail _ (.tail _ (.tail _ (.tail _ (.tail _ (.head _))))))))) _ Tryz.underlying29 rfl (.int .u16 (ln : Nat)) rfl ?_)
                    | ((with_reducible refine at_load (T := 29) ?_); refine wl_ldc rfl b8 3 rfl _ (hv.vars.row (by first | exact .head _ | exact .tail _ (.head _) | exact .tail _ (.tail _ (.head _)) | exact .tail _ (.tail _ (.tail _ (.head _))) | exact .tail _ (.tail _ (.tail _ (.tail _ (.head _)))) | exact .tail _ (.tail _ (.tail _ (.tail _ (.tail _ (.head _))))) | exact .tail _ (.tail _ (.tail _ (.tail _ (.tail _ (.tail _ (.head _)))))) | exact .tail _ (.tail _ (.tail _ (.tail _ (.tail _ (.tail _ (.tail _ (.head _))))))))) _ Tryz.underlying29 rfl (.int .u16 (ln : Nat)) rfl ?_)
                    | ((with_reducible refine at_store (T := 32) ?_); refine wl_stv rfl b8 rfl _ rfl _ (hv.vars.row (by first | exact .head _ | exact .tail _ (.head _) | exact .tail _ (.tail _ (.head _)) | exact .tail _ (.tail _ (.tail _ (.head _))) | exact .tail _ (.tail _ (.tail _ (.tail _ (.head _)))) | exact .tail _ (.tail _ (.tail _ (.tail _ (.tail _ (.head _))))) | exact .tail _ (.tail _ (.tail _ (.tail _ (.tail _ (.tail _ (.head _)))))) | exact .tail _ (.tail _ (.tail _ (.tail _ (.tail _ (.tail _ (.tail _ (.head _))))))) | exact .tail _ (.tail _ (.tail _ (.tail _ (.tail _ (.tail _ (.tail _ (.tail _ (.head _)))))))) | exact .tail _ (.tail _ (.tail _ (.tail _ (.tail _ (.tail _ (.tail _ (.tail _ (.tail _ (.head _))))))))) | exact .tail _ (.tail _ (.tail _ (.tail _ (.tail _ (.tail _ (.tail _ (.tail _ (.tail _ (.tail _ (.head _)))))))))) | exact .tail _ (.tail _ (.tail _ (.tail _ (.tail _ (.tail _ (.tail _ (.tail _ (.tail _ (.tail _ (.tail _ (.head _))))))))))))) (hv.vars.sft (by first | exact .head _ | exact .tail _ (.head _) | exact .tail _ (.tail _ (.head _)) | exact .tail _ (.tail _ (.tail _ (.head _))) | exact .tail _ (.tail _ (.tail _ (.tail _ (.head _)))) | exact .tail _ (.tail _ (.tail _ (.tail _ (.tail _ (.head _))))) | exact .tail _ (.tail _ (.tail _ (.tail _ (.tail _ (.tail _ (.head _)))))) | exact .tail _ (.tail _ (.tail _ (.tail _ (.tail _ (.tail _ (.tail _ (.head _))))))) | exact .tail _ (.tail _ (.tail _ (.tail _ (.tail _ (.tail _ (.tail _ (.tail _ (.head _)))))))) | exact .tail _ (.tail _ (.tail _ (.tail _ (.tail _ (.tail _ (.tail _ (.tail _ (.tail _ (.head _))))))))) | exact .tail _ (.tail _ (.tail _ (.tail _ (.tail _ (.tail _ (.tail _ (.tail _ (.tail _ (.tail _ (.head _)))))))))) | exact .tail _ (.tail _ (.tail _ (.tail _ (.tail _ (.tail _ (.tail _ (.tail _ (.tail _ (.tail _ (.tail _ (.head _))))))))))))) 6 infoQ rfl rfl (by simp [Value.oneCell']) ?_; intro w2 hw2; (first | (replace hv := hv.set 0 rfl hw2) | (replace hv := hv.set 1 rfl hw2) | (replace hv := hv.set 2 rfl hw2) | (replace hv := hv.set 3 rfl hw2) | (replace hv := hv.set 4 rfl hw2) | (replace hv := hv.set 5 rfl hw2) | (replace hv := hv.set 6 rfl hw2) | (replace hv := hv.set 7 rfl hw2) | (replace hv := hv.set 8 rfl hw2) | (replace hv := hv.set 9 rfl hw2) | (replace hv := hv.set 10 rfl hw2) | (replace hv := hv.set 11 rfl hw2)); clear hw2; simp only [List.set] at hv))
                  go_roundw
                  case rel => exact ⟨k + 1, la2, nf2, nc1, fc2, cc2, fa2, ca2, free2, chs2, R3, by go_num, G2.out, le8_next HN8.out HNC1.out, Lib.hid (looks_next HKL.out G3.out), hv.drop, HDN, G0, G1, Lib.hid (fun x hx => HS3.out x (HSB3.out x hx))⟩
                  case measure => simp [intOf]; omega
            
        · have y9 : decide ((i : Int) < (tn : Int)) = false := decide_eq_false (by omega)
          have z9 : decide (i < tn) = false := decide_eq_false hi
          clear hi hi0 hla hn8
          go_wp2_with (first
            | (go_at_call 8; (with_reducible refine (heads08 _).mono ?_); rintro e w1 ⟨rfl, hn1⟩; replace hv := hv.new hn1; clear hn1))
          go_ret
          exact ⟨rfl, hv.below⟩
theorem QueueHostile_any (la0 : Option Addr) (ln lc : Nat) (ta : Option Addr) (tn tc : Nat) (ja : Option Addr) (jn jc : Nat) (lens : List Int) (tells : List Us) (jumps : List Nat) (w : World) (R : List (Nat × Value × List Value)) (hv : Mem w w [] R) (hl : (1, .slice la0 ln lc, lens.map (Value.int .i64)) ∈ R) (ht : (2, .slice ta tn tc, cellsU tells) ∈ R) (hj : (1, .slice ja jn jc, jumps.map fun n => Value.int .u16 (n : Nat)) ∈ R) (hU : ∀ u ∈ tells, u.1 < 4294967296 ∧ u.2 < 4294967296) (hJ : ∀ x ∈ jumps, x < 65536) : Calls Tryz.prog 3 #[.slice la0 ln lc, .slice ta tn tc, .slice ja jn jc] w (fun e w' => e = .returned (.bool true) ∧ New w w') := by
  by_cases h0 : 8 < ln
  · exact Host_c1 la0 ln lc ta tn tc ja jn jc lens tells jumps w R hv hl ht hj hU hJ h0
  · by_cases h1 : 60 < tn
    · exact Host_c2 la0 ln lc ta tn tc ja jn jc lens tells jumps w R hv hl ht hj hU hJ (by omega) h1
    · by_cases h2 : jn < tn
      · exact Host_c3 la0 ln lc ta tn tc ja jn jc lens tells jumps w R hv hl ht hj hU hJ (by omega) (by omega) h2
      · exact Host_yes la0 ln lc ta tn tc ja jn jc lens tells jumps w R hv hl ht hj hU hJ (by omega) (by omega) h2
end Go.Proofs.YtcelehhaggoijaaGreat
end
