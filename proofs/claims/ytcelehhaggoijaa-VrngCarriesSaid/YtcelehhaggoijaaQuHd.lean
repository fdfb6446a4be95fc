import Derived.Test.YtcelehhaggoijaaQuLaw
section
/-
  The layer's head: each call at its numbers.
-/
set_option linter.unusedVariables false
set_option linter.unusedSimpArgs false
namespace Go.Proofs.Qu
open Go Go.RowKit Go.Proofs.Nm
theorem OkQ.new {n : Nat} (hn : okN n) : OkQ n (List.range n) [] :=
  ⟨hn, (List.pairwise_lt_range (n := n)).imp fun h => Nat.le_of_lt h, fun c hc => (List.not_mem_nil hc).elim, by simp⟩
theorem ok4 : okN 4 := by unfold okN; omega
def HL : List Pt := [(150, 4, false), (160, 8, true)]
def HM0 : List Nat := List.replicate 200 0
def HM1 : List Nat := putB HM0 0 (List.replicate (sizeN 4) 0)
def HM2 : List Nat := addM HM1 0 4 0 (List.range 4) HL
def HM3 : List Nat := returnM HM2 0 4 0 0 5
theorem HM1_len : HM1.length = 200 := by decide +kernel
theorem HAdd : AddOk 200 HM1 0 4 (List.range 4) HL :=
  ⟨ok4, by rw [HM1_len]; decide, List.nodup_range, fun d hd => List.mem_range.1 hd, by decide, by decide, by decide, by decide⟩
theorem HM3_used : getN HM3 (0 + (backN 4 + 2)) 2 = 1 := by decide +kernel
theorem HM3_id : getN HM3 (0 + (backN 4 + (4 + 8 * (0 % 4)))) 4 = 0 := by decide +kernel
theorem HM3_len : getN HM3 (0 + (backN 4 + (4 + 8 * (0 % 4))) + 4) 4 = 5 := by decide +kernel
/-- A queue and the machine's memory, read. -/
structure Drv (R : List (Nat × Value × List Value)) (mn vb vc : Nat) (fv cv : Value) (M : List Nat) (n : Nat) (free : List Nat) (chs : List Chn) : Prop where
  m : InM R vb 0 mn vc M
  q : InQ R fv cv free chs
  ok : OkQ n free chs
theorem Drv.mono {R R' : List (Nat × Value × List Value)} {mn vb vc : Nat} {fv cv : Value} {M : List Nat} {n : Nat} {free : List Nat} {chs : List Chn} (h : Drv R mn vb vc fv cv M n free chs) (hs : ∀ x ∈ R, x ∈ R') : Drv R' mn vb vc fv cv M n free chs := ⟨h.m.mono hs, h.q.mono hs, h.ok⟩
end Go.Proofs.Qu
namespace Go.Proofs.Ytcelehhaggoijaa
open Go.Proofs.Qu Go.Proofs.Nm Go.RowKit Go.Proofs
/-- A new queue, its memory zeros where it lies. -/
theorem New_D {w0 w : World} {L : List (Nat × Array Value)} {R : List (Nat × Value × List Value)} {mb mo mn mc : Nat} {M : List Nat} (hv : Mem w0 w L R) (hm : InM R mb mo mn mc M) (base n : Nat) (hn : okN n) (hb : base + sizeN n ≤ mn) :
    Calls Try.prog 11 #[(.agg #[(.slice (some ⟨mb, mo, none⟩) mn mc)]), .int .i64 (base : Nat), .int .i64 (n : Nat)] w fun e w' => ∃ vb vc fa fc R', e = .returned (.tuple #[.agg #[.slice (some ⟨vb, 0, none⟩) mn vc], .agg #[.int .i64 (base : Nat), .int .i64 (n : Nat), .slice fa n fc, .int .u16 0, .int .u16 0, .slice none 0 0], .int .i64 0]) ∧ Mem w0 w' L R' ∧ Drv R' mn vb vc (.slice fa n fc) (.slice none 0 0) (putB M base (List.replicate (sizeN n) 0)) n (List.range n) [] ∧ ∀ x ∈ R, x ∈ R' := by
  refine (New_M hv hm base n hn hb).mono ?_
  rintro e w' ⟨b, c, fv, R', rfl, hv1, hi, hf, hs⟩
  obtain ⟨fa, fn, fc, rfl, g, _⟩ := id (hv1.rd hf)
  rw [intsI_len, List.length_range, Nat.mul_one] at g
  subst g
  have hv2 := hv1.fresh (Below.refl _ _) (FR.nil _ _ 3)
  exact ⟨b, c, fa, fc, _, rfl, hv2, ⟨hi.mono fun x hx => Mem.s hx, ⟨Mem.s hf, Mem.z, fun c hc => (List.not_mem_nil hc).elim⟩, OkQ.new hn⟩, fun x hx => Mem.s (hs x hx)⟩
/-- Parts handed over. -/
theorem Add_D {w0 w : World} {L : List (Nat × Array Value)} {R : List (Nat × Value × List Value)} {mn vb vc base n av la : Nat} {fv cv : Value} {M : List Nat} {free : List Nat} {chs : List Chn} (hv : Mem w0 w L R) (hd : Drv R mn vb vc fv cv M n free chs) (hb : base + sizeN n ≤ mn) {lv : Value} {l : List Pt} (hl : (3, lv, cellsPt l) ∈ R) (h1 : 0 < l.length) (hfl : l.length ≤ free.length) (hlie : ∀ p ∈ l, 0 < p.2.1 ∧ p.1 + p.2.1 ≤ mn) (hav : av < 65536) :
    Calls Try.prog 16 #[(.agg #[(.slice (some ⟨vb, 0, none⟩) mn vc)]), .agg #[.int .i64 (base : Nat), .int .i64 (n : Nat), fv, .int .u16 (av : Nat), .int .u16 (la : Nat), cv], lv] w fun e w' => ∃ vb' vc' fa fc ca cc c R', e = .returned (.tuple #[.agg #[.slice (some ⟨vb', 0, none⟩) mn vc'], .agg #[.int .i64 (base : Nat), .int .i64 (n : Nat), .slice fa (free.length - l.length) fc, .int .u16 ((av + 1) % 65536 : Nat), .int .u16 (la : Nat), .slice ca (chs.length + 1) cc], .int .i64 (free.getD 0 0 : Nat), .int .i64 0]) ∧ Mem w0 w' L R' ∧ Drv R' mn vb' vc' (.slice fa (free.length - l.length) fc) (.slice ca (chs.length + 1) cc) (addM M base n av free l) n (free.drop l.length) (chs ++ [c]) ∧ c.h = free.getD 0 0 ∧ c.ds = free.take l.length ∧ c.rm = roomP l l.length ∧ ∀ x ∈ R, x ∈ R' := by
  have hm8 := hd.m.most
  have hrm := roomP_le l 8192 (fun p hp => by have := hlie p hp; omega) l.length (Nat.le_refl _)
  have hfn : free.length ≤ 16 := by have := hd.ok.len; have := hd.ok.sz.le; omega
  have hrm2 : l.length * 8192 ≤ 16 * 8192 := Nat.mul_le_mul_right _ (by omega)
  refine (Add_ok hv hd.m hd.q hd.ok hb hl h1 hfl hlie hav).mono ?_
  rintro e w' ⟨b, c, fv', cv', ch, R', rfl, hv1, hi, hq, e1, e2, e3, hs⟩
  obtain ⟨fa, fn, fc, rfl, g, _⟩ := id (hv1.rd hq.fr)
  rw [intsI_len, List.length_drop, Nat.mul_one] at g
  subst g
  obtain ⟨ca, cn, cc, rfl, g, _⟩ := id (hv1.rd hq.ch)
  rw [cellsC_len, List.length_append] at g
  have hcn : cn = chs.length + 1 := by simp only [List.length_singleton] at g; omega
  subst hcn
  exact ⟨b, c, fa, fc, ca, cc, ch, R', rfl, hv1, ⟨hi, hq, hd.ok.add e1 e2 h1 hfl (by omega)⟩, e1, e2, e3, hs⟩
/-- A chain that came back. -/
theorem Poll_D {w0 w : World} {L : List (Nat × Array Value)} {R : List (Nat × Value × List Value)} {mn vb vc base n av la : Nat} {fv cv : Value} {M : List Nat} {free : List Nat} {chs : List Chn} (hv : Mem w0 w L R) (hd : Drv R mn vb vc fv cv M n free chs) (hb : base + sizeN n ≤ mn) {us ah : Nat} (hus : getN M (base + (backN n + 2)) 2 = us) (hah : (us + 65536 - la) % 65536 = ah) (hla : la < 65536) (hah0 : ah ≠ 0) (hahc : ah ≤ chs.length) {id_ len_ : Nat} (hid : getN M (base + (backN n + (4 + 8 * (la % n)))) 4 = id_) (hlen_ : getN M (base + (backN n + (4 + 8 * (la % n))) + 4) 4 = len_)
    {at_ : Nat} {c : Chn} (hix : idxF (fun c => c.h == id_) chs = (at_ : Int)) (hc : chs[at_]? = some c) (hrm : len_ ≤ c.rm) :
    Calls Try.prog 21 #[(.agg #[(.slice (some ⟨vb, 0, none⟩) mn vc)]), .agg #[.int .i64 (base : Nat), .int .i64 (n : Nat), fv, .int .u16 (av : Nat), .int .u16 (la : Nat), cv]] w fun e w' => ∃ fa fc ca cc free' R', e = .returned (.tuple #[.agg #[.int .i64 (base : Nat), .int .i64 (n : Nat), .slice fa (free.length + c.ds.length) fc, .int .u16 (av : Nat), .int .u16 ((la + 1) % 65536 : Nat), .slice ca (chs.length - 1) cc], .int .i64 (id_ : Nat), .int .i64 (len_ : Nat), .int .i64 0]) ∧ Mem w0 w' L R' ∧ Drv R' mn vb vc (.slice fa (free.length + c.ds.length) fc) (.slice ca (chs.length - 1) cc) M n free' (chs.eraseIdx at_) ∧ free'.Perm (free ++ c.ds) ∧ free'.Pairwise (· ≤ ·) ∧ ∀ x ∈ R, x ∈ R' := by
  have hat := (List.getElem?_eq_some_iff.1 hc).1
  refine (Poll_ok hv hd.m hd.q hd.ok hb hus hah hla hah0 hahc hid hlen_ hix hc hrm).mono ?_
  rintro e w' ⟨fv', cv', free', R', rfl, hv1, hq, hp, hs, hr⟩
  obtain ⟨fa, fn, fc, rfl, g, _⟩ := id (hv1.rd hq.fr)
  rw [intsI_len, Nat.mul_one, hp.length_eq, List.length_append] at g
  subst g
  obtain ⟨ca, cn, cc, rfl, g, _⟩ := id (hv1.rd hq.ch)
  rw [cellsC_len, List.length_eraseIdx, if_pos hat] at g
  have hcn : cn = chs.length - 1 := by omega
  subst hcn
  exact ⟨fa, fc, ca, cc, free', R', rfl, hv1, ⟨hd.m.mono hr, hq, hd.ok.poll hc hp hs⟩, hp, hs, hr⟩
/-- Zeros. -/
theorem wl_mkz {ops : Array Oper} {rest : List Oper} {a : Act} {w : World} {Q : Exit → Act → World → Prop} {dst : Option Tmp} {ty : TypeId} {pos : String} {after : Array Edge} {g : Option (Nat × Bool)} {x y : Operand} (hgd : Region.wanted (⟨dst, .makeSlice 23 x y, ty, pos, after, g⟩ : Oper) (yielded ops a.tmps) = true) (n : Nat) (hx : a.eval x = .int .i64 (n : Nat)) (hy : a.eval y = .int .i64 (n : Nat)) (hn : n ≤ 100000)
    (hk : ∀ b w', MadeAt w w' b (zerosR n) → wpList Try.prog ops Q rest (a.put dst (.slice (some ⟨b, 0, none⟩) n n)) w') : wpList Try.prog ops Q (⟨dst, .makeSlice 23 x y, ty, pos, after, g⟩ :: rest) a w := by
  refine wpList_want hgd fun K hK => ?_
  have h := run_mkz w n hn
  unfold Oper.wp
  simp [execOp, hx, hy, h, Result.andThen]
  exact hK _ _ (hk _ _ ⟨rfl, made_alloc w _ _⟩)
end Go.Proofs.Ytcelehhaggoijaa
end

section
/-
  What a ring's return leaves in memory, in plain numbers.
-/
set_option linter.unusedVariables false
set_option linter.unusedSimpArgs false
namespace Go.Proofs.Qu
open Go Go.RowKit Go.Proofs.Nm
theorem and_rng2 (x : Int) (m : Int) (k : Nat) (hm : m = (k : Int)) (hk : k < 4611686018427387904) : ∃ f : Nat, f ≤ k ∧ bits .and .i64 x m = (f : Int) := by
  have hb : (BitVec.ofInt IntKind.i64.bits x &&& BitVec.ofInt IntKind.i64.bits m).toNat ≤ k := by
    rw [BitVec.toNat_and]
    refine Nat.le_trans Nat.and_le_right ?_
    subst hm
    rw [BitVec.ofInt_natCast, BitVec.toNat_ofNat]
    exact Nat.mod_le _ _
  refine ⟨(BitVec.ofInt IntKind.i64.bits x &&& BitVec.ofInt IntKind.i64.bits m).toNat, hb, ?_⟩
  show IntKind.i64.wrap (((BitVec.ofInt IntKind.i64.bits x &&& BitVec.ofInt IntKind.i64.bits m).toNat : Nat) : Int) = _
  exact IntWalk.i64_in _ (by omega)
section
variable {M : List Nat} {base n i id len : Nat} (hn : okN n) (hb : base + sizeN n ≤ M.length)
include hn hb
theorem returnM_room : base + (backN n + (4 + 8 * (i % n))) + 8 ≤ M.length ∧ base + backN n + 2 + 2 ≤ base + (backN n + (4 + 8 * (i % n))) := by
  have h := offer_bnd (i := i) hn
  have h2 := Nat.mod_lt i (show 0 < n by have := hn.le; omega)
  generalize i % n = r at *
  omega
theorem returnM_len : (returnM M base n i id len).length = M.length := by
  have h := returnM_room (i := i) hn hb
  unfold returnM
  generalize base + (backN n + (4 + 8 * (i % n))) = p at *
  have e1 := putN_len (M := M) (p := p) (k := 4) (a := id) (by omega)
  have e2 := putN_len (M := putB M p (leB id 4)) (p := p + 4) (k := 4) (a := len) (by omega)
  rw [putN_len (by omega)]; omega
theorem returnM_idx : getN (returnM M base n i id len) (base + (backN n + 2)) 2 = (i + 1) % 65536 := by
  have h := returnM_room (i := i) hn hb
  unfold returnM
  generalize base + (backN n + (4 + 8 * (i % n))) = p at *
  have e1 := putN_len (M := M) (p := p) (k := 4) (a := id) (by omega)
  have e2 := putN_len (M := putB M p (leB id 4)) (p := p + 4) (k := 4) (a := len) (by omega)
  rw [show base + (backN n + 2) = base + backN n + 2 from by omega, getN_put_same (by decide) (by omega) (show (i + 1) % 65536 < 256 ^ 2 from Nat.mod_lt _ (by decide))]
theorem returnM_id (hi : id < 4294967296) : getN (returnM M base n i id len) (base + (backN n + (4 + 8 * (i % n)))) 4 = id := by
  have h := returnM_room (i := i) hn hb
  unfold returnM
  generalize base + (backN n + (4 + 8 * (i % n))) = p at *
  have e1 := putN_len (M := M) (p := p) (k := 4) (a := id) (by omega)
  have e2 := putN_len (M := putB M p (leB id 4)) (p := p + 4) (k := 4) (a := len) (by omega)
  rw [getN_put_apart (by omega) (by omega), getN_put_apart (by omega) (by omega), getN_put_same (by decide) (by omega) (by simpa using hi)]
theorem returnM_ln (hi : len < 4294967296) : getN (returnM M base n i id len) (base + (backN n + (4 + 8 * (i % n))) + 4) 4 = len := by
  have h := returnM_room (i := i) hn hb
  unfold returnM
  generalize base + (backN n + (4 + 8 * (i % n))) = p at *
  have e1 := putN_len (M := M) (p := p) (k := 4) (a := id) (by omega)
  have e2 := putN_len (M := putB M p (leB id 4)) (p := p + 4) (k := 4) (a := len) (by omega)
  rw [getN_put_apart (by omega) (by omega), getN_put_same (by decide) (by omega) (by simpa using hi)]
end
end Go.Proofs.Qu
end
