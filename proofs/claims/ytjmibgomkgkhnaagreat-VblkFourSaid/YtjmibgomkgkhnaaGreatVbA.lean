/-
 A disk's driver (layer 9): the ring of sixteen at its numbers; a sector full of a byte.
-/
import Derived.Test.YtjmibgomkgkhnaaGreatVbV
import Derived.Test.YtjmibgomkgkhnaaGreatQuRV
import Derived.Test.YtjmibgomkgkhnaaGreatQuNx
set_option maxRecDepth 100000
set_option maxHeartbeats 4000000
set_option linter.unusedVariables false
set_option linter.unusedSimpArgs false
namespace Go.Proofs.Qu
open Go Go.RowKit Go.Proofs.Nm
theorem ok16 : okN 16 := by unfold okN; omega
theorem backN16 : backN 16 = 292 := rfl
theorem sizeN16 : sizeN 16 = 424 := rfl
def secA (c j : Nat) : Array Value := ((List.range 256).map fun i => Value.int .u8 ((if i < j then c else 0 : Nat) : Int)).toArray
theorem secA_size (c j : Nat) : (secA c j).size = 256 := by simp [secA]
theorem get_secA (c j i : Nat) : (secA c j)[i]? = if i < 256 then some (Value.int .u8 ((if i < j then c else 0 : Nat) : Int)) else none := by
 unfold secA
 rw [List.getElem?_toArray, List.getElem?_map]
 by_cases h : i < 256
 · rw [if_pos h, List.getElem?_range h]; rfl
 · rw [if_neg h, List.getElem?_eq_none (by simp; omega)]; rfl
theorem secA_set {c j : Nat} (h : j < 256) : (secA c j).setIfInBounds j (.int .u8 c) = secA c (j + 1) := by
 apply Array.ext_getElem?
 intro i
 rw [Array.getElem?_setIfInBounds, get_secA, get_secA, secA_size]
 by_cases h1 : j = i
 · subst h1; rw [if_pos rfl, if_pos h, if_pos h, if_pos (by omega)]
 · rw [if_neg h1]
   by_cases h2 : i < 256
   · rw [if_pos h2, if_pos h2]
     by_cases h3 : i < j
     · rw [if_pos h3, if_pos (by omega)]
     · rw [if_neg h3, if_neg (by omega)]
   · rw [if_neg h2, if_neg h2]
theorem secA_zero (c : Nat) : zerosR 256 = secA c 0 := by
 apply Array.ext_getElem?
 intro i
 rw [get_secA, ← Array.getElem?_toList, zerosR_list]
 unfold cellsB
 rw [List.map_replicate, List.getElem?_replicate]
 simp
theorem secA_full (c : Nat) : (secA c 256).toList = cellsB (List.replicate 256 c) := by
 apply List.ext_getElem?
 intro i
 rw [Array.getElem?_toList, get_secA]
 unfold cellsB
 rw [List.map_replicate, List.getElem?_replicate]
 by_cases h : i < 256
 · rw [if_pos h, if_pos h, if_pos h]
 · rw [if_neg h, if_neg h]
theorem sec_row (B c : Nat) : AppRow (.slice (some ⟨B, 0, none⟩) 256 256) 1 (cellsB (List.replicate 256 c)) (B, secA c 256) := by
 refine ⟨256, 256, rfl, by rw [cellsB_len, List.length_replicate], Nat.le_refl _, by unfold maxLen; omega, by rw [secA_size], ?_⟩
 show (secA c 256).toList.take _ = _
 rw [secA_full, List.take_of_length_le (by rw [cellsB_len, List.length_replicate]; omega)]
theorem sec_good {c : Nat} (h : c < 256) : goodB (List.replicate 256 c) := fun x hx => by rw [(List.mem_replicate.1 hx).2]; exact h
end Go.Proofs.Qu
namespace Go.Proofs.YtjmibgomkgkhnaaGreat
open Go.Proofs.Qu Go.Proofs.Nm Go.RowKit Go.Proofs
theorem sector_M {w0 w : World} {L : List (Nat × Array Value)} {R : List (Nat × Value × List Value)} (hv : Mem w0 w L R) (c : Nat) {ci : Int} (hc : ci = (c : Nat)) :
   Calls Tryz.prog 21 #[.int .u8 ci] w fun e w' => ∃ b, e = .returned (.slice (some ⟨b, 0, none⟩) 256 256) ∧ Mem w0 w' L ((1, .slice (some ⟨b, 0, none⟩) 256 256, cellsB (List.replicate 256 c)) :: R) := by
 subst hc
 go_enter Tryz.func21, Tryz.ntmps21
 go_wp2_with (first
   | ((with_reducible refine at_mkslice (T := 24) ?_); refine wl_mkz rfl 256 rfl rfl (by decide) ?_; intro b_5 w2 hm2; replace hv := hv.madeAt hm2; clear hm2))
 rw [secA_zero c] at hv
 go_loopw [4] (fun iv wr => ∃ k : Nat, k ≤ 256 ∧ iv = .int .i64 k ∧ Mem w0 wr ((b_5, secA c k) :: L) R) (fun iv _ => 256 - (intOf iv).toNat)
 case atStart => exact ⟨0, Nat.zero_le _, rfl, hv⟩
 case round =>
   clear hv
   obtain ⟨k, hk, rfl, hv⟩ := hrel
   by_cases hk2 : k < 256
   · have hki : (k : Int) < 256 := by omega
     have HK := Lib.hid hk2
     clear hk hk2
     go_wp2_with (first
       | ((with_reducible refine at_store (T := 5) ?_); refine wl_stc rfl b_5 k rfl (.int .u8 c) rfl _ (hv.vars.ro (b := b_5)) (hv.vars.so (b := b_5)) infoU8 rfl (by rw [secA_size]; exact HK.out) ?_; intro w2 hw2; replace hv := hv.set 0 rfl hw2; clear hw2; simp only [List.set] at hv; rw [secA_set HK.out] at hv))
     have hkn := HK.out
     go_roundw
     case rel => exact ⟨k + 1, by omega, by go_num, hv⟩
     case measure => simp [intOf]; omega
   · have hki : ¬ (k : Int) < 256 := by omega
     obtain rfl : k = 256 := by omega
     go_wp2
     go_ret
     exact ⟨b_5, rfl, Mem.yield (L1 := []) hv (sec_row b_5 c)⟩
theorem Poll_B {w0 w : World} {L : List (Nat × Array Value)} {R : List (Nat × Value × List Value)} (hv : Mem w0 w L R) {vb vc fc cc nf nc nc1 nf1 av la la1 us hd ln : Nat} {fa ca : Option Addr} {M free : List Nat} {chs : List Chn} (hm : InM R vb 0 1700 vc M) (hq : InQ R (.slice fa nf fc) (.slice ca nc cc) free chs) (ho : OkQ 16 free chs) (hus : getN M 294 2 = us) (hla : la + 1 = la1) (hla6 : la1 < 65536) (hlu : la < us) (hun : us ≤ la + nc) (hid : getN M (0 + (backN 16 + (4 + 8 * (la % 16)))) 4 = hd) (hlen : getN M (0 + (backN 16 + (4 + 8 * (la % 16))) + 4) 4 = ln) {c0 : Chn} {rest : List Chn} (hch : chs = c0 :: rest) (hh : c0.h = hd) (hr : ln ≤ c0.rm) (hf1 : nf + c0.ds.length = nf1) (hc1 : nc = nc1 + 1) (hu6 : us < 65536) : Calls Tryz.prog 32 #[.agg #[.slice (some ⟨vb, 0, none⟩) 1700 vc], .agg #[.int .i64 0, .int .i64 16, .slice fa nf fc, .int .u16 av, .int .u16 la, .slice ca nc cc]] w fun e w' => ∃ fa fc ca cc free' R', e = .returned (.tuple #[.agg #[.int .i64 0, .int .i64 16, .slice fa nf1 fc, .int .u16 av, .int .u16 la1, .slice ca nc1 cc], .int .i64 hd, .int .i64 ln, .int .i64 0]) ∧ Mem w0 w' L R' ∧ InQ R' (.slice fa nf1 fc) (.slice ca nc1 cc) free' rest ∧ OkQ 16 free' rest ∧ free'.Perm (free ++ c0.ds) ∧ free'.Pairwise (· ≤ ·) ∧ ∀ x ∈ R, x ∈ R' := by
 subst hch hla hf1 hc1
 have hcl : (c0 :: rest).length = nc1 + 1 := by
   obtain ⟨_, _, _, e, g, _⟩ := hv.rd hq.ch
   cases e
   rw [cellsC_len] at g; omega
 have hfl : free.length = nf := by
   obtain ⟨_, _, _, e, g, _⟩ := hv.rd hq.fr
   cases e
   rw [intsI_len] at g; omega
 refine (Poll_D (base := 0) (n := 16) (av := av) (la := la) hv ⟨hm, hq, ho⟩ (by decide) (us := us) (ah := us - la) hus (by omega) (by omega) (by omega) (by rw [hcl]; omega) (id_ := hd) (len_ := ln) hid hlen (at_ := 0) (c := c0) (idxF_some (k := 0) (x := c0) rfl (by rw [hh]; exact beq_self_eq_true _) (fun j hj => absurd hj (Nat.not_lt_zero _))) rfl hr).mono ?_
 rintro e w' ⟨fa', fc', ca', cc', free', R', rfl, hv1, hd1, hp, hs, hr⟩
 rw [hcl, hfl, Nat.add_sub_cancel] at hd1
 rw [hcl, hfl, Nat.add_sub_cancel, Nat.mod_eq_of_lt hla6]
 exact ⟨fa', fc', ca', cc', free', R', rfl, hv1, hd1.q, hd1.ok, hp, hs, hr⟩
theorem Pollno_B {w0 w : World} {L : List (Nat × Array Value)} {R : List (Nat × Value × List Value)} (hv : Mem w0 w L R) {vb vc fc cc nf nc av la : Nat} {fa ca : Option Addr} {M free : List Nat} {chs : List Chn} (hm : InM R vb 0 1700 vc M) (hq : InQ R (.slice fa nf fc) (.slice ca nc cc) free chs) (ho : OkQ 16 free chs) (hus : getN M 294 2 = la) (hla : la < 65536) : Calls Tryz.prog 32 #[.agg #[.slice (some ⟨vb, 0, none⟩) 1700 vc], .agg #[.int .i64 0, .int .i64 16, .slice fa nf fc, .int .u16 av, .int .u16 la, .slice ca nc cc]] w fun e w' => e = .returned (.tuple #[.agg #[.int .i64 0, .int .i64 16, .slice fa nf fc, .int .u16 av, .int .u16 la, .slice ca nc cc], .int .i64 0, .int .i64 0, .int .i64 7]) ∧ New w w' := Poll_none (base := 0) (n := 16) (av := av) (la := la) hv hm hq ho (by decide) (us := la) (ah := 0) hus (by omega) hla rfl
theorem Next_B {w0 w : World} {L : List (Nat × Array Value)} {R : List (Nat × Value × List Value)} (hv : Mem w0 w L R) {vb vc sn sn1 us av hd m : Nat} {M : List Nat} (l : List Pt) (hm : InM R vb 0 1700 vc M) (hsn : sn < 65535) (hsn1 : sn + 1 = sn1) (g1 : getN M 258 2 = av) (hne : av ≠ sn) (g2 : getN M (0 + (16 * 16 + (4 + 2 * (sn % 16)))) 2 = hd) (hc : ChainAt 1700 M 0 16 hd l) (hlm : l.length = m) (hm16 : m ≤ 16) (hm0 : 0 < m) : Calls Tryz.prog 29 #[.agg #[.slice (some ⟨vb, 0, none⟩) 1700 vc], .agg #[.int .i64 0, .int .i64 16, .int .u16 sn, .int .u16 us]] w fun e w' => ∃ gb go gc R', e = .returned (.tuple #[.agg #[.int .i64 0, .int .i64 16, .int .u16 sn1, .int .u16 us], .int .i64 hd, .slice (some ⟨gb, go, none⟩) m gc, .int .i64 0]) ∧ Mem w0 w' L R' ∧ (3, .slice (some ⟨gb, go, none⟩) m gc, cellsPt l) ∈ R' ∧ ∀ x ∈ R, x ∈ R' := by
 subst hlm
 refine (Next_M hv hm 0 16 sn us ok16 (by decide) (by omega) g1 hne g2 l hc hm16).mono ?_
 rintro e w' ⟨v, R', rfl, hv1, hl, hs⟩
 obtain ⟨gb, go, gn, gc, rfl, hq⟩ := (hv1.rd hl).some (by rw [cellsPt_len]; omega)
 obtain ⟨_, _, _, e0, g, _⟩ := hv1.rd hl
 cases e0
 have hg : gn = l.length := by
   rw [cellsPt_len] at g
   omega
 subst hg
 rw [Nat.mod_eq_of_lt (show sn + 1 < 65536 by omega), hsn1]
 exact ⟨gb, go, gc, R', rfl, hv1, hl, hs⟩
theorem Give_B {w0 w : World} {L : List (Nat × Array Value)} {R : List (Nat × Value × List Value)} (hv : Mem w0 w L R) {vb vc sn us us1 hd : Nat} {M : List Nat} (hm : InM R vb 0 1700 vc M) (hus : us < 65535) (hus1 : us + 1 = us1) (h1 : hd < 16) : Calls Tryz.prog 31 #[.agg #[.slice (some ⟨vb, 0, none⟩) 1700 vc], .agg #[.int .i64 0, .int .i64 16, .int .u16 sn, .int .u16 us], .int .i64 hd, .int .i64 1] w fun e w' => ∃ b c R', e = .returned (.tuple #[.agg #[.slice (some ⟨b, 0, none⟩) 1700 c], .agg #[.int .i64 0, .int .i64 16, .int .u16 sn, .int .u16 us1], .int .i64 0]) ∧ Mem w0 w' L R' ∧ InM R' b 0 1700 c (returnM M 0 16 us hd 1) ∧ ∀ x ∈ R, x ∈ R' := by
 refine (Give_M hv hm 0 16 sn us hd 1 ok16 (by decide) (by omega) (by omega) (by omega)).mono ?_
 rintro e w' ⟨b, c, R', rfl, hv1, hi, hs⟩
 rw [Nat.mod_eq_of_lt (show us + 1 < 65536 by omega), hus1]
 exact ⟨b, c, R', rfl, hv1, hi, hs⟩
theorem NewQ_B {w0 w : World} {L : List (Nat × Array Value)} {R : List (Nat × Value × List Value)} (hv : Mem w0 w L R) {vb vc : Nat} {M : List Nat} (hm : InM R vb 0 1700 vc M) : Calls Tryz.prog 26 #[.agg #[.slice (some ⟨vb, 0, none⟩) 1700 vc], .int .i64 0, .int .i64 16] w fun e w' => ∃ vb vc fa fc R', e = .returned (.tuple #[.agg #[.slice (some ⟨vb, 0, none⟩) 1700 vc], .agg #[.int .i64 0, .int .i64 16, .slice fa 16 fc, .int .u16 0, .int .u16 0, .slice none 0 0], .int .i64 0]) ∧ Mem w0 w' L R' ∧ InM R' vb 0 1700 vc (putB M 0 (List.replicate 424 0)) ∧ InQ R' (.slice fa 16 fc) (.slice none 0 0) (List.range 16) [] ∧ OkQ 16 (List.range 16) [] ∧ ∀ x ∈ R, x ∈ R' := by
 refine (New_D hv hm 0 16 ok16 (by decide)).mono ?_
 rintro e w' ⟨vb, vc, fa, fc, R', rfl, hv1, hd, hs⟩
 exact ⟨vb, vc, fa, fc, R', rfl, hv1, hd.m, hd.q, hd.ok, hs⟩
end Go.Proofs.YtjmibgomkgkhnaaGreat
