/-
  Few: is a stream not great?
-/
import Derived.Test.YtpbeemgigpaacaaWiSame
set_option linter.unusedVariables false
set_option linter.unusedSimpArgs false
namespace Go.Proofs.Ytpbeemgigpaacaa
open Go.Proofs.Wi Go.RowKit
def fewB (bs : List Nat) (l : List PcV) : Bool := decide (bs.length ≤ 600) && decide (l.length ≤ 200) && l.all fun p => decide (p.2.2.length ≤ 300)
set_option maxRecDepth 100000 in
set_option maxHeartbeats 4000000 in
theorem Few_great (next : Nat) (ba pa : Option Addr) (bn bc pn pc : Nat) (bs : List Nat) (l : List PcV) (w0 w : World) (L : List (Nat × Array Value)) (R : List (Nat × Value × List Value)) (hv0 : Mem w0 w L R) (hb : (1, .slice ba bn bc, cellsB bs) ∈ R) (hp : (2, .slice pa pn pc, cellsP l) ∈ R) (hal : AllP R l) (hg : 200 < pn) : Calls Try.prog 7 #[.agg #[.int .u32 (next : Nat), .slice ba bn bc, .slice pa pn pc]] w fun e w' => e = .returned (.bool (fewB bs l)) ∧ New w w' := by
  have hv := hv0.base
  have HP := Lib.hid hp
  have HA := Lib.hid hal
  have hbl := len_rd1 (hv0.rd hb)
  have hpl := len_rdP (hv0.rd hp)
  have HPL := Lib.hid hpl
  have e : fewB bs l = false := by
    unfold fewB
    rw [decide_eq_false (show ¬ l.length ≤ 200 by omega)]
    simp
  rw [e]
  have g1 : (0 : Int) < (pn : Int) := by omega
  have g2 : decide ((pn : Int) ≤ 200) = false := decide_eq_false (by omega)
  have g2n : ¬ (pn : Int) ≤ 200 := by omega
  clear hv0 hb hp hal hg hpl e
  by_cases h6 : (bn : Int) ≤ 600
  all_goals
    go_enter Try.func7, Try.ntmps7
    go_wp2_with (first
      | ((with_reducible refine at_box (T := 26) (dst := some 1) ?_); refine wl_newb rfl #[.int .u32 (next : Nat), .slice ba bn bc, .slice pa pn pc] 26 (fun _ => rfl) ?_; intro b1 w2 hm2; replace hv := hv.madeAt hm2; clear hm2))
    go_loopw [3] (fun i wr => i = .int .i64 0 ∧ Mem w wr [(b1, #[.int .u32 (next : Nat), .slice ba bn bc, .slice pa pn pc])] R) (fun i _ => 0)
    case atStart => exact ⟨rfl, hv⟩
    case round =>
      clear hv
      obtain ⟨rfl, hv⟩ := hrel
      go_wp2_with (first
        | ((with_reducible refine at_load (T := 24) ?_); refine wl_ldc rfl _ _ rfl _ (hv.vars.row (by first | exact .head _ | exact .tail _ (.head _) | exact .tail _ (.tail _ (.head _)) | exact .tail _ (.tail _ (.tail _ (.head _))) | exact .tail _ (.tail _ (.tail _ (.tail _ (.head _)))) | exact .tail _ (.tail _ (.tail _ (.tail _ (.tail _ (.head _))))) | exact .tail _ (.tail _ (.tail _ (.tail _ (.tail _ (.tail _ (.head _)))))) | exact .tail _ (.tail _ (.tail _ (.tail _ (.tail _ (.tail _ (.tail _ (.head _))))))))) _ Try.underlying24 rfl _ rfl ?_)
        | ((with_reducible refine at_load (T := 23) ?_); refine wl_ldc rfl _ _ rfl _ (hv.vars.row (by first | exact .head _ | exact .tail _ (.head _) | exact .tail _ (.tail _ (.head _)) | exact .tail _ (.tail _ (.tail _ (.head _))) | exact .tail _ (.tail _ (.tail _ (.tail _ (.head _)))) | exact .tail _ (.tail _ (.tail _ (.tail _ (.tail _ (.head _))))) | exact .tail _ (.tail _ (.tail _ (.tail _ (.tail _ (.tail _ (.head _)))))) | exact .tail _ (.tail _ (.tail _ (.tail _ (.tail _ (.tail _ (.tail _ (.head _))))))))) _ Try.underlying23 rfl _ rfl ?_))
      go_ret
      exact ⟨rfl, hv.below⟩
theorem Few_small (next : Nat) (ba pa : Option Addr) (bn bc pn pc : Nat) (bs : List Nat) (l : List PcV) (w0 w : World) (L : List (Nat × Array Value)) (R : List (Nat × Value × List Value)) (hv0 : Mem w0 w L R) (hb : (1, .slice ba bn bc, cellsB bs) ∈ R) (hp : (2, .slice pa pn pc, cellsP l) ∈ R) (hal : AllP R l) (hg : pn ≤ 200) : Calls Try.prog 7 #[.agg #[.int .u32 (next : Nat), .slice ba bn bc, .slice pa pn pc]] w fun e w' => e = .returned (.bool (fewB bs l)) ∧ New w w' := by
  have hv := hv0.base
  have HP := Lib.hid hp
  have HA := Lib.hid hal
  have hbl := len_rd1 (hv0.rd hb)
  have hpl := len_rdP (hv0.rd hp)
  have HPL := Lib.hid hpl
  have HE : Hid (fewB bs l = (decide ((bn : Int) ≤ 600) && l.all fun p => decide (p.2.2.length ≤ 300))) := Lib.hid (by
    unfold fewB
    rw [decide_eq_true (show l.length ≤ 200 by omega), Bool.and_true, hbl]
    congr 1
    exact decide_eq_decide.2 (by omega))
  obtain ⟨c, hc⟩ : ∃ c, fewB bs l = c := ⟨_, rfl⟩
  rw [hc]
  have HC := Lib.hid hc
  have g2 : decide ((pn : Int) ≤ 200) = true := decide_eq_true (by omega)
  have g2n : (pn : Int) ≤ 200 := by omega
  clear hv0 hb hp hal hpl hc hbl
  go_enter Try.func7, Try.ntmps7
  go_wp2_with (first
    | ((with_reducible refine at_box (T := 26) (dst := some 1) ?_); refine wl_newb rfl #[.int .u32 (next : Nat), .slice ba bn bc, .slice pa pn pc] 26 (fun _ => rfl) ?_; intro b1 w2 hm2; replace hv := hv.madeAt hm2; clear hm2))
  go_loopw [3] (fun i wr => ∃ k : Nat, k ≤ pn ∧ i = .int .i64 (k : Nat) ∧ Hid (∀ j (h : j < l.length), j < k → (l[j]).2.2.length ≤ 300) ∧ Mem w wr [(b1, #[.int .u32 (next : Nat), .slice ba bn bc, .slice pa pn pc])] R) (fun i _ => pn - (intOf i).toNat)
  case atStart => exact ⟨0, Nat.zero_le _, rfl, Lib.hid (fun j h hj => by omega), hv⟩
  case round =>
    clear hv
    obtain ⟨k, hk, rfl, HJ, hv⟩ := hrel
    by_cases hk2 : k < pn
    · have hki : (k : Int) < (pn : Int) := by omega
      have hkb : (k : Int) ≤ 1000 := by omega
      have hkl : k < l.length := by rw [HPL.out]; exact hk2
      obtain ⟨⟨sq, dv, d⟩, hx⟩ : ∃ x, l[k] = x := ⟨_, rfl⟩
      have hdm := HA.out l[k] (List.getElem_mem hkl)
      have hga := cellsP_get l hkl
      rw [hx] at hdm hga
      simp only at hdm hga
      obtain ⟨da, dn, dc, rfl, _⟩ := id (hv.rd hdm)
      have hdn : d.length = dn := len_rd1 (hv.rd hdm)
      have HK1 := Lib.hid hga.2
      have HX : Hid ((l[k]).2.2.length = dn) := Lib.hid (by rw [hx]; exact hdn)
      have HIN : Hid (l[k] ∈ l) := Lib.hid (List.getElem_mem hkl)
      obtain ⟨pb, po, _, _, e, _⟩ := (hv.rd HP.out).some (by rw [cellsP_len]; omega)
      cases e
      clear hx hdm hga hdn
      by_cases hd : 300 < dn
      · have y1 : decide ((300 : Int) < (dn : Int)) = true := decide_eq_true (by omega)
        have hc0 : c = false := by
          rw [← HC.out, HE.out]
          have : (l.all fun p => decide (p.2.2.length ≤ 300)) = false := by
            rw [List.all_eq_false]
            exact ⟨_, HIN.out, by simp only [decide_eq_true_eq]; rw [HX.out]; omega⟩
          rw [this, Bool.and_false]
        subst hc0

        go_wp2_with (first
          | ((with_reducible refine at_load (T := 24) ?_); refine wl_ldc rfl _ _ rfl _ (hv.vars.row (by first | exact .head _ | exact .tail _ (.head _) | exact .tail _ (.tail _ (.head _)) | exact .tail _ (.tail _ (.tail _ (.head _))) | exact .tail _ (.tail _ (.tail _ (.tail _ (.head _)))) | exact .tail _ (.tail _ (.tail _ (.tail _ (.tail _ (.head _))))) | exact .tail _ (.tail _ (.tail _ (.tail _ (.tail _ (.tail _ (.head _)))))) | exact .tail _ (.tail _ (.tail _ (.tail _ (.tail _ (.tail _ (.tail _ (.head _))))))))) _ Try.underlying24 rfl _ rfl ?_)
          | ((with_reducible refine at_load (T := 23) ?_); refine wl_rd rfl (hv.rd HP.out) (k * 2 + 1) rfl _ Try.underlying23 rfl (.slice da dn dc) HK1.out ?_))
        go_ret
        exact ⟨rfl, hv.below⟩
      · have y1 : decide ((300 : Int) < (dn : Int)) = false := decide_eq_false (by omega)
        have HJ2 : Hid (∀ j (h : j < l.length), j < k + 1 → (l[j]).2.2.length ≤ 300) := Lib.hid (fun j h hj => by
          rcases Nat.lt_or_ge j k with g | g
          · exact HJ.out j h g
          · have e : j = k := by omega
            subst e
            rw [HX.out]; omega)
        clear hd
        go_wp2_with (first
          | ((with_reducible refine at_load (T := 24) ?_); refine wl_ldc rfl _ _ rfl _ (hv.vars.row (by first | exact .head _ | exact .tail _ (.head _) | exact .tail _ (.tail _ (.head _)) | exact .tail _ (.tail _ (.tail _ (.head _))) | exact .tail _ (.tail _ (.tail _ (.tail _ (.head _)))) | exact .tail _ (.tail _ (.tail _ (.tail _ (.tail _ (.head _))))) | exact .tail _ (.tail _ (.tail _ (.tail _ (.tail _ (.tail _ (.head _)))))) | exact .tail _ (.tail _ (.tail _ (.tail _ (.tail _ (.tail _ (.tail _ (.head _))))))))) _ Try.underlying24 rfl _ rfl ?_)
          | ((with_reducible refine at_load (T := 23) ?_); refine wl_rd rfl (hv.rd HP.out) (k * 2 + 1) rfl _ Try.underlying23 rfl (.slice da dn dc) HK1.out ?_))
        go_roundw
        case rel => exact ⟨k + 1, by omega, by go_num, HJ2, hv⟩
        case measure => simp [intOf]; omega
    · have hki : ¬ (k : Int) < (pn : Int) := by omega
      have hall : (l.all fun p => decide (p.2.2.length ≤ 300)) = true := by
        rw [List.all_eq_true]
        intro p hp
        obtain ⟨j, hj, rfl⟩ := List.mem_iff_getElem.1 hp
        exact decide_eq_true (HJ.out j hj (by rw [HPL.out] at hj; omega))
      have hc0 : c = decide ((bn : Int) ≤ 600) := by rw [← HC.out, HE.out, hall, Bool.and_true]
      subst hc0
      clear hall
      by_cases h6 : (bn : Int) ≤ 600
      all_goals
        go_wp2_with (first
          | ((with_reducible refine at_load (T := 24) ?_); refine wl_ldc rfl _ _ rfl _ (hv.vars.row (by first | exact .head _ | exact .tail _ (.head _) | exact .tail _ (.tail _ (.head _)) | exact .tail _ (.tail _ (.tail _ (.head _))) | exact .tail _ (.tail _ (.tail _ (.tail _ (.head _)))) | exact .tail _ (.tail _ (.tail _ (.tail _ (.tail _ (.head _))))) | exact .tail _ (.tail _ (.tail _ (.tail _ (.tail _ (.tail _ (.head _)))))) | exact .tail _ (.tail _ (.tail _ (.tail _ (.tail _ (.tail _ (.tail _ (.head _))))))))) _ Try.underlying24 rfl _ rfl ?_)
          | ((with_reducible refine at_load (T := 23) ?_); refine wl_ldc rfl _ _ rfl _ (hv.vars.row (by first | exact .head _ | exact .tail _ (.head _) | exact .tail _ (.tail _ (.head _)) | exact .tail _ (.tail _ (.tail _ (.head _))) | exact .tail _ (.tail _ (.tail _ (.tail _ (.head _)))) | exact .tail _ (.tail _ (.tail _ (.tail _ (.tail _ (.head _))))) | exact .tail _ (.tail _ (.tail _ (.tail _ (.tail _ (.tail _ (.head _)))))) | exact .tail _ (.tail _ (.tail _ (.tail _ (.tail _ (.tail _ (.tail _ (.head _))))))))) _ Try.underlying23 rfl _ rfl ?_))
        go_ret
        first
          | exact ⟨rfl, hv.below⟩
          | (refine ⟨?_, hv.below⟩; simp [h6])
end Go.Proofs.Ytpbeemgigpaacaa
