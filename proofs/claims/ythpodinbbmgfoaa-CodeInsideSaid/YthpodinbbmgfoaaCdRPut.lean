/-
  The walk of the reference's Put.
-/
import Derived.Test.YthpodinbbmgfoaaCdPut
import Derived.Deep.RegionHeld3
set_option linter.unusedVariables false
namespace Go.Proofs.Ythpodinbbmgfoaa
open Go.Proofs.Cd Go.Proofs.Nm Go.RowKit
set_option maxRecDepth 100000 in
set_option maxHeartbeats 2000000 in
theorem RPut_any (v : Value) (l : List Inst) (w : World) (hrd : Rd w 2 v (cellsI l)) (hg : ∀ x ∈ l, goodI x) : Calls Try.prog 59 #[v] w (PutR w l) := by
  have kC : ∀ w, Rd w 2 v (cellsI l) → Calls Try.prog 69 #[v] w fun e w' => e = .returned (.bool (Cd.chk l)) ∧ New w w' := fun w h => RCheck_any v l w h hg
  have HRD := Lib.hid hrd
  obtain ⟨ao, n, cap, rfl, h1, h2, h3, h4, h5⟩ := hrd
  rw [len_cellsI] at h1
  have HL : Hid (l.length = n) := Lib.hid (by omega)
  have hm : n ≤ 9223372036854775807 := by unfold maxLen at h3; omega
  have HC := Lib.hid h5; clear h5
  clear h1 h2 h3 h4
  have HG := Lib.hid hg; clear hg
  have hv := Vars.nil w
  by_cases hck : Cd.chk l = true
  · have hn : 1 ≤ n ∧ n ≤ 128 := by
      unfold Cd.chk at hck
      simp only [Bool.and_eq_true, decide_eq_true_eq] at hck
      have := HL.out; omega
    have HCK := Lib.hid hck; clear hck
    have kC' : Calls Try.prog 69 #[.slice ao n cap] w fun e w' => e = .returned (.bool true) ∧ New w w' := by have := kC w HRD.out; rw [HCK.out] at this; exact this
    obtain ⟨hn1, hn2⟩ := hn
    have hn1i : (1 : Int) ≤ n := by omega
    have hn2i : (n : Int) ≤ 128 := by omega
    go_enter Try.func59, Try.ntmps59
    go_wp2_with (go_at_call 69; (with_reducible refine kC'.mono ?_); rintro e w1 ⟨rfl, hn1⟩; replace hv := hv.new hn1; clear hn1)
    go_loopw [4, 5] (fun v i wr => ∃ k : Nat, k ≤ n ∧ i = .int .i64 k ∧ OwnS w wr [] 5 1 v (cellsB (putB (l.take k)))) (fun _ i _ => n - (intOf i).toNat)
    case atStart => exact ⟨0, by omega, rfl, OwnS.nil hv⟩
    case round =>
      clear hv
      obtain ⟨k, hk, rfl, ho⟩ := hrel
      rename_i wr
      by_cases hk2 : k < n
      · have hki : (k : Int) < (n : Int) := by omega
        obtain ⟨op, arg, hx⟩ : ∃ op arg, l.getD k (1, 0) = (op, arg) := ⟨_, _, rfl⟩
        have hkl : k < l.length := by rw [HL.out]; exact hk2
        have hx' : l[k] = (op, arg) := by rw [← hx]; simp [List.getD, List.getElem?_eq_getElem hkl]
        obtain ⟨g1, g2, g3⟩ := HG.out l[k] (List.getElem_mem hkl)
        rw [hx'] at g1 g2 g3
        obtain ⟨b, o, rfl, hb, hc⟩ := HC.out (k * 2) (by rw [len_cellsI, HL.out]; omega)
        obtain ⟨b', o', e', _, hc2⟩ := HC.out (k * 2 + 1) (by rw [len_cellsI, HL.out]; omega)
        cases e'
        have d0 : w.cell? ⟨b, o + k * 2, none⟩ = some (.int .i64 op) := by rw [hc, get_op l hkl, hx']
        have d1 : w.cell? ⟨b, o + k * 2 + 1, none⟩ = some (.int .u64 arg) := by rw [Nat.add_assoc, hc2, get_arg l hkl, hx']
        have D0 := Lib.hid d0; clear d0
        have D1 := Lib.hid d1; clear d1
        have c0 : wr.cell? ⟨b, o + k * 2, none⟩ = some (.int .i64 op) := by rw [ho.below.cell (p := ⟨b, o + k * 2, none⟩) hb, D0.out]
        have c1 : wr.cell? ⟨b, o + k * 2 + 1, none⟩ = some (.int .u64 arg) := by rw [ho.below.cell (p := ⟨b, o + k * 2 + 1, none⟩) hb, D1.out]
        have kcell : ∀ w' : World, Below w.heap.size w w' → w'.cell? ⟨b, o + k * 2, none⟩ = some (.int .i64 op) ∧ w'.cell? ⟨b, o + k * 2 + 1, none⟩ = some (.int .u64 arg) := fun w' h => ⟨by rw [h.cell (p := ⟨b, o + k * 2, none⟩) hb, D0.out], by rw [h.cell (p := ⟨b, o + k * 2 + 1, none⟩) hb, D1.out]⟩
        have KC := Lib.hid kcell; clear kcell
        have htk : l.take (k + 1) = l.take k ++ [(op, arg)] := by rw [List.take_succ_eq_append_getElem hkl, hx']
        have HTK := Lib.hid htk; clear htk
        have PL : Hid ((putB (l.take k)).length ≤ 1152) := Lib.hid (by rw [putB_len]; have := List.length_take_le k l; omega)
        dsimp only at g1 g2 g3
        have kL : ∀ w, Calls Try.prog 98 #[.int .u64 arg, .int .i64 8] w fun e w' => ∃ v, e = .returned v ∧ Rd w' 1 v (cellsB (leB arg 8)) ∧ New w w' := RLe_any arg g3
        clear g1 g2 g3 hc hc2 hx hx'
        go_wp2_with fail
        go_region_held3 (fun w' => w'.cell? ⟨b, o + k * 2, none⟩ = some (.int .i64 op) ∧ w'.cell? ⟨b, o + k * 2 + 1, none⟩ = some (.int .u64 arg))
          (first
            | go_keep
            | exact KC.out _ ho.below)
          (first
            | (refine step_app (by rfl) (by rfl) (by rfl) ((ho.alloc _ _).drew) (.int .u8 0) 1 Try.underlying58 infoB rfl (by decide) (by rfl) (rd_alloc _ 1 1 _ _ rfl (by unfold maxLen; omega)).drew (fun x hx => by simp at hx; subst hx; rfl) (by have := PL.out; simp only [cellsB_len, List.length_append, List.length_cons, List.length_nil, leB_len]; unfold maxLen; omega) (by have := PL.out; simp only [cellsB_len, List.length_append, List.length_cons, List.length_nil, leB_len]; omega) ?_; clear ho; intro v2 w3 ho)
            | (refine step_app (by rfl) (by rfl) (by rfl) ho (.int .u8 0) 1 Try.underlying58 infoB rfl (by decide) (by rfl) hu2 (fun x hx => by obtain ⟨y, _, rfl⟩ := List.mem_map.1 hx; rfl) (by have := PL.out; simp only [cellsB_len, List.length_append, List.length_cons, List.length_nil, leB_len]; unfold maxLen; omega) (by have := PL.out; simp only [cellsB_len, List.length_append, List.length_cons, List.length_nil, leB_len]; omega) ?_; clear ho hu2; intro v2 w3 ho)
            | (go_at_call 98; (with_reducible refine (kL _).mono ?_); rintro e w1 ⟨u, rfl, hu2, h4⟩; replace ho := ho.new h4; clear h4))
        go_wp2
        go_roundw
        case rel => exact ⟨k + 1, by omega, by go_num, by rw [HTK.out, putB_snoc, cellsB_append, cells_enc]; simpa [IntKind.wrap_u8] using ho⟩
        case measure => simp [intOf]; omega
      · have hki : ¬ (k : Int) < (n : Int) := by omega
        go_wp2
        go_ret2
        exact ⟨_, by rw [HCK.out]; rfl, by rw [HCK.out]; have := ho.rd; rw [List.take_of_length_le (by rw [HL.out]; omega)] at this; exact this, ho.below⟩
  · replace hck := b_false hck
    have HCK := Lib.hid hck; clear hck
    have kC' : Calls Try.prog 69 #[.slice ao n cap] w fun e w' => e = .returned (.bool false) ∧ New w w' := by have := kC w HRD.out; rw [HCK.out] at this; exact this
    go_enter Try.func59, Try.ntmps59
    go_wp2_with (go_at_call 69; (with_reducible refine kC'.mono ?_); rintro e w1 ⟨rfl, hn1⟩)
    go_ret2
    exact ⟨_, by rw [HCK.out]; rfl, by rw [HCK.out]; exact Rd.nil _ _, hn1⟩
end Go.Proofs.Ythpodinbbmgfoaa
