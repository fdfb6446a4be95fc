/-
  The walk of code.Put.
-/
import Derived.Test.YthpodinbbmgfoaaFrom
import Derived.Test.YthpodinbbmgfoaaCdRef
set_option linter.unusedVariables false
namespace Go.Proofs.Cd
open Go Go.Proofs.Nm
def encB (x : Inst) : List Nat := (x.1 % 256).toNat :: leB x.2 8
def putB (l : List Inst) : List Nat := l.flatMap encB
theorem encB_len (x : Inst) : (encB x).length = 9 := by simp [encB, leB_len]
theorem putB_len (l : List Inst) : (putB l).length = 9 * l.length := by
  induction l with
  | nil => rfl
  | cons a l ih => unfold putB at *; rw [List.flatMap_cons, List.length_append, ih, encB_len, List.length_cons]; omega
theorem cellsB_append (a b : List Nat) : cellsB (a ++ b) = cellsB a ++ cellsB b := by simp [cellsB]
theorem cells_enc (op : Int) (arg : Nat) : cellsB (encB (op, arg)) = .int .u8 (op % 256) :: cellsB (leB arg 8) := by
  unfold encB cellsB
  rw [List.map_cons, Int.toNat_of_nonneg (by omega)]
theorem putB_snoc (l : List Inst) (x : Inst) : putB (l ++ [x]) = putB l ++ encB x := by simp [putB]
/-- What Put answers. -/
def PutR (w : World) (l : List Inst) (e : Ending) (w' : World) : Prop := ∃ v, e = .returned (.tuple #[v, .int .i64 (if chk l then 0 else 290)]) ∧ Rd w' 1 v (cellsB (if chk l then putB l else [])) ∧ Go.RowKit.Below w.heap.size w w'
end Go.Proofs.Cd
namespace Go.Proofs.Ythpodinbbmgfoaa
open Go.Proofs.Cd Go.Proofs.Nm Go.RowKit
theorem infoI : (Try.prog.info? 77).map (·.size) = some 2 := by kernel_rfl
theorem rd_putRow {w : World} {b n : Nat} (h : w.rowD b = putRow n 8) (hs : w.soft b = true) : Rd w 1 (.slice (some ⟨b, 0, none⟩) 8 8) (cellsB (leB n 8)) := by
  refine ⟨some ⟨b, 0, none⟩, 8, 8, rfl, by rw [cellsB_len, leB_len], Nat.le_refl _, by unfold maxLen; omega, fun h => (by cases h), fun i hi => ⟨b, 0, rfl, soft_lt hs, ?_⟩⟩
  rw [cell_rowD, h, Nat.zero_add, ← putRow_full, Array.getElem?_toList]
set_option maxRecDepth 100000 in
set_option maxHeartbeats 1000000 in
theorem Put_any (v : Value) (l : List Inst) (w : World) (hrd : Rd w 2 v (cellsI l)) (hg : ∀ x ∈ l, goodI x) : Calls Try.prog 58 #[v] w (PutR w l) := by
  have kC : ∀ w, Rd w 2 v (cellsI l) → Calls Try.prog 68 #[v] w fun e w' => e = .returned (.bool (Cd.chk l)) ∧ New w w' := fun w h => Check_any v l w h hg
  have HRD := Lib.hid hrd
  obtain ⟨ao, n, cap, rfl, h1, h2, h3, h4, h5⟩ := hrd
  rw [len_cellsI] at h1
  have HL : Hid (l.length = n) := Lib.hid (by omega)
  have hm : n ≤ 9223372036854775807 := by unfold maxLen at h3; omega
  have HC := Lib.hid h5; clear h5
  clear h1 h2 h3 h4
  have HG := Lib.hid hg; clear hg
  have hv := Vars.nil w
  by_cases hck : Cd.chk l = true
  · have hn : 1 ≤ n ∧ n ≤ 128 := by
      unfold Cd.chk at hck
      simp only [Bool.and_eq_true, decide_eq_true_eq] at hck
      have := HL.out; omega
    have HCK := Lib.hid hck; clear hck
    have kC' : Calls Try.prog 68 #[.slice ao n cap] w fun e w' => e = .returned (.bool true) ∧ New w w' := by have := kC w HRD.out; rw [HCK.out] at this; exact this
    obtain ⟨hn1, hn2⟩ := hn
    have hn1i : (1 : Int) ≤ n := by omega
    have hn2i : (n : Int) ≤ 128 := by omega
    go_enter Try.func58, Try.ntmps58
    go_wp2_with (first
      | (go_at_call 68; (with_reducible refine kC'.mono ?_); rintro e w1 ⟨rfl, hn1⟩; replace hv := hv.new hn1; clear hn1)
      | ((with_reducible refine at_mkslice (T := 58) ?_); refine wl_make0 rfl hv 5 1 (.int .u8 0) 1 Try.underlying58 infoB _ _ (9 * n) rfl rfl (by omega) (by unfold maxLen; omega) ?_; intro b13 w2 ho))
    go_loopw [4, 16] (fun v i wr => ∃ k : Nat, k ≤ n ∧ i = .int .i64 k ∧ OwnS w wr [] 5 1 v (cellsB (putB (l.take k)))) (fun _ i _ => n - (intOf i).toNat)
    case atStart => exact ⟨0, by omega, rfl, ho⟩
    case round =>
      clear ho hv
      obtain ⟨k, hk, rfl, ho⟩ := hrel
      rename_i wr
      by_cases hk2 : k < n
      · have hki : (k : Int) < (n : Int) := by omega
        obtain ⟨op, arg, hx⟩ : ∃ op arg, l.getD k (1, 0) = (op, arg) := ⟨_, _, rfl⟩
        have hkl : k < l.length := by rw [HL.out]; exact hk2
        have hx' : l[k] = (op, arg) := by rw [← hx]; simp [List.getD, List.getElem?_eq_getElem hkl]
        obtain ⟨g1, g2, g3⟩ := HG.out l[k] (List.getElem_mem hkl)
        rw [hx'] at g1 g2 g3
        obtain ⟨b, o, rfl, hb, hc⟩ := HC.out (k * 2) (by rw [len_cellsI, HL.out]; omega)
        obtain ⟨b', o', e', _, hc2⟩ := HC.out (k * 2 + 1) (by rw [len_cellsI, HL.out]; omega)
        cases e'
        have c0 : wr.cell? ⟨b, o + k * 2, none⟩ = some (.int .i64 op) := by rw [ho.below.cell (p := ⟨b, o + k * 2, none⟩) hb, hc, get_op l hkl, hx']
        have c1 : wr.cell? ⟨b, o + k * 2 + 1, none⟩ = some (.int .u64 arg) := by rw [ho.below.cell (p := ⟨b, o + k * 2 + 1, none⟩) hb, Nat.add_assoc, hc2, get_arg l hkl, hx']
        have htk : l.take (k + 1) = l.take k ++ [(op, arg)] := by rw [List.take_succ_eq_append_getElem hkl, hx']
        have HTK := Lib.hid htk; clear htk
        have PL : Hid ((putB (l.take k)).length ≤ 1152) := Lib.hid (by rw [putB_len]; have := List.length_take_le k l; omega)
        dsimp only at g1 g2 g3
        have kL : ∀ w, Calls Try.prog 97 #[.int .u64 arg, .int .i64 8] w fun e w' => ∃ b, e = .returned (.slice (some ⟨b, 0, none⟩) 8 8) ∧ w'.rowD b = putRow arg 8 ∧ w'.soft b = true ∧ w.heap.size ≤ b ∧ New w w' := Le_any arg g3
        clear g1 g2 g3 hc hc2 hx hx'
        go_wp2_with (first
          | ((with_reducible refine at_alloc (T := 77) (dst := some 6) ?_); refine wl_newb rfl #[.int .i64 0, .int .u64 0] 77 (fun _ => rfl) ?_; intro b6 w2 hm2; replace ho := ho.madeAt hm2; clear hm2)
          | ((with_reducible refine at_store (T := 77) ?_); refine wl_stv rfl _ rfl _ rfl _ (ho.vars.row (by first | exact .head _ | exact .tail _ (.head _) | exact .tail _ (.tail _ (.head _)) | exact .tail _ (.tail _ (.tail _ (.head _))) | exact .tail _ (.tail _ (.tail _ (.tail _ (.head _)))) | exact .tail _ (.tail _ (.tail _ (.tail _ (.tail _ (.head _))))) | exact .tail _ (.tail _ (.tail _ (.tail _ (.tail _ (.tail _ (.head _)))))) | exact .tail _ (.tail _ (.tail _ (.tail _ (.tail _ (.tail _ (.tail _ (.head _))))))))) (ho.vars.sft (by first | exact .head _ | exact .tail _ (.head _) | exact .tail _ (.tail _ (.head _)) | exact .tail _ (.tail _ (.tail _ (.head _))) | exact .tail _ (.tail _ (.tail _ (.tail _ (.head _)))) | exact .tail _ (.tail _ (.tail _ (.tail _ (.tail _ (.head _))))) | exact .tail _ (.tail _ (.tail _ (.tail _ (.tail _ (.tail _ (.head _)))))) | exact .tail _ (.tail _ (.tail _ (.tail _ (.tail _ (.tail _ (.tail _ (.head _))))))))) 2 infoI rfl rfl (by simp [Value.oneCell']) ?_; intro w2 hw2; (first | (replace ho := ho.set 0 rfl hw2) | (replace ho := ho.set 1 rfl hw2) | (replace ho := ho.set 2 rfl hw2) | (replace ho := ho.set 3 rfl hw2)); clear hw2; simp only [List.set] at ho)
          | ((with_reducible refine at_load (T := 3) ?_); refine wl_ldc rfl _ _ rfl _ (ho.vars.row (by first | exact .head _ | exact .tail _ (.head _) | exact .tail _ (.tail _ (.head _)) | exact .tail _ (.tail _ (.tail _ (.head _))) | exact .tail _ (.tail _ (.tail _ (.tail _ (.head _)))) | exact .tail _ (.tail _ (.tail _ (.tail _ (.tail _ (.head _))))) | exact .tail _ (.tail _ (.tail _ (.tail _ (.tail _ (.tail _ (.head _)))))) | exact .tail _ (.tail _ (.tail _ (.tail _ (.tail _ (.tail _ (.tail _ (.head _))))))))) _ Try.underlying3 rfl _ rfl ?_)
          | ((with_reducible refine at_load (T := 22) ?_); refine wl_ldc rfl _ _ rfl _ (ho.vars.row (by first | exact .head _ | exact .tail _ (.head _) | exact .tail _ (.tail _ (.head _)) | exact .tail _ (.tail _ (.tail _ (.head _))) | exact .tail _ (.tail _ (.tail _ (.tail _ (.head _)))) | exact .tail _ (.tail _ (.tail _ (.tail _ (.tail _ (.head _))))) | exact .tail _ (.tail _ (.tail _ (.tail _ (.tail _ (.tail _ (.head _)))))) | exact .tail _ (.tail _ (.tail _ (.tail _ (.tail _ (.tail _ (.tail _ (.head _))))))))) _ Try.underlying22 rfl _ rfl ?_)
          | ((with_reducible refine at_append (t := 58) ?_); refine wl_app rfl rfl (ho.alloc _ _) (.int .u8 0) 1 Try.underlying58 infoB rfl (by decide) rfl (rd_alloc _ 1 1 _ _ rfl (by unfold maxLen; omega)) (fun x hx => by simp at hx; subst hx; rfl) (by have := PL.out; simp only [cellsB_len, List.length_append, List.length_cons, List.length_nil, leB_len]; unfold maxLen; omega) (by have := PL.out; simp only [cellsB_len, List.length_append, List.length_cons, List.length_nil, leB_len]; omega) ?_; clear ho; intro v2 w3 ho)
          | (go_at_call 97; (with_reducible refine (kL _).mono ?_); rintro e w1 ⟨b9, rfl, h1, h2, h3, h4⟩; replace ho := ho.new h4; have hu2 := rd_putRow h1 h2; clear h1 h2 h3 h4)
          | ((with_reducible refine at_append (t := 58) ?_); refine wl_app rfl rfl ho (.int .u8 0) 1 Try.underlying58 infoB rfl (by decide) rfl hu2 (fun x hx => by obtain ⟨y, _, rfl⟩ := List.mem_map.1 hx; rfl) (by have := PL.out; simp only [cellsB_len, List.length_append, List.length_cons, List.length_nil, leB_len]; unfold maxLen; omega) (by have := PL.out; simp only [cellsB_len, List.length_append, List.length_cons, List.length_nil, leB_len]; omega) ?_; clear ho hu2; intro v2 w3 ho))
        go_roundw
        case rel => exact ⟨k + 1, by omega, by go_num, by rw [HTK.out, putB_snoc, cellsB_append, cells_enc]; have := ho.keep (List.nil_sublist _); simpa using this⟩
        case measure => simp [intOf]; omega
      · have hki : ¬ (k : Int) < (n : Int) := by omega
        go_wp2
        go_ret2
        exact ⟨_, by rw [HCK.out]; rfl, by rw [HCK.out]; have := ho.rd; rw [List.take_of_length_le (by rw [HL.out]; omega)] at this; exact this, ho.below⟩
  · replace hck := b_false hck
    have HCK := Lib.hid hck; clear hck
    have kC' : Calls Try.prog 68 #[.slice ao n cap] w fun e w' => e = .returned (.bool false) ∧ New w w' := by have := kC w HRD.out; rw [HCK.out] at this; exact this
    go_enter Try.func58, Try.ntmps58
    go_wp2_with (go_at_call 68; (with_reducible refine kC'.mono ?_); rintro e w1 ⟨rfl, hn1⟩)
    go_ret2
    exact ⟨_, by rw [HCK.out]; rfl, by rw [HCK.out]; exact Rd.nil _ _, hn1⟩
end Go.Proofs.Ythpodinbbmgfoaa
