/-
  The walks of code.table, Args, services, Fits, and the reference's Args, Fits.
-/
import Derived.Test.YthpodinbbmgfoaaGreatCdRef
import Derived.Test.YthpodinbbmgfoaaGreatKit2
set_option linter.unusedSimpArgs false
set_option linter.unusedVariables false
namespace Go.Proofs.Cd
open Go
/-- What is told ahead of the loops, by cell. -/
def tv0 (i : Nat) : Int := if i = 3 then 1 else if i = 4 then 1 else if i = 6 then 1 else if i = 7 then 2 else if i = 8 then 2 else if i = 9 then 2 else if i = 11 then 1 else if i = 38 then 1 else if i = 39 then 1 else if i = 42 then 1 else if i = 48 then 1 else if i = 49 then 1 else if i = 50 then 2 else if i = 68 then 1 else if i = 69 then 1 else if i = 70 then 1 else if i = 71 then 1 else if i = 72 then 1 else if i = 73 then 1 else 0
def tv (k1 k2 i : Nat) : Int := if (6 ≤ i / 2 ∧ i / 2 < k1) ∨ (26 ≤ i / 2 ∧ i / 2 < k2) then (if i % 2 = 0 then 2 else 1) else tv0 i
def tb (k1 k2 : Nat) : Array Value := ((List.range 76).map fun i => Value.int .i64 (tv k1 k2 i)).toArray
theorem size_tb (k1 k2 : Nat) : (tb k1 k2).size = 76 := by simp [tb]
theorem get_tb (k1 k2 i : Nat) : (tb k1 k2)[i]? = if i < 76 then some (.int .i64 (tv k1 k2 i)) else none := by
  unfold tb
  by_cases h : i < 76
  · rw [if_pos h]; simp [h]
  · rw [if_neg h]; simp; omega
theorem one_tb (k1 k2 : Nat) : (tb k1 k2).all (·.oneCell') = true := by
  rw [Array.all_eq_true_iff_forall_mem]
  intro v hv
  obtain ⟨i, hi, rfl⟩ := Array.mem_iff_getElem.1 hv
  have := get_tb k1 k2 i
  rw [Array.getElem?_eq_getElem hi, if_pos (by rw [size_tb] at hi; exact hi)] at this
  rw [Option.some.inj this]; rfl
theorem get_two (x y : Value) (j : Nat) : (#[x, y] : Array Value)[j]? = if j = 0 then some x else if j = 1 then some y else none := by
  match j with
  | 0 => rfl
  | 1 => rfl
  | j + 2 => rw [if_neg (by omega), if_neg (by omega), Array.getElem?_eq_none]; simp
theorem tv_same {k1 k2 k3 k4 i : Nat} (h : ((6 ≤ i / 2 ∧ i / 2 < k1) ∨ (26 ≤ i / 2 ∧ i / 2 < k2)) ↔ ((6 ≤ i / 2 ∧ i / 2 < k3) ∨ (26 ≤ i / 2 ∧ i / 2 < k4))) : tv k1 k2 i = tv k3 k4 i := by
  unfold tv
  by_cases g : (6 ≤ i / 2 ∧ i / 2 < k1) ∨ (26 ≤ i / 2 ∧ i / 2 < k2)
  · rw [if_pos g, if_pos (h.1 g)]
  · rw [if_neg g, if_neg (fun x => g (h.2 x))]
theorem tv_in {k1 k2 i : Nat} (h : (6 ≤ i / 2 ∧ i / 2 < k1) ∨ (26 ≤ i / 2 ∧ i / 2 < k2)) : tv k1 k2 i = if i % 2 = 0 then 2 else 1 := by unfold tv; rw [if_pos h]
theorem splice_tb {k1 k2 k3 k4 k : Nat} (hk : k < 38) (h1 : ∀ i, i / 2 ≠ k → (((6 ≤ i / 2 ∧ i / 2 < k1) ∨ (26 ≤ i / 2 ∧ i / 2 < k2)) ↔ ((6 ≤ i / 2 ∧ i / 2 < k3) ∨ (26 ≤ i / 2 ∧ i / 2 < k4)))) (h2 : (6 ≤ k ∧ k < k3) ∨ (26 ≤ k ∧ k < k4)) : splice (tb k1 k2) (k * 2) #[.int .i64 2, .int .i64 1] = tb k3 k4 := by
  apply Array.ext_getElem?
  intro i
  have hs : (#[Value.int .i64 2, Value.int .i64 1] : Array Value).size = 2 := rfl
  rw [get_splice _ _ _ (by rw [size_tb, hs]; omega), get_tb, get_tb, get_two, hs]
  by_cases a1 : i / 2 = k
  · have a2 : ¬ i < k * 2 := by omega
    have a3 : i < k * 2 + 2 := by omega
    have a4 : i < 76 := by omega
    rw [if_neg a2, if_pos a3, if_pos a4, tv_in (by rw [a1]; exact h2)]
    by_cases a5 : i = k * 2
    · have b1 : i - k * 2 = 0 := by omega
      have b2 : i % 2 = 0 := by omega
      rw [if_pos b1, if_pos b2]
    · have b1 : ¬ i - k * 2 = 0 := by omega
      have b3 : i - k * 2 = 1 := by omega
      have b2 : ¬ i % 2 = 0 := by omega
      rw [if_neg b1, if_pos b3, if_neg b2]
  · rw [tv_same (h1 i a1)]
    by_cases a2 : i < k * 2
    · rw [if_pos a2]
    · have a3 : ¬ i < k * 2 + 2 := by omega
      rw [if_neg a2, if_neg a3]
theorem extract_tb (k1 k2 : Nat) {i : Nat} (h : i < 38) : (tb k1 k2).extract (i * 2) (i * 2 + 2) = #[.int .i64 (tv k1 k2 (i * 2)), .int .i64 (tv k1 k2 (i * 2 + 1))] := by
  apply Array.ext_getElem?
  intro j
  rw [Array.getElem?_extract, size_tb, get_two, get_tb]
  by_cases h0 : j = 0
  · subst h0; rw [if_pos (by omega), if_pos (by omega), if_pos rfl]; rfl
  · by_cases h1 : j = 1
    · subst h1; rw [if_pos (by omega), if_pos (by omega), if_neg (by omega), if_pos rfl]
    · rw [if_neg (by omega), if_neg h0, if_neg h1]
end Go.Proofs.Cd
namespace Go.Proofs.YthpodinbbmgfoaaGreat
open Go.Proofs.Cd Go.RowKit
theorem info2 : (Tryz.prog.info? 84).map (·.size) = some 2 := by kernel_rfl
theorem info38 : (Tryz.prog.info? 85).map (·.size) = some 76 := by kernel_rfl
def tbz : Array Value := Array.replicate 76 (.int .i64 0)

set_option maxRecDepth 100000 in
set_option maxHeartbeats 1000000 in
theorem table_any (w : World) : Calls Tryz.prog 64 #[] w fun e w' => e = .returned (.agg (tb 19 34)) ∧ New w w' := by
  have hv := Vars.nil w
  go_enter Tryz.func64, Tryz.ntmps64
  go_wp2_with (first
    | ((with_reducible refine at_alloc (T := 85) (dst := some 0) ?_); refine wl_newb rfl tbz 85 (fun _ => rfl) ?_; intro b0 w2 hm2; replace hv := hv.madeAt hm2; clear hm2)
    | ((with_reducible refine at_alloc (T := 85) (dst := some 3) ?_); refine wl_newb rfl tbz 85 (fun _ => rfl) ?_; intro b3 w2 hm2; replace hv := hv.madeAt hm2; clear hm2)
    | ((with_reducible refine at_alloc (T := 84) (dst := some 1) ?_); refine wl_newb rfl #[.int .i64 0, .int .i64 0] 84 (fun _ => rfl) ?_; intro b1 w2 hm2; replace hv := hv.madeAt hm2; clear hm2)
    | ((with_reducible refine at_alloc (T := 84) (dst := some 2) ?_); refine wl_newb rfl #[.int .i64 0, .int .i64 0] 84 (fun _ => rfl) ?_; intro b2 w2 hm2; replace hv := hv.madeAt hm2; clear hm2)
    | ((with_reducible refine at_store (T := 84) ?_); refine wl_stv rfl _ rfl _ rfl _ (hv.row (by first | exact .head _ | exact .tail _ (.head _) | exact .tail _ (.tail _ (.head _)) | exact .tail _ (.tail _ (.tail _ (.head _))) | exact .tail _ (.tail _ (.tail _ (.tail _ (.head _)))) | exact .tail _ (.tail _ (.tail _ (.tail _ (.tail _ (.head _))))) | exact .tail _ (.tail _ (.tail _ (.tail _ (.tail _ (.tail _ (.head _)))))) | exact .tail _ (.tail _ (.tail _ (.tail _ (.tail _ (.tail _ (.tail _ (.head _))))))))) (hv.sft (by first | exact .head _ | exact .tail _ (.head _) | exact .tail _ (.tail _ (.head _)) | exact .tail _ (.tail _ (.tail _ (.head _))) | exact .tail _ (.tail _ (.tail _ (.tail _ (.head _)))) | exact .tail _ (.tail _ (.tail _ (.tail _ (.tail _ (.head _))))) | exact .tail _ (.tail _ (.tail _ (.tail _ (.tail _ (.tail _ (.head _)))))) | exact .tail _ (.tail _ (.tail _ (.tail _ (.tail _ (.tail _ (.tail _ (.head _))))))))) 2 info2 rfl rfl (by simp [Value.oneCell']) ?_; intro w2 hw2; (first | (replace hv := hv.set 0 rfl hw2) | (replace hv := hv.set 1 rfl hw2) | (replace hv := hv.set 2 rfl hw2) | (replace hv := hv.set 3 rfl hw2)); clear hw2; simp only [List.set] at hv)
    | ((with_reducible refine at_load (T := 84) ?_); refine wl_ldv rfl _ rfl _ (hv.row (by first | exact .head _ | exact .tail _ (.head _) | exact .tail _ (.tail _ (.head _)) | exact .tail _ (.tail _ (.tail _ (.head _))) | exact .tail _ (.tail _ (.tail _ (.tail _ (.head _)))) | exact .tail _ (.tail _ (.tail _ (.tail _ (.tail _ (.head _))))) | exact .tail _ (.tail _ (.tail _ (.tail _ (.tail _ (.tail _ (.head _)))))) | exact .tail _ (.tail _ (.tail _ (.tail _ (.tail _ (.tail _ (.tail _ (.head _))))))))) 2 _ Tryz.underlying84 rfl info2 (by decide) rfl ?_)
    | ((with_reducible refine at_store (T := 85) ?_); refine wl_stv rfl _ rfl (tb 6 26) (by kernel_rfl) _ (hv.row (by first | exact .head _ | exact .tail _ (.head _) | exact .tail _ (.tail _ (.head _)) | exact .tail _ (.tail _ (.tail _ (.head _))) | exact .tail _ (.tail _ (.tail _ (.tail _ (.head _)))) | exact .tail _ (.tail _ (.tail _ (.tail _ (.tail _ (.head _))))) | exact .tail _ (.tail _ (.tail _ (.tail _ (.tail _ (.tail _ (.head _)))))) | exact .tail _ (.tail _ (.tail _ (.tail _ (.tail _ (.tail _ (.tail _ (.head _))))))))) (hv.sft (by first | exact .head _ | exact .tail _ (.head _) | exact .tail _ (.tail _ (.head _)) | exact .tail _ (.tail _ (.tail _ (.head _))) | exact .tail _ (.tail _ (.tail _ (.tail _ (.head _)))) | exact .tail _ (.tail _ (.tail _ (.tail _ (.tail _ (.head _))))) | exact .tail _ (.tail _ (.tail _ (.tail _ (.tail _ (.tail _ (.head _)))))) | exact .tail _ (.tail _ (.tail _ (.tail _ (.tail _ (.tail _ (.tail _ (.head _))))))))) 76 info38 (size_tb _ _) (by kernel_rfl) (one_tb _ _) ?_; intro w2 hw2; (first | (replace hv := hv.set 0 rfl hw2) | (replace hv := hv.set 1 rfl hw2) | (replace hv := hv.set 2 rfl hw2) | (replace hv := hv.set 3 rfl hw2)); clear hw2; simp only [List.set] at hv))
  go_loopw [4] (fun i wr => ∃ k : Nat, 6 ≤ k ∧ k ≤ 19 ∧ i = .int .i64 k ∧ Vars w wr [(b3, tb k 26), (b2, #[Value.int .i64 1, Value.int .i64 1]), (b1, #[Value.int .i64 2, Value.int .i64 1]), (b0, tbz)]) (fun i _ => 19 - (intOf i).toNat)
  case atStart => exact ⟨6, by omega, by omega, rfl, hv⟩
  case round =>
    clear hv
    obtain ⟨k, hk1, hk, rfl, hv⟩ := hrel
    by_cases hk2 : k < 19
    · have hki : (k : Int) ≤ 18 := by omega
      go_wp2_with (first
        | ((with_reducible refine at_load (T := 84) ?_); refine wl_ldv rfl _ rfl _ (hv.row (by first | exact .head _ | exact .tail _ (.head _) | exact .tail _ (.tail _ (.head _)) | exact .tail _ (.tail _ (.tail _ (.head _))) | exact .tail _ (.tail _ (.tail _ (.tail _ (.head _)))) | exact .tail _ (.tail _ (.tail _ (.tail _ (.tail _ (.head _))))) | exact .tail _ (.tail _ (.tail _ (.tail _ (.tail _ (.tail _ (.head _)))))) | exact .tail _ (.tail _ (.tail _ (.tail _ (.tail _ (.tail _ (.tail _ (.head _))))))))) 2 _ Tryz.underlying84 rfl info2 (by decide) rfl ?_)
        | ((with_reducible refine at_store (T := 84) ?_); refine wl_stp rfl _ _ rfl _ rfl _ (hv.row (by first | exact .head _ | exact .tail _ (.head _) | exact .tail _ (.tail _ (.head _)) | exact .tail _ (.tail _ (.tail _ (.head _))) | exact .tail _ (.tail _ (.tail _ (.tail _ (.head _)))) | exact .tail _ (.tail _ (.tail _ (.tail _ (.tail _ (.head _))))) | exact .tail _ (.tail _ (.tail _ (.tail _ (.tail _ (.tail _ (.head _)))))) | exact .tail _ (.tail _ (.tail _ (.tail _ (.tail _ (.tail _ (.tail _ (.head _))))))))) (hv.sft (by first | exact .head _ | exact .tail _ (.head _) | exact .tail _ (.tail _ (.head _)) | exact .tail _ (.tail _ (.tail _ (.head _))) | exact .tail _ (.tail _ (.tail _ (.tail _ (.head _)))) | exact .tail _ (.tail _ (.tail _ (.tail _ (.tail _ (.head _))))) | exact .tail _ (.tail _ (.tail _ (.tail _ (.tail _ (.tail _ (.head _)))))) | exact .tail _ (.tail _ (.tail _ (.tail _ (.tail _ (.tail _ (.tail _ (.head _))))))))) 2 info2 rfl (by rw [size_tb]; omega) (by simp [Value.oneCell']) (tb (k + 1) 26) (splice_tb (by omega) (fun i hi => by omega) (by omega)) ?_; intro w2 hw2; (first | (replace hv := hv.set 0 rfl hw2) | (replace hv := hv.set 1 rfl hw2) | (replace hv := hv.set 2 rfl hw2) | (replace hv := hv.set 3 rfl hw2)); clear hw2; simp only [List.set] at hv))
      go_roundw
      case rel => exact ⟨k + 1, by omega, by omega, by go_num, hv⟩
      case measure => simp [intOf]; omega
    · have hki : ¬ (k : Int) ≤ 18 := by omega
      obtain rfl : k = 19 := by omega
      go_wp2
      go_loopw [5] (fun i wr => ∃ k : Nat, 26 ≤ k ∧ k ≤ 34 ∧ i = .int .i64 k ∧ Vars w wr [(b3, tb 19 k), (b2, #[Value.int .i64 1, Value.int .i64 1]), (b1, #[Value.int .i64 2, Value.int .i64 1]), (b0, tbz)]) (fun i _ => 34 - (intOf i).toNat)
      case atStart => exact ⟨26, by omega, by omega, rfl, hv⟩
      case round =>
        clear hv
        obtain ⟨k, hk1, hk, rfl, hv⟩ := hrel
        by_cases hk2 : k < 34
        · have hki : (k : Int) ≤ 33 := by omega
          go_wp2_with (first
            | ((with_reducible refine at_load (T := 84) ?_); refine wl_ldv rfl _ rfl _ (hv.row (by first | exact .head _ | exact .tail _ (.head _) | exact .tail _ (.tail _ (.head _)) | exact .tail _ (.tail _ (.tail _ (.head _))) | exact .tail _ (.tail _ (.tail _ (.tail _ (.head _)))) | exact .tail _ (.tail _ (.tail _ (.tail _ (.tail _ (.head _))))) | exact .tail _ (.tail _ (.tail _ (.tail _ (.tail _ (.tail _ (.head _)))))) | exact .tail _ (.tail _ (.tail _ (.tail _ (.tail _ (.tail _ (.tail _ (.head _))))))))) 2 _ Tryz.underlying84 rfl info2 (by decide) rfl ?_)
            | ((with_reducible refine at_store (T := 84) ?_); refine wl_stp rfl _ _ rfl _ rfl _ (hv.row (by first | exact .head _ | exact .tail _ (.head _) | exact .tail _ (.tail _ (.head _)) | exact .tail _ (.tail _ (.tail _ (.head _))) | exact .tail _ (.tail _ (.tail _ (.tail _ (.head _)))) | exact .tail _ (.tail _ (.tail _ (.tail _ (.tail _ (.head _))))) | exact .tail _ (.tail _ (.tail _ (.tail _ (.tail _ (.tail _ (.head _)))))) | exact .tail _ (.tail _ (.tail _ (.tail _ (.tail _ (.tail _ (.tail _ (.head _))))))))) (hv.sft (by first | exact .head _ | exact .tail _ (.head _) | exact .tail _ (.tail _ (.head _)) | exact .tail _ (.tail _ (.tail _ (.head _))) | exact .tail _ (.tail _ (.tail _ (.tail _ (.head _)))) | exact .tail _ (.tail _ (.tail _ (.tail _ (.tail _ (.head _))))) | exact .tail _ (.tail _ (.tail _ (.tail _ (.tail _ (.tail _ (.head _)))))) | exact .tail _ (.tail _ (.tail _ (.tail _ (.tail _ (.tail _ (.tail _ (.head _))))))))) 2 info2 rfl (by rw [size_tb]; omega) (by simp [Value.oneCell']) (tb 19 (k + 1)) (splice_tb (by omega) (fun i hi => by omega) (by omega)) ?_; intro w2 hw2; (first | (replace hv := hv.set 0 rfl hw2) | (replace hv := hv.set 1 rfl hw2) | (replace hv := hv.set 2 rfl hw2) | (replace hv := hv.set 3 rfl hw2)); clear hw2; simp only [List.set] at hv))
          go_roundw
          case rel => exact ⟨k + 1, by omega, by omega, by go_num, hv⟩
          case measure => simp [intOf]; omega
        · have hki : ¬ (k : Int) ≤ 33 := by omega
          obtain rfl : k = 34 := by omega
          go_wp2_with (first
            | ((with_reducible refine at_load (T := 85) ?_); refine wl_ldv rfl _ rfl _ (hv.row (by first | exact .head _ | exact .tail _ (.head _) | exact .tail _ (.tail _ (.head _)) | exact .tail _ (.tail _ (.tail _ (.head _))) | exact .tail _ (.tail _ (.tail _ (.tail _ (.head _)))) | exact .tail _ (.tail _ (.tail _ (.tail _ (.tail _ (.head _))))) | exact .tail _ (.tail _ (.tail _ (.tail _ (.tail _ (.tail _ (.head _)))))) | exact .tail _ (.tail _ (.tail _ (.tail _ (.tail _ (.tail _ (.tail _ (.head _))))))))) 76 _ Tryz.underlying85 rfl info38 (by decide) (size_tb _ _) ?_)
            | ((with_reducible refine at_store (T := 85) ?_); refine wl_stv rfl _ rfl (tb 19 34) rfl _ (hv.row (by first | exact .head _ | exact .tail _ (.head _) | exact .tail _ (.tail _ (.head _)) | exact .tail _ (.tail _ (.tail _ (.head _))) | exact .tail _ (.tail _ (.tail _ (.tail _ (.head _)))) | exact .tail _ (.tail _ (.tail _ (.tail _ (.tail _ (.head _))))) | exact .tail _ (.tail _ (.tail _ (.tail _ (.tail _ (.tail _ (.head _)))))) | exact .tail _ (.tail _ (.tail _ (.tail _ (.tail _ (.tail _ (.tail _ (.head _))))))))) (hv.sft (by first | exact .head _ | exact .tail _ (.head _) | exact .tail _ (.tail _ (.head _)) | exact .tail _ (.tail _ (.tail _ (.head _))) | exact .tail _ (.tail _ (.tail _ (.tail _ (.head _)))) | exact .tail _ (.tail _ (.tail _ (.tail _ (.tail _ (.head _))))) | exact .tail _ (.tail _ (.tail _ (.tail _ (.tail _ (.tail _ (.head _)))))) | exact .tail _ (.tail _ (.tail _ (.tail _ (.tail _ (.tail _ (.tail _ (.head _))))))))) 76 info38 (size_tb _ _) (by kernel_rfl) (one_tb _ _) ?_; intro w2 hw2; (first | (replace hv := hv.set 0 rfl hw2) | (replace hv := hv.set 1 rfl hw2) | (replace hv := hv.set 2 rfl hw2) | (replace hv := hv.set 3 rfl hw2)); clear hw2; simp only [List.set] at hv))
          refine ret_cell1 Tryz.results64 rfl (read_row _ _ 85 _ (hv.row (by first | exact .head _ | exact .tail _ (.head _) | exact .tail _ (.tail _ (.head _)) | exact .tail _ (.tail _ (.tail _ (.head _))) | exact .tail _ (.tail _ (.tail _ (.tail _ (.head _)))) | exact .tail _ (.tail _ (.tail _ (.tail _ (.tail _ (.head _))))) | exact .tail _ (.tail _ (.tail _ (.tail _ (.tail _ (.tail _ (.head _)))))) | exact .tail _ (.tail _ (.tail _ (.tail _ (.tail _ (.tail _ (.tail _ (.head _))))))))) 76 _ Tryz.underlying85 rfl info38 (by decide) (size_tb _ _)) rfl ⟨rfl, hv.below⟩
end Go.Proofs.YthpodinbbmgfoaaGreat
