/-
  The reference's left.
-/
import Derived.Test.YthpodinbbmgfoaaGreatIqA
set_option linter.unusedVariables false
set_option linter.unusedSimpArgs false
namespace Go
open Go.RowKit
section
variable {P : Program} {fn : Func} {a : Act} {w : World} {R : Ending → World → Prop}
theorem ret_cellm {p t1 t2 : Tmp} {ty : TypeId} {ad : Addr} {v v1 v2 : Value} (h : fn.results = #[.tmp t1, .cell p ty, .tmp t2]) (hp : a.tmps.getD p undef = .pointer (some ad)) (hl : (loadVar ty ad).run P w = .ok v w)
    (h1 : a.tmps.getD t1 undef = v1) (h2 : a.tmps.getD t2 undef = v2) (hd : a.defers = []) (hR : R (.returned (.tuple #[v1, v, v2])) w) : bodyPost P fn R .ret a w :=
  bodyPost_ret (v := .tuple #[v1, v, v2]) (by have hp' : a.tmps[p]?.getD undef = .pointer (some ad) := by simpa using hp
                                              have h1' : a.tmps[t1]?.getD undef = v1 := by simpa using h1
                                              have h2' : a.tmps[t2]?.getD undef = v2 := by simpa using h2
                                              simp [results, h, hp', asAddr, hl, h1', h2']) hd hR
end
theorem AppRow.row {B : Nat} {z : Array Value} {n k : Nat} {c : List Value} (hz : z.size = n * k) (hc : z.toList = c) (hn : n ≤ maxLen) : AppRow (.slice (some ⟨B, 0, none⟩) n n) k c (B, z) :=
  ⟨n, n, rfl, by rw [← hc]; simpa using hz, Nat.le_refl _, hn, hz, by rw [← hc, ← hz]; exact List.take_of_length_le (by simp)⟩
end Go
namespace Go.Proofs.YthpodinbbmgfoaaGreat
open Go.Proofs.Ip Go.Proofs.Pt Go.Proofs.Pg Go.Proofs.Cd Go.RowKit
/-- What left answers. -/
def LeftR (w0 : World) (L : List (Nat × Array Value)) (R : List (Nat × Value × List Value)) (b : Nat → Bool) (LL : List Nat) (q' : Nat → Nat → Nat) (n : Int) (e : Ending) (w' : World) : Prop :=
  ∃ ra rn rcp, e = .returned (.tuple #[.slice ra rn rcp, .agg (pg b q'), .int .i64 n]) ∧ Mem w0 w' L ((1, .slice ra rn rcp, cellsU LL) :: R)
set_option maxRecDepth 100000 in
set_option maxHeartbeats 4000000 in
theorem rleft_push (arg : Nat) (b : Nat → Bool) (q : Nat → Nat → Nat) (lv sv : Value) (ws S : List Nat) (w0 w : World) (L : List (Nat × Array Value)) (R : List (Nat × Value × List Value)) (hv0 : Mem w0 w L R) (hw : (1, lv, cellsU ws) ∈ R) (hs : (1, sv, cellsU S) ∈ R) : Calls Tryz.prog 20 #[.agg #[.int .i64 1, .int .u64 (arg : Nat)], lv, sv, .agg (pg b q)] w (LeftR w0 L R b [arg] q 0) := by
  have hv := hv0
  have HW := Lib.hid hw
  have HS := Lib.hid hs
  clear hv0 hw hs
  go_enter Tryz.func20, Tryz.ntmps20
  go_wp2_with (first
    | ((with_reducible refine at_box (T := 48) (dst := some 4) ?_); refine wl_newb rfl #[.int .i64 1, .int .u64 (arg : Nat)] 48 (fun _ => rfl) ?_; intro b4 w2 hm2; replace hv := hv.madeAt hm2; clear hm2)
    | ((with_reducible refine at_box (T := 32) (dst := some 7) ?_); refine wl_newb rfl (pg b q) 32 (fun _ => rfl) ?_; intro b7 w2 hm2; replace hv := hv.madeAt hm2; clear hm2)
    | ((with_reducible refine at_alloc (T := 32) (dst := some 9) ?_); refine wl_newb rfl Tryz.zeroCells32 32 (fun _ => rfl) ?_; intro b9 w2 hm2; replace hv := hv.madeAt hm2; clear hm2)
    | ((with_reducible refine at_load (T := 3) ?_); refine wl_ldc rfl _ _ rfl _ (hv.vars.row (by first | exact .head _ | exact .tail _ (.head _) | exact .tail _ (.tail _ (.head _)) | exact .tail _ (.tail _ (.tail _ (.head _))) | exact .tail _ (.tail _ (.tail _ (.tail _ (.head _)))) | exact .tail _ (.tail _ (.tail _ (.tail _ (.tail _ (.head _))))) | exact .tail _ (.tail _ (.tail _ (.tail _ (.tail _ (.tail _ (.head _)))))) | exact .tail _ (.tail _ (.tail _ (.tail _ (.tail _ (.tail _ (.tail _ (.head _))))))))) _ Tryz.underlying3 rfl _ rfl ?_))
  refine Any.wp_region_walk [⟨[], none⟩, ⟨[1002], none⟩, ⟨[], some 5⟩, ⟨[1001], none⟩, ⟨[], none⟩, ⟨[1000], some 1000⟩, ⟨[], none⟩] [.val, .val, .bsl 1 #[.int .u64 (arg : Nat)], .val, .pure, .put, .val] (by kernel_rfl) (by kernel_rfl) (hv.vars.keep (List.sublist_append_left [(b9, Tryz.zeroCells32), (b7, pg b q), (b4, #[.int .i64 1, .int .u64 (arg : Nat)])] L)) ?_
  simp only [List.length_cons, List.length_nil, Nat.zero_add, Any.someVals]
  iterate 7 apply Exists.intro
  repeat (first
    | (refine Any.E_off rfl ?_; simp only [Act.put, List.setIfInBounds_toArray, List.set_cons_succ, List.set_cons_zero])
    | (apply Any.E_pureq rfl rfl rfl
       case h => intro K hK; go_big_quiet_op; (refine hK _ ?_; rfl)
       case hr => exact fun _ => rfl
       simp only [Act.put, List.setIfInBounds_toArray, List.set_cons_succ, List.set_cons_zero])
    | (apply Any.E_val rfl rfl rfl rfl
       case h =>
         intro E' hA K hK
         first
           | ((with_reducible refine Any.at_qload (T := 25) ?_); refine Any.q_ldc 1002 hA (by decide) rfl rfl _ Tryz.underlying25 rfl _ rfl ?_; refine hK _ ?_; rfl)
           | ((with_reducible refine Any.at_qload (T := 32) ?_); refine Any.q_ldv 1001 hA (by decide) rfl rfl 144 _ Tryz.underlying32 rfl infoPs (by decide) (size_pg _ _) ?_; refine hK _ ?_; rfl)
           | (go_big_quiet_op; first
             | (refine hK _ ?_; rfl)
             | (refine ⟨_, fun _ _ => rfl, ?_⟩; refine hK _ ?_; rfl)
             | (apply Exists.intro; refine ⟨fun w1 hw1 => ?_, ?_⟩; · (first
                 | fail)
                refine hK _ ?_; rfl))
       case hD => rfl
       simp only [Act.put, List.setIfInBounds_toArray, List.set_cons_succ, List.set_cons_zero])
    | ((with_reducible refine Any.at_ealloc ?_); refine Any.E_lay rfl rfl rfl (fun _ => rfl) ?_; intro B; simp only [Act.put, List.setIfInBounds_toArray, List.set_cons_succ, List.set_cons_zero])
    | ((with_reducible refine Any.at_ebsl ?_); refine Any.E_bsl (t := 25) rfl rfl rfl (fun w' => (by unfold execOp; go_simp)) ?_; intro B; simp only [Act.put, List.setIfInBounds_toArray, List.set_cons_succ, List.set_cons_zero])
    | ((with_reducible refine Any.at_estore (T := 32) ?_); refine Any.E_putv (T := 32) rfl rfl rfl rfl rfl rfl 144 infoPs (size_pg _ _) (by rw [zeroPs, size_pg]) (one_pg _ _) ?_; simp only [Act.put, List.setIfInBounds_toArray, List.set_cons_succ, List.set_cons_zero]))
  try any_goals exact undef
  refine Any.E_nil ?_
  intro w9 hE9
  replace hv : Mem w0 w9 ([(b9, pg b q), (b7, pg b q), (b4, #[.int .i64 1, .int .u64 (arg : Nat)]), (B, #[.int .u64 (arg : Nat)])] ++ L) R := hE9.memr hv [1000, 1001, 1002, 5] (by decide)
  clear hE9
  simp only [List.cons_append, List.nil_append] at hv
  replace hv := Mem.yield (L1 := [_, _, _]) hv (AppRow.row (k := 1) (n := 1) (c := cellsU [arg]) rfl rfl (by unfold maxLen; omega))
  simp only [List.cons_append, List.nil_append] at hv
  go_wp2
  refine ret_cellm Tryz.results20 rfl (read_row _ b9 32 _ (hv.vars.row (by first | exact .head _ | exact .tail _ (.head _) | exact .tail _ (.tail _ (.head _)) | exact .tail _ (.tail _ (.tail _ (.head _))) | exact .tail _ (.tail _ (.tail _ (.tail _ (.head _)))) | exact .tail _ (.tail _ (.tail _ (.tail _ (.tail _ (.head _))))) | exact .tail _ (.tail _ (.tail _ (.tail _ (.tail _ (.tail _ (.head _)))))) | exact .tail _ (.tail _ (.tail _ (.tail _ (.tail _ (.tail _ (.tail _ (.head _))))))))) 144 _ Tryz.underlying32 rfl infoPs (by decide) (size_pg _ _)) rfl rfl rfl ⟨_, _, _, rfl, hv.drop.drop.drop⟩
set_option maxRecDepth 100000 in
set_option maxHeartbeats 4000000 in
theorem rleft_nil2 (arg : Nat) (b : Nat → Bool) (q : Nat → Nat → Nat) (lv sv : Value) (ws S : List Nat) (w0 w : World) (L : List (Nat × Array Value)) (R : List (Nat × Value × List Value)) (hv0 : Mem w0 w L R) (hw : (1, lv, cellsU ws) ∈ R) (hs : (1, sv, cellsU S) ∈ R) : Calls Tryz.prog 20 #[.agg #[.int .i64 2, .int .u64 (arg : Nat)], lv, sv, .agg (pg b q)] w (LeftR w0 L R b [] q 0) := by
  have hv := hv0
  have HW := Lib.hid hw
  have HS := Lib.hid hs
  clear hv0 hw hs
  go_enter Tryz.func20, Tryz.ntmps20
  go_wp2_with (first
    | ((with_reducible refine at_box (T := 48) (dst := some 4) ?_); refine wl_newb rfl #[.int .i64 2, .int .u64 (arg : Nat)] 48 (fun _ => rfl) ?_; intro b4 w2 hm2; replace hv := hv.madeAt hm2; clear hm2)
    | ((with_reducible refine at_box (T := 32) (dst := some 7) ?_); refine wl_newb rfl (pg b q) 32 (fun _ => rfl) ?_; intro b7 w2 hm2; replace hv := hv.madeAt hm2; clear hm2)
    | ((with_reducible refine at_alloc (T := 32) (dst := some 9) ?_); refine wl_newb rfl Tryz.zeroCells32 32 (fun _ => rfl) ?_; intro b9 w2 hm2; replace hv := hv.madeAt hm2; clear hm2)
    | ((with_reducible refine at_load (T := 3) ?_); refine wl_ldc rfl _ _ rfl _ (hv.vars.row (by first | exact .head _ | exact .tail _ (.head _) | exact .tail _ (.tail _ (.head _)) | exact .tail _ (.tail _ (.tail _ (.head _))) | exact .tail _ (.tail _ (.tail _ (.tail _ (.head _)))) | exact .tail _ (.tail _ (.tail _ (.tail _ (.tail _ (.head _))))) | exact .tail _ (.tail _ (.tail _ (.tail _ (.tail _ (.tail _ (.head _)))))) | exact .tail _ (.tail _ (.tail _ (.tail _ (.tail _ (.tail _ (.tail _ (.head _))))))))) _ Tryz.underlying3 rfl _ rfl ?_))
  refine Any.wp_region_walk [⟨[1001], none⟩, ⟨[], none⟩, ⟨[1000], some 1000⟩, ⟨[], none⟩] [.val, .val, .put, .val] (by kernel_rfl) (by kernel_rfl) (hv.vars.keep (List.sublist_append_left [(b9, Tryz.zeroCells32), (b7, pg b q), (b4, #[.int .i64 2, .int .u64 (arg : Nat)])] L)) ?_
  simp only [List.length_cons, List.length_nil, Nat.zero_add, Any.someVals]
  iterate 4 apply Exists.intro
  repeat (first
    | (refine Any.E_off rfl ?_; simp only [Act.put, List.setIfInBounds_toArray, List.set_cons_succ, List.set_cons_zero])
    | (apply Any.E_pureq rfl rfl rfl
       case h => intro K hK; go_big_quiet_op; (refine hK _ ?_; rfl)
       case hr => exact fun _ => rfl
       simp only [Act.put, List.setIfInBounds_toArray, List.set_cons_succ, List.set_cons_zero])
    | (apply Any.E_val rfl rfl rfl rfl
       case h =>
         intro E' hA K hK
         first
           | ((with_reducible refine Any.at_qload (T := 32) ?_); refine Any.q_ldv 1001 hA (by decide) rfl rfl 144 _ Tryz.underlying32 rfl infoPs (by decide) (size_pg _ _) ?_; refine hK _ ?_; rfl)
           | (go_big_quiet_op; first
             | (refine hK _ ?_; rfl)
             | (refine ⟨_, fun _ _ => rfl, ?_⟩; refine hK _ ?_; rfl)
             | (apply Exists.intro; refine ⟨fun w1 hw1 => ?_, ?_⟩; · (first
                 | fail)
                refine hK _ ?_; rfl))
       case hD => rfl
       simp only [Act.put, List.setIfInBounds_toArray, List.set_cons_succ, List.set_cons_zero])
    | ((with_reducible refine Any.at_ealloc ?_); refine Any.E_lay rfl rfl rfl (fun _ => rfl) ?_; intro B; simp only [Act.put, List.setIfInBounds_toArray, List.set_cons_succ, List.set_cons_zero])
    | ((with_reducible refine Any.at_estore (T := 32) ?_); refine Any.E_putv (T := 32) rfl rfl rfl rfl rfl rfl 144 infoPs (size_pg _ _) (by rw [zeroPs, size_pg]) (one_pg _ _) ?_; simp only [Act.put, List.setIfInBounds_toArray, List.set_cons_succ, List.set_cons_zero]))
  try any_goals exact undef
  refine Any.E_nil ?_
  intro w9 hE9
  replace hv : Mem w0 w9 ([(b9, pg b q), (b7, pg b q), (b4, #[.int .i64 2, .int .u64 (arg : Nat)])] ++ L) R := hE9.memr hv [1000, 1001, 1002] (by decide)
  clear hE9
  simp only [List.cons_append, List.nil_append] at hv
  go_wp2
  refine ret_cellm Tryz.results20 rfl (read_row _ b9 32 _ (hv.vars.row (by first | exact .head _ | exact .tail _ (.head _) | exact .tail _ (.tail _ (.head _)) | exact .tail _ (.tail _ (.tail _ (.head _))) | exact .tail _ (.tail _ (.tail _ (.tail _ (.head _)))) | exact .tail _ (.tail _ (.tail _ (.tail _ (.tail _ (.head _))))) | exact .tail _ (.tail _ (.tail _ (.tail _ (.tail _ (.tail _ (.head _)))))) | exact .tail _ (.tail _ (.tail _ (.tail _ (.tail _ (.tail _ (.tail _ (.head _))))))))) 144 _ Tryz.underlying32 rfl infoPs (by decide) (size_pg _ _)) rfl rfl rfl ⟨_, _, _, rfl, (hv.drop.drop.drop).fresh (Below.refl _ _) (FR.nil _ _ 1)⟩
set_option maxRecDepth 100000 in
set_option maxHeartbeats 4000000 in
theorem rleft_nil21 (arg : Nat) (b : Nat → Bool) (q : Nat → Nat → Nat) (lv sv : Value) (ws S : List Nat) (w0 w : World) (L : List (Nat × Array Value)) (R : List (Nat × Value × List Value)) (hv0 : Mem w0 w L R) (hw : (1, lv, cellsU ws) ∈ R) (hs : (1, sv, cellsU S) ∈ R) : Calls Tryz.prog 20 #[.agg #[.int .i64 21, .int .u64 (arg : Nat)], lv, sv, .agg (pg b q)] w (LeftR w0 L R b [] q 0) := by
  have hv := hv0
  have HW := Lib.hid hw
  have HS := Lib.hid hs
  clear hv0 hw hs
  go_enter Tryz.func20, Tryz.ntmps20
  go_wp2_with (first
    | ((with_reducible refine at_box (T := 48) (dst := some 4) ?_); refine wl_newb rfl #[.int .i64 21, .int .u64 (arg : Nat)] 48 (fun _ => rfl) ?_; intro b4 w2 hm2; replace hv := hv.madeAt hm2; clear hm2)
    | ((with_reducible refine at_box (T := 32) (dst := some 7) ?_); refine wl_newb rfl (pg b q) 32 (fun _ => rfl) ?_; intro b7 w2 hm2; replace hv := hv.madeAt hm2; clear hm2)
    | ((with_reducible refine at_alloc (T := 32) (dst := some 9) ?_); refine wl_newb rfl Tryz.zeroCells32 32 (fun _ => rfl) ?_; intro b9 w2 hm2; replace hv := hv.madeAt hm2; clear hm2)
    | ((with_reducible refine at_load (T := 3) ?_); refine wl_ldc rfl _ _ rfl _ (hv.vars.row (by first | exact .head _ | exact .tail _ (.head _) | exact .tail _ (.tail _ (.head _)) | exact .tail _ (.tail _ (.tail _ (.head _))) | exact .tail _ (.tail _ (.tail _ (.tail _ (.head _)))) | exact .tail _ (.tail _ (.tail _ (.tail _ (.tail _ (.head _))))) | exact .tail _ (.tail _ (.tail _ (.tail _ (.tail _ (.tail _ (.head _)))))) | exact .tail _ (.tail _ (.tail _ (.tail _ (.tail _ (.tail _ (.tail _ (.head _))))))))) _ Tryz.underlying3 rfl _ rfl ?_))
  refine Any.wp_region_walk [⟨[1001], none⟩, ⟨[], none⟩, ⟨[1000], some 1000⟩, ⟨[], none⟩] [.val, .val, .put, .val] (by kernel_rfl) (by kernel_rfl) (hv.vars.keep (List.sublist_append_left [(b9, Tryz.zeroCells32), (b7, pg b q), (b4, #[.int .i64 21, .int .u64 (arg : Nat)])] L)) ?_
  simp only [List.length_cons, List.length_nil, Nat.zero_add, Any.someVals]
  iterate 4 apply Exists.intro
  repeat (first
    | (refine Any.E_off rfl ?_; simp only [Act.put, List.setIfInBounds_toArray, List.set_cons_succ, List.set_cons_zero])
    | (apply Any.E_pureq rfl rfl rfl
       case h => intro K hK; go_big_quiet_op; (refine hK _ ?_; rfl)
       case hr => exact fun _ => rfl
       simp only [Act.put, List.setIfInBounds_toArray, List.set_cons_succ, List.set_cons_zero])
    | (apply Any.E_val rfl rfl rfl rfl
       case h =>
         intro E' hA K hK
         first
           | ((with_reducible refine Any.at_qload (T := 32) ?_); refine Any.q_ldv 1001 hA (by decide) rfl rfl 144 _ Tryz.underlying32 rfl infoPs (by decide) (size_pg _ _) ?_; refine hK _ ?_; rfl)
           | (go_big_quiet_op; first
             | (refine hK _ ?_; rfl)
             | (refine ⟨_, fun _ _ => rfl, ?_⟩; refine hK _ ?_; rfl)
             | (apply Exists.intro; refine ⟨fun w1 hw1 => ?_, ?_⟩; · (first
                 | fail)
                refine hK _ ?_; rfl))
       case hD => rfl
       simp only [Act.put, List.setIfInBounds_toArray, List.set_cons_succ, List.set_cons_zero])
    | ((with_reducible refine Any.at_ealloc ?_); refine Any.E_lay rfl rfl rfl (fun _ => rfl) ?_; intro B; simp only [Act.put, List.setIfInBounds_toArray, List.set_cons_succ, List.set_cons_zero])
    | ((with_reducible refine Any.at_estore (T := 32) ?_); refine Any.E_putv (T := 32) rfl rfl rfl rfl rfl rfl 144 infoPs (size_pg _ _) (by rw [zeroPs, size_pg]) (one_pg _ _) ?_; simp only [Act.put, List.setIfInBounds_toArray, List.set_cons_succ, List.set_cons_zero]))
  try any_goals exact undef
  refine Any.E_nil ?_
  intro w9 hE9
  replace hv : Mem w0 w9 ([(b9, pg b q), (b7, pg b q), (b4, #[.int .i64 21, .int .u64 (arg : Nat)])] ++ L) R := hE9.memr hv [1000, 1001, 1002] (by decide)
  clear hE9
  simp only [List.cons_append, List.nil_append] at hv
  go_wp2
  refine ret_cellm Tryz.results20 rfl (read_row _ b9 32 _ (hv.vars.row (by first | exact .head _ | exact .tail _ (.head _) | exact .tail _ (.tail _ (.head _)) | exact .tail _ (.tail _ (.tail _ (.head _))) | exact .tail _ (.tail _ (.tail _ (.tail _ (.head _)))) | exact .tail _ (.tail _ (.tail _ (.tail _ (.tail _ (.head _))))) | exact .tail _ (.tail _ (.tail _ (.tail _ (.tail _ (.tail _ (.head _)))))) | exact .tail _ (.tail _ (.tail _ (.tail _ (.tail _ (.tail _ (.tail _ (.head _))))))))) 144 _ Tryz.underlying32 rfl infoPs (by decide) (size_pg _ _)) rfl rfl rfl ⟨_, _, _, rfl, (hv.drop.drop.drop).fresh (Below.refl _ _) (FR.nil _ _ 1)⟩
set_option maxRecDepth 100000 in
set_option maxHeartbeats 4000000 in
theorem rleft_dup (arg : Nat) (b : Nat → Bool) (q : Nat → Nat → Nat) (lv sv : Value) (ws S : List Nat) (w0 w : World) (L : List (Nat × Array Value)) (R : List (Nat × Value × List Value)) (hv0 : Mem w0 w L R) (hw : (1, lv, cellsU ws) ∈ R) (hs : (1, sv, cellsU S) ∈ R) (x : Nat) (hws : ws = [x]) : Calls Tryz.prog 20 #[.agg #[.int .i64 3, .int .u64 (arg : Nat)], lv, sv, .agg (pg b q)] w (LeftR w0 L R b [x, x] q 0) := by
  subst hws
  obtain ⟨lb, lo, ln, lc, rfl, e0, e1⟩ := (hv0.rd hw).some (by rw [cellsU_len]; simp)
  obtain rfl : ln = 1 := by simpa [cellsU] using e0.symm
  clear e0 e1
  have hv := hv0
  have HW := Lib.hid hw
  have HS := Lib.hid hs
  clear hv0 hw hs
  go_enter Tryz.func20, Tryz.ntmps20
  go_wp2_with (first
    | ((with_reducible refine at_box (T := 48) (dst := some 4) ?_); refine wl_newb rfl #[.int .i64 3, .int .u64 (arg : Nat)] 48 (fun _ => rfl) ?_; intro b4 w2 hm2; replace hv := hv.madeAt hm2; clear hm2)
    | ((with_reducible refine at_box (T := 32) (dst := some 7) ?_); refine wl_newb rfl (pg b q) 32 (fun _ => rfl) ?_; intro b7 w2 hm2; replace hv := hv.madeAt hm2; clear hm2)
    | ((with_reducible refine at_alloc (T := 32) (dst := some 9) ?_); refine wl_newb rfl Tryz.zeroCells32 32 (fun _ => rfl) ?_; intro b9 w2 hm2; replace hv := hv.madeAt hm2; clear hm2)
    | ((with_reducible refine at_load (T := 3) ?_); refine wl_ldc rfl _ _ rfl _ (hv.vars.row (by first | exact .head _ | exact .tail _ (.head _) | exact .tail _ (.tail _ (.head _)) | exact .tail _ (.tail _ (.tail _ (.head _))) | exact .tail _ (.tail _ (.tail _ (.tail _ (.head _)))) | exact .tail _ (.tail _ (.tail _ (.tail _ (.tail _ (.head _))))) | exact .tail _ (.tail _ (.tail _ (.tail _ (.tail _ (.tail _ (.head _)))))) | exact .tail _ (.tail _ (.tail _ (.tail _ (.tail _ (.tail _ (.tail _ (.head _))))))))) _ Tryz.underlying3 rfl _ rfl ?_))
  have HA := Lib.hid (Any.rd_start (hv.keep (List.sublist_append_left [(b9, Tryz.zeroCells32), (b7, pg b q), (b4, #[.int .i64 3, .int .u64 (arg : Nat)])] L)) HW.out)
  refine Any.wp_region_walk [⟨[], none⟩, ⟨[], none⟩, ⟨[], none⟩, ⟨[], none⟩, ⟨[], none⟩, ⟨[], none⟩, ⟨[], some 5⟩, ⟨[1001], none⟩, ⟨[], none⟩, ⟨[1000], some 1000⟩, ⟨[], none⟩] [.val, .val, .val, .val, .val, .val, .bsl 2 #[.int .u64 (x : Nat), .int .u64 (x : Nat)], .val, .pure, .put, .val] (by kernel_rfl) (by kernel_rfl) (hv.vars.keep (List.sublist_append_left [(b9, Tryz.zeroCells32), (b7, pg b q), (b4, #[.int .i64 3, .int .u64 (arg : Nat)])] L)) ?_
  simp only [List.length_cons, List.length_nil, Nat.zero_add, Any.someVals]
  iterate 11 apply Exists.intro
  repeat (first
    | (refine Any.E_off rfl ?_; simp only [Act.put, List.setIfInBounds_toArray, List.set_cons_succ, List.set_cons_zero])
    | (apply Any.E_pureq rfl rfl rfl
       case h => intro K hK; go_big_quiet_op; (refine hK _ ?_; rfl)
       case hr => exact fun _ => rfl
       simp only [Act.put, List.setIfInBounds_toArray, List.set_cons_succ, List.set_cons_zero])
    | (apply Any.E_val rfl rfl rfl rfl
       case h =>
         intro E' hA K hK
         first
           | ((with_reducible refine Any.at_qload (T := 25) ?_); refine Any.q_rd HA.out 0 rfl _ Tryz.underlying25 rfl (.int .u64 (x : Nat)) rfl ?_; refine hK _ ?_; rfl)
           | ((with_reducible refine Any.at_qload (T := 32) ?_); refine Any.q_ldv 1001 hA (by decide) rfl rfl 144 _ Tryz.underlying32 rfl infoPs (by decide) (size_pg _ _) ?_; refine hK _ ?_; rfl)
           | (go_big_quiet_op; first
             | (refine hK _ ?_; rfl)
             | (refine ⟨_, fun _ _ => rfl, ?_⟩; refine hK _ ?_; rfl)
             | (apply Exists.intro; refine ⟨fun w1 hw1 => ?_, ?_⟩; · (first
                 | fail)
                refine hK _ ?_; rfl))
       case hD => rfl
       simp only [Act.put, List.setIfInBounds_toArray, List.set_cons_succ, List.set_cons_zero])
    | ((with_reducible refine Any.at_ealloc ?_); refine Any.E_lay rfl rfl rfl (fun _ => rfl) ?_; intro B; simp only [Act.put, List.setIfInBounds_toArray, List.set_cons_succ, List.set_cons_zero])
    | ((with_reducible refine Any.at_ebsl ?_); refine Any.E_bsl (t := 25) rfl rfl rfl (fun w' => (by unfold execOp; go_simp)) ?_; intro B; simp only [Act.put, List.setIfInBounds_toArray, List.set_cons_succ, List.set_cons_zero])
    | ((with_reducible refine Any.at_estore (T := 32) ?_); refine Any.E_putv (T := 32) rfl rfl rfl rfl rfl rfl 144 infoPs (size_pg _ _) (by rw [zeroPs, size_pg]) (one_pg _ _) ?_; simp only [Act.put, List.setIfInBounds_toArray, List.set_cons_succ, List.set_cons_zero]))
  try any_goals exact undef
  refine Any.E_nil ?_
  intro w9 hE9
  replace hv : Mem w0 w9 ([(b9, pg b q), (b7, pg b q), (b4, #[.int .i64 3, .int .u64 (arg : Nat)]), (B, #[.int .u64 (x : Nat), .int .u64 (x : Nat)])] ++ L) R := hE9.memr hv [1000, 1001, 1002, 5] (by decide)
  clear hE9
  simp only [List.cons_append, List.nil_append] at hv
  replace hv := Mem.yield (L1 := [_, _, _]) hv (AppRow.row (k := 1) (n := 2) (c := cellsU [x, x]) rfl rfl (by unfold maxLen; omega))
  simp only [List.cons_append, List.nil_append] at hv
  go_wp2
  refine ret_cellm Tryz.results20 rfl (read_row _ b9 32 _ (hv.vars.row (by first | exact .head _ | exact .tail _ (.head _) | exact .tail _ (.tail _ (.head _)) | exact .tail _ (.tail _ (.tail _ (.head _))) | exact .tail _ (.tail _ (.tail _ (.tail _ (.head _)))) | exact .tail _ (.tail _ (.tail _ (.tail _ (.tail _ (.head _))))) | exact .tail _ (.tail _ (.tail _ (.tail _ (.tail _ (.tail _ (.head _)))))) | exact .tail _ (.tail _ (.tail _ (.tail _ (.tail _ (.tail _ (.tail _ (.head _))))))))) 144 _ Tryz.underlying32 rfl infoPs (by decide) (size_pg _ _)) rfl rfl rfl ⟨_, _, _, rfl, hv.drop.drop.drop⟩
set_option maxRecDepth 100000 in
set_option maxHeartbeats 4000000 in
theorem rleft_swap (arg : Nat) (b : Nat → Bool) (q : Nat → Nat → Nat) (lv sv : Value) (ws S : List Nat) (w0 w : World) (L : List (Nat × Array Value)) (R : List (Nat × Value × List Value)) (hv0 : Mem w0 w L R) (hw : (1, lv, cellsU ws) ∈ R) (hs : (1, sv, cellsU S) ∈ R) (x y : Nat) (hws : ws = [x, y]) : Calls Tryz.prog 20 #[.agg #[.int .i64 4, .int .u64 (arg : Nat)], lv, sv, .agg (pg b q)] w (LeftR w0 L R b [y, x] q 0) := by
  subst hws
  obtain ⟨lb, lo, ln, lc, rfl, e0, e1⟩ := (hv0.rd hw).some (by rw [cellsU_len]; simp)
  obtain rfl : ln = 2 := by simpa [cellsU] using e0.symm
  clear e0 e1
  have hv := hv0
  have HW := Lib.hid hw
  have HS := Lib.hid hs
  clear hv0 hw hs
  go_enter Tryz.func20, Tryz.ntmps20
  go_wp2_with (first
    | ((with_reducible refine at_box (T := 48) (dst := some 4) ?_); refine wl_newb rfl #[.int .i64 4, .int .u64 (arg : Nat)] 48 (fun _ => rfl) ?_; intro b4 w2 hm2; replace hv := hv.madeAt hm2; clear hm2)
    | ((with_reducible refine at_box (T := 32) (dst := some 7) ?_); refine wl_newb rfl (pg b q) 32 (fun _ => rfl) ?_; intro b7 w2 hm2; replace hv := hv.madeAt hm2; clear hm2)
    | ((with_reducible refine at_alloc (T := 32) (dst := some 9) ?_); refine wl_newb rfl Tryz.zeroCells32 32 (fun _ => rfl) ?_; intro b9 w2 hm2; replace hv := hv.madeAt hm2; clear hm2)
    | ((with_reducible refine at_load (T := 3) ?_); refine wl_ldc rfl _ _ rfl _ (hv.vars.row (by first | exact .head _ | exact .tail _ (.head _) | exact .tail _ (.tail _ (.head _)) | exact .tail _ (.tail _ (.tail _ (.head _))) | exact .tail _ (.tail _ (.tail _ (.tail _ (.head _)))) | exact .tail _ (.tail _ (.tail _ (.tail _ (.tail _ (.head _))))) | exact .tail _ (.tail _ (.tail _ (.tail _ (.tail _ (.tail _ (.head _)))))) | exact .tail _ (.tail _ (.tail _ (.tail _ (.tail _ (.tail _ (.tail _ (.head _))))))))) _ Tryz.underlying3 rfl _ rfl ?_))
  have HA := Lib.hid (Any.rd_start (hv.keep (List.sublist_append_left [(b9, Tryz.zeroCells32), (b7, pg b q), (b4, #[.int .i64 4, .int .u64 (arg : Nat)])] L)) HW.out)
  refine Any.wp_region_walk [⟨[], none⟩, ⟨[], none⟩, ⟨[], none⟩, ⟨[], none⟩, ⟨[], none⟩, ⟨[], none⟩, ⟨[], some 5⟩, ⟨[1001], none⟩, ⟨[], none⟩, ⟨[1000], some 1000⟩, ⟨[], none⟩] [.val, .val, .val, .val, .val, .val, .bsl 2 #[.int .u64 (y : Nat), .int .u64 (x : Nat)], .val, .pure, .put, .val] (by kernel_rfl) (by kernel_rfl) (hv.vars.keep (List.sublist_append_left [(b9, Tryz.zeroCells32), (b7, pg b q), (b4, #[.int .i64 4, .int .u64 (arg : Nat)])] L)) ?_
  simp only [List.length_cons, List.length_nil, Nat.zero_add, Any.someVals]
  iterate 11 apply Exists.intro
  repeat (first
    | (refine Any.E_off rfl ?_; simp only [Act.put, List.setIfInBounds_toArray, List.set_cons_succ, List.set_cons_zero])
    | (apply Any.E_pureq rfl rfl rfl
       case h => intro K hK; go_big_quiet_op; (refine hK _ ?_; rfl)
       case hr => exact fun _ => rfl
       simp only [Act.put, List.setIfInBounds_toArray, List.set_cons_succ, List.set_cons_zero])
    | (apply Any.E_val rfl rfl rfl rfl
       case h =>
         intro E' hA K hK
         first
           | ((with_reducible refine Any.at_qload (T := 25) ?_); refine Any.q_rd HA.out 0 rfl _ Tryz.underlying25 rfl (.int .u64 (x : Nat)) rfl ?_; refine hK _ ?_; rfl)
           | ((with_reducible refine Any.at_qload (T := 25) ?_); refine Any.q_rd HA.out 1 rfl _ Tryz.underlying25 rfl (.int .u64 (y : Nat)) rfl ?_; refine hK _ ?_; rfl)
           | ((with_reducible refine Any.at_qload (T := 32) ?_); refine Any.q_ldv 1001 hA (by decide) rfl rfl 144 _ Tryz.underlying32 rfl infoPs (by decide) (size_pg _ _) ?_; refine hK _ ?_; rfl)
           | (go_big_quiet_op; first
             | (refine hK _ ?_; rfl)
             | (refine ⟨_, fun _ _ => rfl, ?_⟩; refine hK _ ?_; rfl)
             | (apply Exists.intro; refine ⟨fun w1 hw1 => ?_, ?_⟩; · (first
                 | fail)
                refine hK _ ?_; rfl))
       case hD => rfl
       simp only [Act.put, List.setIfInBounds_toArray, List.set_cons_succ, List.set_cons_zero])
    | ((with_reducible refine Any.at_ealloc ?_); refine Any.E_lay rfl rfl rfl (fun _ => rfl) ?_; intro B; simp only [Act.put, List.setIfInBounds_toArray, List.set_cons_succ, List.set_cons_zero])
    | ((with_reducible refine Any.at_ebsl ?_); refine Any.E_bsl (t := 25) rfl rfl rfl (fun w' => (by unfold execOp; go_simp)) ?_; intro B; simp only [Act.put, List.setIfInBounds_toArray, List.set_cons_succ, List.set_cons_zero])
    | ((with_reducible refine Any.at_estore (T := 32) ?_); refine Any.E_putv (T := 32) rfl rfl rfl rfl rfl rfl 144 infoPs (size_pg _ _) (by rw [zeroPs, size_pg]) (one_pg _ _) ?_; simp only [Act.put, List.setIfInBounds_toArray, List.set_cons_succ, List.set_cons_zero]))
  try any_goals exact undef
  refine Any.E_nil ?_
  intro w9 hE9
  replace hv : Mem w0 w9 ([(b9, pg b q), (b7, pg b q), (b4, #[.int .i64 4, .int .u64 (arg : Nat)]), (B, #[.int .u64 (y : Nat), .int .u64 (x : Nat)])] ++ L) R := hE9.memr hv [1000, 1001, 1002, 5] (by decide)
  clear hE9
  simp only [List.cons_append, List.nil_append] at hv
  replace hv := Mem.yield (L1 := [_, _, _]) hv (AppRow.row (k := 1) (n := 2) (c := cellsU [y, x]) rfl rfl (by unfold maxLen; omega))
  simp only [List.cons_append, List.nil_append] at hv
  go_wp2
  refine ret_cellm Tryz.results20 rfl (read_row _ b9 32 _ (hv.vars.row (by first | exact .head _ | exact .tail _ (.head _) | exact .tail _ (.tail _ (.head _)) | exact .tail _ (.tail _ (.tail _ (.head _))) | exact .tail _ (.tail _ (.tail _ (.tail _ (.head _)))) | exact .tail _ (.tail _ (.tail _ (.tail _ (.tail _ (.head _))))) | exact .tail _ (.tail _ (.tail _ (.tail _ (.tail _ (.tail _ (.head _)))))) | exact .tail _ (.tail _ (.tail _ (.tail _ (.tail _ (.tail _ (.tail _ (.head _))))))))) 144 _ Tryz.underlying32 rfl infoPs (by decide) (size_pg _ _)) rfl rfl rfl ⟨_, _, _, rfl, hv.drop.drop.drop⟩
set_option maxRecDepth 100000 in
set_option maxHeartbeats 4000000 in
theorem rleft_over_n (arg : Nat) (b : Nat → Bool) (q : Nat → Nat → Nat) (lv sv : Value) (ws S : List Nat) (w0 w : World) (L : List (Nat × Array Value)) (R : List (Nat × Value × List Value)) (hv0 : Mem w0 w L R) (hw : (1, lv, cellsU ws) ∈ R) (hs : (1, sv, cellsU S) ∈ R) (hn : S.length ≤ arg) : Calls Tryz.prog 20 #[.agg #[.int .i64 5, .int .u64 (arg : Nat)], lv, sv, .agg (pg b q)] w (LeftR w0 L R b [] q 300) := by
  obtain ⟨sa, sn, sc, rfl, e0, _, e2, _⟩ := id (hv0.rd hs)
  rw [cellsU_len, Nat.mul_one] at e0
  have q0 : IntKind.u64.wrap (sn : Int) = (sn : Int) := IntWalk.u64_in _ (by unfold maxLen at e2; omega)
  have q1 : (sn : Int) ≤ (arg : Int) := by omega
  clear e0 e2 hn
  have hv := hv0
  have HW := Lib.hid hw
  have HS := Lib.hid hs
  clear hv0 hw hs
  go_enter Tryz.func20, Tryz.ntmps20
  go_wp2_with (first
    | ((with_reducible refine at_box (T := 48) (dst := some 4) ?_); refine wl_newb rfl #[.int .i64 5, .int .u64 (arg : Nat)] 48 (fun _ => rfl) ?_; intro b4 w2 hm2; replace hv := hv.madeAt hm2; clear hm2)
    | ((with_reducible refine at_box (T := 32) (dst := some 7) ?_); refine wl_newb rfl (pg b q) 32 (fun _ => rfl) ?_; intro b7 w2 hm2; replace hv := hv.madeAt hm2; clear hm2)
    | ((with_reducible refine at_alloc (T := 32) (dst := some 9) ?_); refine wl_newb rfl Tryz.zeroCells32 32 (fun _ => rfl) ?_; intro b9 w2 hm2; replace hv := hv.madeAt hm2; clear hm2)
    | ((with_reducible refine at_load (T := 3) ?_); refine wl_ldc rfl _ _ rfl _ (hv.vars.row (by first | exact .head _ | exact .tail _ (.head _) | exact .tail _ (.tail _ (.head _)) | exact .tail _ (.tail _ (.tail _ (.head _))) | exact .tail _ (.tail _ (.tail _ (.tail _ (.head _)))) | exact .tail _ (.tail _ (.tail _ (.tail _ (.tail _ (.head _))))) | exact .tail _ (.tail _ (.tail _ (.tail _ (.tail _ (.tail _ (.head _)))))) | exact .tail _ (.tail _ (.tail _ (.tail _ (.tail _ (.tail _ (.tail _ (.head _))))))))) _ Tryz.underlying3 rfl _ rfl ?_)
    | ((with_reducible refine at_load (T := 25) ?_); refine wl_ldc rfl _ _ rfl _ (hv.vars.row (by first | exact .head _ | exact .tail _ (.head _) | exact .tail _ (.tail _ (.head _)) | exact .tail _ (.tail _ (.tail _ (.head _))) | exact .tail _ (.tail _ (.tail _ (.tail _ (.head _)))) | exact .tail _ (.tail _ (.tail _ (.tail _ (.tail _ (.head _))))) | exact .tail _ (.tail _ (.tail _ (.tail _ (.tail _ (.tail _ (.head _)))))) | exact .tail _ (.tail _ (.tail _ (.tail _ (.tail _ (.tail _ (.tail _ (.head _))))))))) _ Tryz.underlying25 rfl _ rfl ?_))
  refine Any.wp_region_walk [⟨[1001], none⟩, ⟨[], none⟩, ⟨[1000], some 1000⟩, ⟨[], none⟩] [.val, .val, .put, .val] (by kernel_rfl) (by kernel_rfl) (hv.vars.keep (List.sublist_append_left [(b9, Tryz.zeroCells32), (b7, pg b q), (b4, #[.int .i64 5, .int .u64 (arg : Nat)])] L)) ?_
  simp only [List.length_cons, List.length_nil, Nat.zero_add, Any.someVals]
  iterate 4 apply Exists.intro
  repeat (first
    | (refine Any.E_off rfl ?_; simp only [Act.put, List.setIfInBounds_toArray, List.set_cons_succ, List.set_cons_zero])
    | (apply Any.E_pureq rfl rfl rfl
       case h => intro K hK; go_big_quiet_op; (refine hK _ ?_; rfl)
       case hr => exact fun _ => rfl
       simp only [Act.put, List.setIfInBounds_toArray, List.set_cons_succ, List.set_cons_zero])
    | (apply Any.E_val rfl rfl rfl rfl
       case h =>
         intro E' hA K hK
         first
           | ((with_reducible refine Any.at_qload (T := 32) ?_); refine Any.q_ldv 1001 hA (by decide) rfl rfl 144 _ Tryz.underlying32 rfl infoPs (by decide) (size_pg _ _) ?_; refine hK _ ?_; rfl)
           | (go_big_quiet_op; first
             | (refine hK _ ?_; rfl)
             | (refine ⟨_, fun _ _ => rfl, ?_⟩; refine hK _ ?_; rfl)
             | (apply Exists.intro; refine ⟨fun w1 hw1 => ?_, ?_⟩; · (first
                 | fail)
                refine hK _ ?_; rfl))
       case hD => rfl
       simp only [Act.put, List.setIfInBounds_toArray, List.set_cons_succ, List.set_cons_zero])
    | ((with_reducible refine Any.at_ealloc ?_); refine Any.E_lay rfl rfl rfl (fun _ => rfl) ?_; intro B; simp only [Act.put, List.setIfInBounds_toArray, List.set_cons_succ, List.set_cons_zero])
    | ((with_reducible refine Any.at_estore (T := 32) ?_); refine Any.E_putv (T := 32) rfl rfl rfl rfl rfl rfl 144 infoPs (size_pg _ _) (by rw [zeroPs, size_pg]) (one_pg _ _) ?_; simp only [Act.put, List.setIfInBounds_toArray, List.set_cons_succ, List.set_cons_zero]))
  try any_goals exact undef
  refine Any.E_nil ?_
  intro w9 hE9
  replace hv : Mem w0 w9 ([(b9, pg b q), (b7, pg b q), (b4, #[.int .i64 5, .int .u64 (arg : Nat)])] ++ L) R := hE9.memr hv [1000, 1001, 1002] (by decide)
  clear hE9
  simp only [List.cons_append, List.nil_append] at hv
  go_wp2
  refine ret_cellm Tryz.results20 rfl (read_row _ b9 32 _ (hv.vars.row (by first | exact .head _ | exact .tail _ (.head _) | exact .tail _ (.tail _ (.head _)) | exact .tail _ (.tail _ (.tail _ (.head _))) | exact .tail _ (.tail _ (.tail _ (.tail _ (.head _)))) | exact .tail _ (.tail _ (.tail _ (.tail _ (.tail _ (.head _))))) | exact .tail _ (.tail _ (.tail _ (.tail _ (.tail _ (.tail _ (.head _)))))) | exact .tail _ (.tail _ (.tail _ (.tail _ (.tail _ (.tail _ (.tail _ (.head _))))))))) 144 _ Tryz.underlying32 rfl infoPs (by decide) (size_pg _ _)) rfl rfl rfl ⟨_, _, _, rfl, (hv.drop.drop.drop).fresh (Below.refl _ _) (FR.nil _ _ 1)⟩
set_option maxRecDepth 100000 in
set_option maxHeartbeats 4000000 in
theorem rleft_over (arg : Nat) (b : Nat → Bool) (q : Nat → Nat → Nat) (lv sv : Value) (ws S : List Nat) (w0 w : World) (L : List (Nat × Array Value)) (R : List (Nat × Value × List Value)) (hv0 : Mem w0 w L R) (hw : (1, lv, cellsU ws) ∈ R) (hs : (1, sv, cellsU S) ∈ R) (hn : ¬ S.length ≤ arg) : Calls Tryz.prog 20 #[.agg #[.int .i64 5, .int .u64 (arg : Nat)], lv, sv, .agg (pg b q)] w (LeftR w0 L R b [S.getD (S.length - 1 - arg) 0] q 0) := by
  obtain ⟨sb, so, sn, sc, rfl, e0, _, e2, _⟩ := (hv0.rd hs).some (by rw [cellsU_len]; omega)
  rw [cellsU_len, Nat.mul_one] at e0
  have q0 : IntKind.u64.wrap (sn : Int) = (sn : Int) := IntWalk.u64_in _ (by unfold maxLen at e2; omega)
  have q1 : ¬ (sn : Int) ≤ (arg : Int) := by omega
  obtain ⟨k, hk⟩ : ∃ k, k = sn - 1 - arg := ⟨_, rfl⟩
  have q2 : IntKind.i64.wrap ((sn : Int) - 1) = (sn : Int) - 1 := IntWalk.i64_in _ (by unfold maxLen at e2; omega)
  have q3 : IntKind.i64.wrap (arg : Int) = (arg : Int) := IntWalk.i64_in _ (by unfold maxLen at e2; omega)
  have q4 : (sn : Int) - 1 - (arg : Int) = (k : Int) := by omega
  have q5 : IntKind.i64.wrap (k : Int) = (k : Int) := IntWalk.i64_in _ (by unfold maxLen at e2; omega)
  have q6 : (k : Int) < (sn : Int) := by omega
  obtain ⟨x, hx⟩ : ∃ x, S.getD (S.length - 1 - arg) 0 = x := ⟨_, rfl⟩
  have HX : Hid ((cellsU S)[k]? = some (.int .u64 (x : Nat))) := Lib.hid (by
    have hlt : S.length - 1 - arg < S.length := by omega
    rw [← hx, hk, ← e0]
    simp only [cellsU, List.getD_eq_getElem?_getD, List.getElem?_map, List.getElem?_eq_getElem hlt, Option.map_some, Option.getD_some])
  rw [hx]
  clear hx hk e0 e2 hn
  have hv := hv0
  have HW := Lib.hid hw
  have HS := Lib.hid hs
  clear hv0 hw hs
  go_enter Tryz.func20, Tryz.ntmps20
  go_wp2_with (first
    | ((with_reducible refine at_box (T := 48) (dst := some 4) ?_); refine wl_newb rfl #[.int .i64 5, .int .u64 (arg : Nat)] 48 (fun _ => rfl) ?_; intro b4 w2 hm2; replace hv := hv.madeAt hm2; clear hm2)
    | ((with_reducible refine at_box (T := 32) (dst := some 7) ?_); refine wl_newb rfl (pg b q) 32 (fun _ => rfl) ?_; intro b7 w2 hm2; replace hv := hv.madeAt hm2; clear hm2)
    | ((with_reducible refine at_alloc (T := 32) (dst := some 9) ?_); refine wl_newb rfl Tryz.zeroCells32 32 (fun _ => rfl) ?_; intro b9 w2 hm2; replace hv := hv.madeAt hm2; clear hm2)
    | ((with_reducible refine at_load (T := 3) ?_); refine wl_ldc rfl _ _ rfl _ (hv.vars.row (by first | exact .head _ | exact .tail _ (.head _) | exact .tail _ (.tail _ (.head _)) | exact .tail _ (.tail _ (.tail _ (.head _))) | exact .tail _ (.tail _ (.tail _ (.tail _ (.head _)))) | exact .tail _ (.tail _ (.tail _ (.tail _ (.tail _ (.head _))))) | exact .tail _ (.tail _ (.tail _ (.tail _ (.tail _ (.tail _ (.head _)))))) | exact .tail _ (.tail _ (.tail _ (.tail _ (.tail _ (.tail _ (.tail _ (.head _))))))))) _ Tryz.underlying3 rfl _ rfl ?_)
    | ((with_reducible refine at_load (T := 25) ?_); refine wl_ldc rfl _ _ rfl _ (hv.vars.row (by first | exact .head _ | exact .tail _ (.head _) | exact .tail _ (.tail _ (.head _)) | exact .tail _ (.tail _ (.tail _ (.head _))) | exact .tail _ (.tail _ (.tail _ (.tail _ (.head _)))) | exact .tail _ (.tail _ (.tail _ (.tail _ (.tail _ (.head _))))) | exact .tail _ (.tail _ (.tail _ (.tail _ (.tail _ (.tail _ (.head _)))))) | exact .tail _ (.tail _ (.tail _ (.tail _ (.tail _ (.tail _ (.tail _ (.head _))))))))) _ Tryz.underlying25 rfl _ rfl ?_))
  have HA := Lib.hid (Any.rd_start (hv.keep (List.sublist_append_left [(b9, Tryz.zeroCells32), (b7, pg b q), (b4, #[.int .i64 5, .int .u64 (arg : Nat)])] L)) HS.out)
  refine Any.wp_region_walk [⟨[], none⟩, ⟨[], none⟩, ⟨[], none⟩, ⟨[], none⟩, ⟨[], none⟩, ⟨[1002], none⟩, ⟨[], none⟩, ⟨[], none⟩, ⟨[], none⟩, ⟨[], none⟩, ⟨[], some 5⟩, ⟨[1001], none⟩, ⟨[], none⟩, ⟨[1000], some 1000⟩, ⟨[], none⟩] [.val, .val, .val, .val, .val, .val, .val, .val, .val, .val, .bsl 1 #[.int .u64 (x : Nat)], .val, .pure, .put, .val] (by kernel_rfl) (by kernel_rfl) (hv.vars.keep (List.sublist_append_left [(b9, Tryz.zeroCells32), (b7, pg b q), (b4, #[.int .i64 5, .int .u64 (arg : Nat)])] L)) ?_
  simp only [List.length_cons, List.length_nil, Nat.zero_add, Any.someVals]
  iterate 15 apply Exists.intro
  repeat (first
    | (refine Any.E_off rfl ?_; simp only [Act.put, List.setIfInBounds_toArray, List.set_cons_succ, List.set_cons_zero])
    | (apply Any.E_pureq rfl rfl rfl
       case h => intro K hK; go_big_quiet_op; (refine hK _ ?_; rfl)
       case hr => exact fun _ => rfl
       simp only [Act.put, List.setIfInBounds_toArray, List.set_cons_succ, List.set_cons_zero])
    | (apply Any.E_val rfl rfl rfl rfl
       case h =>
         intro E' hA K hK
         first
           | ((with_reducible refine Any.at_qload (T := 25) ?_); refine Any.q_ldc 1002 hA (by decide) rfl rfl _ Tryz.underlying25 rfl _ rfl ?_; refine hK _ ?_; rfl)
           | ((with_reducible refine Any.at_qload (T := 25) ?_); refine Any.q_rd HA.out k rfl _ Tryz.underlying25 rfl (.int .u64 (x : Nat)) HX.out ?_; refine hK _ ?_; rfl)
           | ((with_reducible refine Any.at_qload (T := 32) ?_); refine Any.q_ldv 1001 hA (by decide) rfl rfl 144 _ Tryz.underlying32 rfl infoPs (by decide) (size_pg _ _) ?_; refine hK _ ?_; rfl)
           | (go_big_quiet_op; first
             | (refine hK _ ?_; rfl)
             | (refine ⟨_, fun _ _ => rfl, ?_⟩; refine hK _ ?_; rfl)
             | (apply Exists.intro; refine ⟨fun w1 hw1 => ?_, ?_⟩; · (first
                 | fail)
                refine hK _ ?_; rfl))
       case hD => rfl
       simp only [Act.put, List.setIfInBounds_toArray, List.set_cons_succ, List.set_cons_zero])
    | ((with_reducible refine Any.at_ealloc ?_); refine Any.E_lay rfl rfl rfl (fun _ => rfl) ?_; intro B; simp only [Act.put, List.setIfInBounds_toArray, List.set_cons_succ, List.set_cons_zero])
    | ((with_reducible refine Any.at_ebsl ?_); refine Any.E_bsl (t := 25) rfl rfl rfl (fun w' => (by unfold execOp; go_simp)) ?_; intro B; simp only [Act.put, List.setIfInBounds_toArray, List.set_cons_succ, List.set_cons_zero])
    | ((with_reducible refine Any.at_estore (T := 32) ?_); refine Any.E_putv (T := 32) rfl rfl rfl rfl rfl rfl 144 infoPs (size_pg _ _) (by rw [zeroPs, size_pg]) (one_pg _ _) ?_; simp only [Act.put, List.setIfInBounds_toArray, List.set_cons_succ, List.set_cons_zero]))
  try any_goals exact undef
  refine Any.E_nil ?_
  intro w9 hE9
  replace hv : Mem w0 w9 ([(b9, pg b q), (b7, pg b q), (b4, #[.int .i64 5, .int .u64 (arg : Nat)]), (B, #[.int .u64 (x : Nat)])] ++ L) R := hE9.memr hv [1000, 1001, 1002, 5] (by decide)
  clear hE9
  simp only [List.cons_append, List.nil_append] at hv
  replace hv := Mem.yield (L1 := [_, _, _]) hv (AppRow.row (k := 1) (n := 1) (c := cellsU [x]) rfl rfl (by unfold maxLen; omega))
  simp only [List.cons_append, List.nil_append] at hv
  go_wp2
  refine ret_cellm Tryz.results20 rfl (read_row _ b9 32 _ (hv.vars.row (by first | exact .head _ | exact .tail _ (.head _) | exact .tail _ (.tail _ (.head _)) | exact .tail _ (.tail _ (.tail _ (.head _))) | exact .tail _ (.tail _ (.tail _ (.tail _ (.head _)))) | exact .tail _ (.tail _ (.tail _ (.tail _ (.tail _ (.head _))))) | exact .tail _ (.tail _ (.tail _ (.tail _ (.tail _ (.tail _ (.head _)))))) | exact .tail _ (.tail _ (.tail _ (.tail _ (.tail _ (.tail _ (.tail _ (.head _))))))))) 144 _ Tryz.underlying32 rfl infoPs (by decide) (size_pg _ _)) rfl rfl rfl ⟨_, _, _, rfl, hv.drop.drop.drop⟩
set_option maxRecDepth 100000 in
set_option maxHeartbeats 4000000 in
theorem rleft_store (arg : Nat) (b : Nat → Bool) (q : Nat → Nat → Nat) (lv sv : Value) (ws S : List Nat) (w0 w : World) (L : List (Nat × Array Value)) (R : List (Nat × Value × List Value)) (hv0 : Mem w0 w L R) (hw : (1, lv, cellsU ws) ∈ R) (hs : (1, sv, cellsU S) ∈ R) (x y : Nat) (hws : ws = [x, y]) : Calls Tryz.prog 20 #[.agg #[.int .i64 25, .int .u64 (arg : Nat)], lv, sv, .agg (pg b q)] w (LeftR w0 L R b [] (storeQ b q x y) (loadE b x)) := by
  subst hws
  obtain ⟨lb, lo, ln, lc, rfl, e0, e1⟩ := (hv0.rd hw).some (by rw [cellsU_len]; simp)
  obtain rfl : ln = 2 := by simpa [cellsU] using e0.symm
  clear e0 e1
  have hv := hv0
  have HW := Lib.hid hw
  have HS := Lib.hid hs
  clear hv0 hw hs
  go_enter Tryz.func20, Tryz.ntmps20
  go_wp2_with (first
    | ((with_reducible refine at_box (T := 48) (dst := some 4) ?_); refine wl_newb rfl #[.int .i64 25, .int .u64 (arg : Nat)] 48 (fun _ => rfl) ?_; intro b4 w2 hm2; replace hv := hv.madeAt hm2; clear hm2)
    | ((with_reducible refine at_box (T := 32) (dst := some 7) ?_); refine wl_newb rfl (pg b q) 32 (fun _ => rfl) ?_; intro b7 w2 hm2; replace hv := hv.madeAt hm2; clear hm2)
    | ((with_reducible refine at_alloc (T := 32) (dst := some 9) ?_); refine wl_newb rfl Tryz.zeroCells32 32 (fun _ => rfl) ?_; intro b9 w2 hm2; replace hv := hv.madeAt hm2; clear hm2)
    | ((with_reducible refine at_load (T := 3) ?_); refine wl_ldc rfl _ _ rfl _ (hv.vars.row (by first | exact .head _ | exact .tail _ (.head _) | exact .tail _ (.tail _ (.head _)) | exact .tail _ (.tail _ (.tail _ (.head _))) | exact .tail _ (.tail _ (.tail _ (.tail _ (.head _)))) | exact .tail _ (.tail _ (.tail _ (.tail _ (.tail _ (.head _))))) | exact .tail _ (.tail _ (.tail _ (.tail _ (.tail _ (.tail _ (.head _)))))) | exact .tail _ (.tail _ (.tail _ (.tail _ (.tail _ (.tail _ (.tail _ (.head _))))))))) _ Tryz.underlying3 rfl _ rfl ?_))
  have HA := Lib.hid (Any.rd_start (hv.keep (List.sublist_append_left [(b9, Tryz.zeroCells32), (b7, pg b q), (b4, #[.int .i64 25, .int .u64 (arg : Nat)])] L)) HW.out)
  refine Any.wp_region_walk [⟨[1001], none⟩, ⟨[], none⟩, ⟨[], none⟩, ⟨[], none⟩, ⟨[], none⟩, ⟨[], none⟩, ⟨[], none⟩, ⟨[], none⟩, ⟨[], none⟩, ⟨[], none⟩, ⟨[], none⟩, ⟨[], some 5⟩, ⟨[5], some 5⟩, ⟨[], none⟩] [.val, .val, .val, .val, .val, .val, .val, .val, .val, .val, .val, .lay Tryz.zeroCells32, .put, .val] (by kernel_rfl) (by kernel_rfl) (hv.vars.keep (List.sublist_append_left [(b9, Tryz.zeroCells32), (b7, pg b q), (b4, #[.int .i64 25, .int .u64 (arg : Nat)])] L)) ?_
  simp only [List.length_cons, List.length_nil, Nat.zero_add, Any.someVals]
  iterate 14 apply Exists.intro
  repeat (first
    | (refine Any.E_off rfl ?_; simp only [Act.put, List.setIfInBounds_toArray, List.set_cons_succ, List.set_cons_zero])
    | (apply Any.E_pureq rfl rfl rfl
       case h => intro K hK; go_big_quiet_op; (refine hK _ ?_; rfl)
       case hr => exact fun _ => rfl
       simp only [Act.put, List.setIfInBounds_toArray, List.set_cons_succ, List.set_cons_zero])
    | (apply Any.E_val rfl rfl rfl rfl
       case h =>
         intro E' hA K hK
         first
           | ((with_reducible refine Any.at_qload (T := 32) ?_); refine Any.q_ldv 1001 hA (by decide) rfl rfl 144 _ Tryz.underlying32 rfl infoPs (by decide) (size_pg _ _) ?_; refine hK _ ?_; rfl)
           | ((with_reducible refine Any.at_qload (T := 25) ?_); refine Any.q_rd HA.out 0 rfl _ Tryz.underlying25 rfl (.int .u64 (x : Nat)) rfl ?_; refine hK _ ?_; rfl)
           | ((with_reducible refine Any.at_qload (T := 25) ?_); refine Any.q_rd HA.out 1 rfl _ Tryz.underlying25 rfl (.int .u64 (y : Nat)) rfl ?_; refine hK _ ?_; rfl)
           | (go_big_quiet_op; first
             | (refine hK _ ?_; rfl)
             | (refine ⟨_, fun _ _ => rfl, ?_⟩; refine hK _ ?_; rfl)
             | (apply Exists.intro; refine ⟨fun w1 hw1 => ?_, ?_⟩; · (first
                 | (go_at_call 32; exact Any.calls_VE (RStore_any b q x y _) hw1))
                refine hK _ ?_; rfl))
       case hD => rfl
       simp only [Act.put, List.setIfInBounds_toArray, List.set_cons_succ, List.set_cons_zero])
    | ((with_reducible refine Any.at_ealloc ?_); refine Any.E_lay rfl rfl rfl (fun _ => rfl) ?_; intro B; simp only [Act.put, List.setIfInBounds_toArray, List.set_cons_succ, List.set_cons_zero])
    | ((with_reducible refine Any.at_estore (T := 32) ?_); refine Any.E_putv (T := 32) rfl rfl rfl rfl rfl rfl 144 infoPs (size_pg _ _) (by rw [zeroPs, size_pg]) (one_pg _ _) ?_; simp only [Act.put, List.setIfInBounds_toArray, List.set_cons_succ, List.set_cons_zero]))
  try any_goals exact undef
  refine Any.E_nil ?_
  intro w9 hE9
  replace hv : Mem w0 w9 ([(b9, Tryz.zeroCells32), (b7, pg b q), (b4, #[.int .i64 25, .int .u64 (arg : Nat)]), (B, pg b (storeQ b q x y))] ++ L) R := hE9.memr hv [1000, 1001, 1002, 5] (by decide)
  clear hE9
  simp only [List.cons_append, List.nil_append] at hv
  go_wp2
  refine Any.wp_region_walk [⟨[1003], none⟩, ⟨[], none⟩, ⟨[], none⟩, ⟨[1000], some 1000⟩, ⟨[], none⟩] [.val, .val, .val, .put, .val] (by kernel_rfl) (by kernel_rfl) (hv.vars.keep (List.sublist_append_left [(b9, Tryz.zeroCells32), (b7, pg b q), (b4, #[.int .i64 25, .int .u64 (arg : Nat)]), (B, pg b (storeQ b q x y))] L)) ?_
  simp only [List.length_cons, List.length_nil, Nat.zero_add, Any.someVals]
  iterate 5 apply Exists.intro
  repeat (first
    | (refine Any.E_off rfl ?_; simp only [Act.put, List.setIfInBounds_toArray, List.set_cons_succ, List.set_cons_zero])
    | (apply Any.E_pureq rfl rfl rfl
       case h => intro K hK; go_big_quiet_op; (refine hK _ ?_; rfl)
       case hr => exact fun _ => rfl
       simp only [Act.put, List.setIfInBounds_toArray, List.set_cons_succ, List.set_cons_zero])
    | (apply Any.E_val rfl rfl rfl rfl
       case h =>
         intro E' hA K hK
         first
           | ((with_reducible refine Any.at_qload (T := 32) ?_); refine Any.q_ldv 1003 hA (by decide) rfl rfl 144 _ Tryz.underlying32 rfl infoPs (by decide) (size_pg _ _) ?_; refine hK _ ?_; rfl)
           | (go_big_quiet_op; first
             | (refine hK _ ?_; rfl)
             | (refine ⟨_, fun _ _ => rfl, ?_⟩; refine hK _ ?_; rfl)
             | (apply Exists.intro; refine ⟨fun w1 hw1 => ?_, ?_⟩; · (first
                 | fail)
                refine hK _ ?_; rfl))
       case hD => rfl
       simp only [Act.put, List.setIfInBounds_toArray, List.set_cons_succ, List.set_cons_zero])
    | ((with_reducible refine Any.at_ealloc ?_); refine Any.E_lay rfl rfl rfl (fun _ => rfl) ?_; intro B; simp only [Act.put, List.setIfInBounds_toArray, List.set_cons_succ, List.set_cons_zero])
    | ((with_reducible refine Any.at_estore (T := 32) ?_); refine Any.E_putv (T := 32) rfl rfl rfl rfl rfl rfl 144 infoPs (size_pg _ _) (by rw [zeroPs, size_pg]) (one_pg _ _) ?_; simp only [Act.put, List.setIfInBounds_toArray, List.set_cons_succ, List.set_cons_zero]))
  try any_goals exact undef
  refine Any.E_nil ?_
  intro w9 hE9
  replace hv : Mem w0 w9 ([(b9, pg b (storeQ b q x y)), (b7, pg b q), (b4, #[.int .i64 25, .int .u64 (arg : Nat)])] ++ L) R := hE9.memr hv [1000, 1001, 1002] (by decide)
  clear hE9
  simp only [List.cons_append, List.nil_append] at hv
  go_wp2
  refine ret_cellm Tryz.results20 rfl (read_row _ b9 32 _ (hv.vars.row (by first | exact .head _ | exact .tail _ (.head _) | exact .tail _ (.tail _ (.head _)) | exact .tail _ (.tail _ (.tail _ (.head _))) | exact .tail _ (.tail _ (.tail _ (.tail _ (.head _)))) | exact .tail _ (.tail _ (.tail _ (.tail _ (.tail _ (.head _))))) | exact .tail _ (.tail _ (.tail _ (.tail _ (.tail _ (.tail _ (.head _)))))) | exact .tail _ (.tail _ (.tail _ (.tail _ (.tail _ (.tail _ (.tail _ (.head _))))))))) 144 _ Tryz.underlying32 rfl infoPs (by decide) (size_pg _ _)) rfl rfl rfl ⟨_, _, _, rfl, (hv.drop.drop.drop).fresh (Below.refl _ _) (FR.nil _ _ 1)⟩
set_option maxRecDepth 100000 in
set_option maxHeartbeats 4000000 in
theorem rleft_one (op : Int) (arg : Nat) (b : Nat → Bool) (q : Nat → Nat → Nat) (lv sv : Value) (ws S : List Nat) (w0 w : World) (L : List (Nat × Array Value)) (R : List (Nat × Value × List Value)) (hv0 : Mem w0 w L R) (hw : (1, lv, cellsU ws) ∈ R) (hs : (1, sv, cellsU S) ∈ R) (hne : op ≠ 1 ∧ op ≠ 2 ∧ op ≠ 21 ∧ op ≠ 3 ∧ op ≠ 4 ∧ op ≠ 5 ∧ op ≠ 25) (x v : Nat) (n : Int) (hws : ws = [x]) (kS : ∀ w, Calls Tryz.prog 33 #[.int .i64 op, .int .u64 (x : Nat), .agg (pg b q)] w fun e w' => e = .returned (.tuple #[.int .u64 (v : Nat), .int .i64 n]) ∧ New w w') : Calls Tryz.prog 20 #[.agg #[.int .i64 op, .int .u64 (arg : Nat)], lv, sv, .agg (pg b q)] w (LeftR w0 L R b [v] q n) := by
  subst hws
  obtain ⟨lb, lo, ln, lc, rfl, e0, e1⟩ := (hv0.rd hw).some (by rw [cellsU_len]; simp)
  obtain rfl : ln = 1 := by simpa [cellsU] using e0.symm
  clear e0 e1
  have q1 : (op == 1) = false := beq_eq_false_iff_ne.2 hne.1
  have q2 : (op == 2) = false := beq_eq_false_iff_ne.2 hne.2.1
  have q21 : (op == 21) = false := beq_eq_false_iff_ne.2 hne.2.2.1
  have q3 : (op == 3) = false := beq_eq_false_iff_ne.2 hne.2.2.2.1
  have q4 : (op == 4) = false := beq_eq_false_iff_ne.2 hne.2.2.2.2.1
  have q5 : (op == 5) = false := beq_eq_false_iff_ne.2 hne.2.2.2.2.2.1
  have q25 : (op == 25) = false := beq_eq_false_iff_ne.2 hne.2.2.2.2.2.2
  clear hne
  replace kS := Lib.hid kS
  have hv := hv0
  have HW := Lib.hid hw
  have HS := Lib.hid hs
  clear hv0 hw hs
  go_enter Tryz.func20, Tryz.ntmps20
  go_wp2_with (first
    | ((with_reducible refine at_box (T := 48) (dst := some 4) ?_); refine wl_newb rfl #[.int .i64 op, .int .u64 (arg : Nat)] 48 (fun _ => rfl) ?_; intro b4 w2 hm2; replace hv := hv.madeAt hm2; clear hm2)
    | ((with_reducible refine at_box (T := 32) (dst := some 7) ?_); refine wl_newb rfl (pg b q) 32 (fun _ => rfl) ?_; intro b7 w2 hm2; replace hv := hv.madeAt hm2; clear hm2)
    | ((with_reducible refine at_alloc (T := 32) (dst := some 9) ?_); refine wl_newb rfl Tryz.zeroCells32 32 (fun _ => rfl) ?_; intro b9 w2 hm2; replace hv := hv.madeAt hm2; clear hm2)
    | ((with_reducible refine at_load (T := 3) ?_); refine wl_ldc rfl _ _ rfl _ (hv.vars.row (by first | exact .head _ | exact .tail _ (.head _) | exact .tail _ (.tail _ (.head _)) | exact .tail _ (.tail _ (.tail _ (.head _))) | exact .tail _ (.tail _ (.tail _ (.tail _ (.head _)))) | exact .tail _ (.tail _ (.tail _ (.tail _ (.tail _ (.head _))))) | exact .tail _ (.tail _ (.tail _ (.tail _ (.tail _ (.tail _ (.head _)))))) | exact .tail _ (.tail _ (.tail _ (.tail _ (.tail _ (.tail _ (.tail _ (.head _))))))))) _ Tryz.underlying3 rfl _ rfl ?_))
  have HA := Lib.hid (Any.rd_start (hv.keep (List.sublist_append_left [(b9, Tryz.zeroCells32), (b7, pg b q), (b4, #[.int .i64 op, .int .u64 (arg : Nat)])] L)) HW.out)
  refine Any.wp_region_walk [⟨[], none⟩, ⟨[1002], none⟩, ⟨[], none⟩, ⟨[], none⟩, ⟨[], none⟩, ⟨[1001], none⟩, ⟨[], none⟩, ⟨[], none⟩, ⟨[], none⟩, ⟨[], none⟩, ⟨[], none⟩, ⟨[], none⟩] [.val, .val, .val, .val, .val, .val, .val, .val, .val, .val, .val, .val] (by kernel_rfl) (by kernel_rfl) (hv.vars.keep (List.sublist_append_left [(b9, Tryz.zeroCells32), (b7, pg b q), (b4, #[.int .i64 op, .int .u64 (arg : Nat)])] L)) ?_
  simp only [List.length_cons, List.length_nil, Nat.zero_add, Any.someVals]
  iterate 12 apply Exists.intro
  repeat (first
    | (refine Any.E_off rfl ?_; simp only [Act.put, List.setIfInBounds_toArray, List.set_cons_succ, List.set_cons_zero])
    | (apply Any.E_pureq rfl rfl rfl
       case h => intro K hK; go_big_quiet_op; (refine hK _ ?_; rfl)
       case hr => exact fun _ => rfl
       simp only [Act.put, List.setIfInBounds_toArray, List.set_cons_succ, List.set_cons_zero])
    | (apply Any.E_val rfl rfl rfl rfl
       case h =>
         intro E' hA K hK
         first
           | ((with_reducible refine Any.at_qload (T := 3) ?_); refine Any.q_ldc 1002 hA (by decide) rfl rfl _ Tryz.underlying3 rfl _ rfl ?_; refine hK _ ?_; rfl)
           | ((with_reducible refine Any.at_qload (T := 25) ?_); refine Any.q_rd HA.out 0 rfl _ Tryz.underlying25 rfl (.int .u64 (x : Nat)) rfl ?_; refine hK _ ?_; rfl)
           | ((with_reducible refine Any.at_qload (T := 32) ?_); refine Any.q_ldv 1001 hA (by decide) rfl rfl 144 _ Tryz.underlying32 rfl infoPs (by decide) (size_pg _ _) ?_; refine hK _ ?_; rfl)
           | (go_big_quiet_op; first
             | (refine hK _ ?_; rfl)
             | (refine ⟨_, fun _ _ => rfl, ?_⟩; refine hK _ ?_; rfl)
             | (apply Exists.intro; refine ⟨fun w1 hw1 => ?_, ?_⟩; · (first
                 | (go_at_call 33; exact Any.calls_VE (kS.out _) hw1))
                refine hK _ ?_; rfl))
       case hD => rfl
       simp only [Act.put, List.setIfInBounds_toArray, List.set_cons_succ, List.set_cons_zero])
    | ((with_reducible refine Any.at_ealloc ?_); refine Any.E_lay rfl rfl rfl (fun _ => rfl) ?_; intro B; simp only [Act.put, List.setIfInBounds_toArray, List.set_cons_succ, List.set_cons_zero]))
  try any_goals exact undef
  refine Any.E_nil ?_
  intro w9 hE9
  replace hv : Mem w0 w9 ([(b9, Tryz.zeroCells32), (b7, pg b q), (b4, #[.int .i64 op, .int .u64 (arg : Nat)])] ++ L) R := hE9.memr hv [1000, 1001, 1002] (by decide)
  clear hE9
  simp only [List.cons_append, List.nil_append] at hv
  go_wp2
  refine Any.wp_region_walk [⟨[], none⟩, ⟨[], some 5⟩, ⟨[1001], none⟩, ⟨[], none⟩, ⟨[], none⟩, ⟨[1000], some 1000⟩, ⟨[], none⟩] [.val, .bsl 1 #[.int .u64 (v : Nat)], .val, .val, .pure, .put, .val] (by kernel_rfl) (by kernel_rfl) (hv.vars.keep (List.sublist_append_left [(b9, Tryz.zeroCells32), (b7, pg b q), (b4, #[.int .i64 op, .int .u64 (arg : Nat)])] L)) ?_
  simp only [List.length_cons, List.length_nil, Nat.zero_add, Any.someVals]
  iterate 7 apply Exists.intro
  repeat (first
    | (refine Any.E_off rfl ?_; simp only [Act.put, List.setIfInBounds_toArray, List.set_cons_succ, List.set_cons_zero])
    | (apply Any.E_pureq rfl rfl rfl
       case h => intro K hK; go_big_quiet_op; (refine hK _ ?_; rfl)
       case hr => exact fun _ => rfl
       simp only [Act.put, List.setIfInBounds_toArray, List.set_cons_succ, List.set_cons_zero])
    | (apply Any.E_val rfl rfl rfl rfl
       case h =>
         intro E' hA K hK
         first
           | ((with_reducible refine Any.at_qload (T := 32) ?_); refine Any.q_ldv 1001 hA (by decide) rfl rfl 144 _ Tryz.underlying32 rfl infoPs (by decide) (size_pg _ _) ?_; refine hK _ ?_; rfl)
           | (go_big_quiet_op; first
             | (refine hK _ ?_; rfl)
             | (refine ⟨_, fun _ _ => rfl, ?_⟩; refine hK _ ?_; rfl)
             | (apply Exists.intro; refine ⟨fun w1 hw1 => ?_, ?_⟩; · (first
                 | fail)
                refine hK _ ?_; rfl))
       case hD => rfl
       simp only [Act.put, List.setIfInBounds_toArray, List.set_cons_succ, List.set_cons_zero])
    | ((with_reducible refine Any.at_ealloc ?_); refine Any.E_lay rfl rfl rfl (fun _ => rfl) ?_; intro B; simp only [Act.put, List.setIfInBounds_toArray, List.set_cons_succ, List.set_cons_zero])
    | ((with_reducible refine Any.at_ebsl ?_); refine Any.E_bsl (t := 25) rfl rfl rfl (fun w' => (by unfold execOp; go_simp)) ?_; intro B; simp only [Act.put, List.setIfInBounds_toArray, List.set_cons_succ, List.set_cons_zero])
    | ((with_reducible refine Any.at_estore (T := 32) ?_); refine Any.E_putv (T := 32) rfl rfl rfl rfl rfl rfl 144 infoPs (size_pg _ _) (by rw [zeroPs, size_pg]) (one_pg _ _) ?_; simp only [Act.put, List.setIfInBounds_toArray, List.set_cons_succ, List.set_cons_zero]))
  try any_goals exact undef
  refine Any.E_nil ?_
  intro w9 hE9
  replace hv : Mem w0 w9 ([(b9, pg b q), (b7, pg b q), (b4, #[.int .i64 op, .int .u64 (arg : Nat)]), (B, #[.int .u64 (v : Nat)])] ++ L) R := hE9.memr hv [1000, 1001, 1002, 5] (by decide)
  clear hE9
  simp only [List.cons_append, List.nil_append] at hv
  replace hv := Mem.yield (L1 := [_, _, _]) hv (AppRow.row (k := 1) (n := 1) (c := cellsU [v]) rfl rfl (by unfold maxLen; omega))
  simp only [List.cons_append, List.nil_append] at hv
  go_wp2
  refine ret_cellm Tryz.results20 rfl (read_row _ b9 32 _ (hv.vars.row (by first | exact .head _ | exact .tail _ (.head _) | exact .tail _ (.tail _ (.head _)) | exact .tail _ (.tail _ (.tail _ (.head _))) | exact .tail _ (.tail _ (.tail _ (.tail _ (.head _)))) | exact .tail _ (.tail _ (.tail _ (.tail _ (.tail _ (.head _))))) | exact .tail _ (.tail _ (.tail _ (.tail _ (.tail _ (.tail _ (.head _)))))) | exact .tail _ (.tail _ (.tail _ (.tail _ (.tail _ (.tail _ (.tail _ (.head _))))))))) 144 _ Tryz.underlying32 rfl infoPs (by decide) (size_pg _ _)) rfl rfl rfl ⟨_, _, _, rfl, hv.drop.drop.drop⟩
set_option maxRecDepth 100000 in
set_option maxHeartbeats 4000000 in
theorem rleft_two (op : Int) (arg : Nat) (b : Nat → Bool) (q : Nat → Nat → Nat) (lv sv : Value) (ws S : List Nat) (w0 w : World) (L : List (Nat × Array Value)) (R : List (Nat × Value × List Value)) (hv0 : Mem w0 w L R) (hw : (1, lv, cellsU ws) ∈ R) (hs : (1, sv, cellsU S) ∈ R) (hne : op ≠ 1 ∧ op ≠ 2 ∧ op ≠ 21 ∧ op ≠ 3 ∧ op ≠ 4 ∧ op ≠ 5 ∧ op ≠ 25) (x y v : Nat) (n : Int) (hws : ws = [x, y]) (kS : ∀ w, Calls Tryz.prog 34 #[.int .i64 op, .int .u64 (x : Nat), .int .u64 (y : Nat)] w fun e w' => e = .returned (.tuple #[.int .u64 (v : Nat), .int .i64 n]) ∧ New w w') : Calls Tryz.prog 20 #[.agg #[.int .i64 op, .int .u64 (arg : Nat)], lv, sv, .agg (pg b q)] w (LeftR w0 L R b [v] q n) := by
  subst hws
  obtain ⟨lb, lo, ln, lc, rfl, e0, e1⟩ := (hv0.rd hw).some (by rw [cellsU_len]; simp)
  obtain rfl : ln = 2 := by simpa [cellsU] using e0.symm
  clear e0 e1
  have q1 : (op == 1) = false := beq_eq_false_iff_ne.2 hne.1
  have q2 : (op == 2) = false := beq_eq_false_iff_ne.2 hne.2.1
  have q21 : (op == 21) = false := beq_eq_false_iff_ne.2 hne.2.2.1
  have q3 : (op == 3) = false := beq_eq_false_iff_ne.2 hne.2.2.2.1
  have q4 : (op == 4) = false := beq_eq_false_iff_ne.2 hne.2.2.2.2.1
  have q5 : (op == 5) = false := beq_eq_false_iff_ne.2 hne.2.2.2.2.2.1
  have q25 : (op == 25) = false := beq_eq_false_iff_ne.2 hne.2.2.2.2.2.2
  clear hne
  replace kS := Lib.hid kS
  have hv := hv0
  have HW := Lib.hid hw
  have HS := Lib.hid hs
  clear hv0 hw hs
  go_enter Tryz.func20, Tryz.ntmps20
  go_wp2_with (first
    | ((with_reducible refine at_box (T := 48) (dst := some 4) ?_); refine wl_newb rfl #[.int .i64 op, .int .u64 (arg : Nat)] 48 (fun _ => rfl) ?_; intro b4 w2 hm2; replace hv := hv.madeAt hm2; clear hm2)
    | ((with_reducible refine at_box (T := 32) (dst := some 7) ?_); refine wl_newb rfl (pg b q) 32 (fun _ => rfl) ?_; intro b7 w2 hm2; replace hv := hv.madeAt hm2; clear hm2)
    | ((with_reducible refine at_alloc (T := 32) (dst := some 9) ?_); refine wl_newb rfl Tryz.zeroCells32 32 (fun _ => rfl) ?_; intro b9 w2 hm2; replace hv := hv.madeAt hm2; clear hm2)
    | ((with_reducible refine at_load (T := 3) ?_); refine wl_ldc rfl _ _ rfl _ (hv.vars.row (by first | exact .head _ | exact .tail _ (.head _) | exact .tail _ (.tail _ (.head _)) | exact .tail _ (.tail _ (.tail _ (.head _))) | exact .tail _ (.tail _ (.tail _ (.tail _ (.head _)))) | exact .tail _ (.tail _ (.tail _ (.tail _ (.tail _ (.head _))))) | exact .tail _ (.tail _ (.tail _ (.tail _ (.tail _ (.tail _ (.head _)))))) | exact .tail _ (.tail _ (.tail _ (.tail _ (.tail _ (.tail _ (.tail _ (.head _))))))))) _ Tryz.underlying3 rfl _ rfl ?_))
  have HA := Lib.hid (Any.rd_start (hv.keep (List.sublist_append_left [(b9, Tryz.zeroCells32), (b7, pg b q), (b4, #[.int .i64 op, .int .u64 (arg : Nat)])] L)) HW.out)
  refine Any.wp_region_walk [⟨[], none⟩, ⟨[1002], none⟩, ⟨[], none⟩, ⟨[], none⟩, ⟨[], none⟩, ⟨[], none⟩, ⟨[], none⟩, ⟨[], none⟩, ⟨[], none⟩, ⟨[], none⟩, ⟨[], none⟩, ⟨[], none⟩, ⟨[], none⟩, ⟨[], none⟩] [.val, .val, .val, .val, .val, .val, .val, .val, .val, .val, .val, .val, .val, .val] (by kernel_rfl) (by kernel_rfl) (hv.vars.keep (List.sublist_append_left [(b9, Tryz.zeroCells32), (b7, pg b q), (b4, #[.int .i64 op, .int .u64 (arg : Nat)])] L)) ?_
  simp only [List.length_cons, List.length_nil, Nat.zero_add, Any.someVals]
  iterate 14 apply Exists.intro
  repeat (first
    | (refine Any.E_off rfl ?_; simp only [Act.put, List.setIfInBounds_toArray, List.set_cons_succ, List.set_cons_zero])
    | (apply Any.E_pureq rfl rfl rfl
       case h => intro K hK; go_big_quiet_op; (refine hK _ ?_; rfl)
       case hr => exact fun _ => rfl
       simp only [Act.put, List.setIfInBounds_toArray, List.set_cons_succ, List.set_cons_zero])
    | (apply Any.E_val rfl rfl rfl rfl
       case h =>
         intro E' hA K hK
         first
           | ((with_reducible refine Any.at_qload (T := 3) ?_); refine Any.q_ldc 1002 hA (by decide) rfl rfl _ Tryz.underlying3 rfl _ rfl ?_; refine hK _ ?_; rfl)
           | ((with_reducible refine Any.at_qload (T := 25) ?_); refine Any.q_rd HA.out 0 rfl _ Tryz.underlying25 rfl (.int .u64 (x : Nat)) rfl ?_; refine hK _ ?_; rfl)
           | ((with_reducible refine Any.at_qload (T := 25) ?_); refine Any.q_rd HA.out 1 rfl _ Tryz.underlying25 rfl (.int .u64 (y : Nat)) rfl ?_; refine hK _ ?_; rfl)
           | (go_big_quiet_op; first
             | (refine hK _ ?_; rfl)
             | (refine ⟨_, fun _ _ => rfl, ?_⟩; refine hK _ ?_; rfl)
             | (apply Exists.intro; refine ⟨fun w1 hw1 => ?_, ?_⟩; · (first
                 | (go_at_call 34; exact Any.calls_VE (kS.out _) hw1))
                refine hK _ ?_; rfl))
       case hD => rfl
       simp only [Act.put, List.setIfInBounds_toArray, List.set_cons_succ, List.set_cons_zero])
    | ((with_reducible refine Any.at_ealloc ?_); refine Any.E_lay rfl rfl rfl (fun _ => rfl) ?_; intro B; simp only [Act.put, List.setIfInBounds_toArray, List.set_cons_succ, List.set_cons_zero]))
  try any_goals exact undef
  refine Any.E_nil ?_
  intro w9 hE9
  replace hv : Mem w0 w9 ([(b9, Tryz.zeroCells32), (b7, pg b q), (b4, #[.int .i64 op, .int .u64 (arg : Nat)])] ++ L) R := hE9.memr hv [1000, 1001, 1002] (by decide)
  clear hE9
  simp only [List.cons_append, List.nil_append] at hv
  go_wp2
  refine Any.wp_region_walk [⟨[], none⟩, ⟨[], some 5⟩, ⟨[1001], none⟩, ⟨[], none⟩, ⟨[], none⟩, ⟨[1000], some 1000⟩, ⟨[], none⟩] [.val, .bsl 1 #[.int .u64 (v : Nat)], .val, .val, .pure, .put, .val] (by kernel_rfl) (by kernel_rfl) (hv.vars.keep (List.sublist_append_left [(b9, Tryz.zeroCells32), (b7, pg b q), (b4, #[.int .i64 op, .int .u64 (arg : Nat)])] L)) ?_
  simp only [List.length_cons, List.length_nil, Nat.zero_add, Any.someVals]
  iterate 7 apply Exists.intro
  repeat (first
    | (refine Any.E_off rfl ?_; simp only [Act.put, List.setIfInBounds_toArray, List.set_cons_succ, List.set_cons_zero])
    | (apply Any.E_pureq rfl rfl rfl
       case h => intro K hK; go_big_quiet_op; (refine hK _ ?_; rfl)
       case hr => exact fun _ => rfl
       simp only [Act.put, List.setIfInBounds_toArray, List.set_cons_succ, List.set_cons_zero])
    | (apply Any.E_val rfl rfl rfl rfl
       case h =>
         intro E' hA K hK
         first
           | ((with_reducible refine Any.at_qload (T := 32) ?_); refine Any.q_ldv 1001 hA (by decide) rfl rfl 144 _ Tryz.underlying32 rfl infoPs (by decide) (size_pg _ _) ?_; refine hK _ ?_; rfl)
           | (go_big_quiet_op; first
             | (refine hK _ ?_; rfl)
             | (refine ⟨_, fun _ _ => rfl, ?_⟩; refine hK _ ?_; rfl)
             | (apply Exists.intro; refine ⟨fun w1 hw1 => ?_, ?_⟩; · (first
                 | fail)
                refine hK _ ?_; rfl))
       case hD => rfl
       simp only [Act.put, List.setIfInBounds_toArray, List.set_cons_succ, List.set_cons_zero])
    | ((with_reducible refine Any.at_ealloc ?_); refine Any.E_lay rfl rfl rfl (fun _ => rfl) ?_; intro B; simp only [Act.put, List.setIfInBounds_toArray, List.set_cons_succ, List.set_cons_zero])
    | ((with_reducible refine Any.at_ebsl ?_); refine Any.E_bsl (t := 25) rfl rfl rfl (fun w' => (by unfold execOp; go_simp)) ?_; intro B; simp only [Act.put, List.setIfInBounds_toArray, List.set_cons_succ, List.set_cons_zero])
    | ((with_reducible refine Any.at_estore (T := 32) ?_); refine Any.E_putv (T := 32) rfl rfl rfl rfl rfl rfl 144 infoPs (size_pg _ _) (by rw [zeroPs, size_pg]) (one_pg _ _) ?_; simp only [Act.put, List.setIfInBounds_toArray, List.set_cons_succ, List.set_cons_zero]))
  try any_goals exact undef
  refine Any.E_nil ?_
  intro w9 hE9
  replace hv : Mem w0 w9 ([(b9, pg b q), (b7, pg b q), (b4, #[.int .i64 op, .int .u64 (arg : Nat)]), (B, #[.int .u64 (v : Nat)])] ++ L) R := hE9.memr hv [1000, 1001, 1002, 5] (by decide)
  clear hE9
  simp only [List.cons_append, List.nil_append] at hv
  replace hv := Mem.yield (L1 := [_, _, _]) hv (AppRow.row (k := 1) (n := 1) (c := cellsU [v]) rfl rfl (by unfold maxLen; omega))
  simp only [List.cons_append, List.nil_append] at hv
  go_wp2
  refine ret_cellm Tryz.results20 rfl (read_row _ b9 32 _ (hv.vars.row (by first | exact .head _ | exact .tail _ (.head _) | exact .tail _ (.tail _ (.head _)) | exact .tail _ (.tail _ (.tail _ (.head _))) | exact .tail _ (.tail _ (.tail _ (.tail _ (.head _)))) | exact .tail _ (.tail _ (.tail _ (.tail _ (.tail _ (.head _))))) | exact .tail _ (.tail _ (.tail _ (.tail _ (.tail _ (.tail _ (.head _)))))) | exact .tail _ (.tail _ (.tail _ (.tail _ (.tail _ (.tail _ (.tail _ (.head _))))))))) 144 _ Tryz.underlying32 rfl infoPs (by decide) (size_pg _ _)) rfl rfl rfl ⟨_, _, _, rfl, hv.drop.drop.drop⟩
end Go.Proofs.YthpodinbbmgfoaaGreat
