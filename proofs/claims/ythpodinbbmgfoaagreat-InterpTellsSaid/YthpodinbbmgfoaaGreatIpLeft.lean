/-
  The walk of what a deed leaves.
-/
import Derived.Test.YthpodinbbmgfoaaGreatIpMoves
set_option linter.unusedVariables false
set_option linter.unusedSimpArgs false
namespace Go.Proofs.Ip
open Go Go.RowKit
/-- What left answers. -/
def LeftR (w0 : World) (bD : Nat) (row : Array Value) (L : List (Nat × Array Value)) (R : List (Nat × Value × List Value)) (out : List Nat) (err : Int) (e : Ending) (w' : World) : Prop :=
  ∃ lv, e = .returned (.tuple #[lv, .int .i64 err]) ∧ Mem w0 w' ((bD, row) :: L) ((1, lv, cellsU out) :: R)
theorem mem_nil {w0 w : World} {L : List (Nat × Array Value)} {R : List (Nat × Value × List Value)} (h : Mem w0 w L R) : Mem w0 w L ((1, .slice none 0 0, cellsU []) :: R) := h.add (Rd.nil _ _) (fun hc => (hc rfl).elim)
theorem app1 (B : Nat) (x : Nat) : AppRow (.slice (some ⟨B, 0, none⟩) 1 1) 1 (cellsU [x]) (B, #[.int .u64 (x : Nat)]) := ⟨1, 1, rfl, rfl, Nat.le_refl _, by unfold maxLen; omega, rfl, rfl⟩
theorem app2 (B : Nat) (x y : Nat) : AppRow (.slice (some ⟨B, 0, none⟩) 2 2) 1 (cellsU [x, y]) (B, #[.int .u64 (x : Nat), .int .u64 (y : Nat)]) := ⟨2, 2, rfl, rfl, Nat.le_refl _, by unfold maxLen; omega, rfl, rfl⟩
end Go.Proofs.Ip
namespace Go.Proofs.YthpodinbbmgfoaaGreat
open Go.Proofs.Ip Go.Proofs.Pt Go.Proofs.Pg Go.Proofs.Cd Go.RowKit Go.Shelf
set_option maxRecDepth 100000 in
set_option maxHeartbeats 2000000 in
theorem left_push (st pc sk er : Int) (wk : Nat) (b : Nat → Bool) (q : Nat → Nat → Nat) (arg bD : Nat) (w0 w : World) (L : List (Nat × Array Value)) (R : List (Nat × Value × List Value)) (sv cv wv two one : Value) (hv : Mem w0 w ((bD, (deed #[.int .i64 st, .int .i64 pc, sv, cv, .int .u64 (wk : Nat), .int .i64 sk, .int .i64 er] (pg b q) #[.int .i64 1, .int .u64 (arg : Nat), wv, two, one])) :: L) R)  : Calls Tryz.prog 30 #[.pointer (some ⟨bD, 0, none⟩)] w (LeftR w0 bD (deed #[.int .i64 st, .int .i64 pc, sv, cv, .int .u64 (wk : Nat), .int .i64 sk, .int .i64 er] (pg b q) #[.int .i64 1, .int .u64 (arg : Nat), wv, two, one]) L R [arg] 0) := by
  go_enter Tryz.func30, Tryz.ntmps30
  go_wp2_with (first
    | ((with_reducible refine at_load (T := 3) ?_); refine wl_ldc rfl _ _ rfl _ (hv.vars.row (by first | exact .head _ | exact .tail _ (.head _) | exact .tail _ (.tail _ (.head _)) | exact .tail _ (.tail _ (.tail _ (.head _))) | exact .tail _ (.tail _ (.tail _ (.tail _ (.head _)))) | exact .tail _ (.tail _ (.tail _ (.tail _ (.tail _ (.head _))))) | exact .tail _ (.tail _ (.tail _ (.tail _ (.tail _ (.tail _ (.head _)))))) | exact .tail _ (.tail _ (.tail _ (.tail _ (.tail _ (.tail _ (.tail _ (.head _))))))))) _ Tryz.underlying3 rfl (.int .i64 1) (deed_hi rfl (size_pg b q) 0) ?_)
    | ((with_reducible refine at_load (T := 25) ?_); refine wl_ldc rfl _ _ rfl _ (hv.vars.row (by first | exact .head _ | exact .tail _ (.head _) | exact .tail _ (.tail _ (.head _)) | exact .tail _ (.tail _ (.tail _ (.head _))) | exact .tail _ (.tail _ (.tail _ (.tail _ (.head _)))) | exact .tail _ (.tail _ (.tail _ (.tail _ (.tail _ (.head _))))) | exact .tail _ (.tail _ (.tail _ (.tail _ (.tail _ (.tail _ (.head _)))))) | exact .tail _ (.tail _ (.tail _ (.tail _ (.tail _ (.tail _ (.tail _ (.head _))))))))) _ Tryz.underlying25 rfl (.int .u64 (arg : Nat)) (deed_hi rfl (size_pg b q) 1) ?_)
    | ((with_reducible refine at_load (T := 23) ?_); refine wl_ldc rfl _ _ rfl _ (hv.vars.row (by first | exact .head _ | exact .tail _ (.head _) | exact .tail _ (.tail _ (.head _)) | exact .tail _ (.tail _ (.tail _ (.head _))) | exact .tail _ (.tail _ (.tail _ (.tail _ (.head _)))) | exact .tail _ (.tail _ (.tail _ (.tail _ (.tail _ (.head _))))) | exact .tail _ (.tail _ (.tail _ (.tail _ (.tail _ (.tail _ (.head _)))))) | exact .tail _ (.tail _ (.tail _ (.tail _ (.tail _ (.tail _ (.tail _ (.head _))))))))) _ Tryz.underlying23 rfl wv (deed_hi rfl (size_pg b q) 2) ?_)
    | ((with_reducible refine at_bslice (T := 23) (dst := some 26) ?_); refine wl_mkb rfl #[.int .u64 (arg : Nat)] 25 1 1 (fun w' => (by unfold execOp; go_simp)) ?_; intro b26 w2 hm2; replace hv := hv.madeAt hm2; clear hm2))
  go_ret2
  exact ⟨_, rfl, Mem.yield (L1 := []) hv (app1 _ _)⟩
set_option maxRecDepth 100000 in
set_option maxHeartbeats 2000000 in
theorem left_pop (st pc sk er : Int) (wk : Nat) (b : Nat → Bool) (q : Nat → Nat → Nat) (arg bD : Nat) (w0 w : World) (L : List (Nat × Array Value)) (R : List (Nat × Value × List Value)) (sv cv wv two one : Value) (hv : Mem w0 w ((bD, (deed #[.int .i64 st, .int .i64 pc, sv, cv, .int .u64 (wk : Nat), .int .i64 sk, .int .i64 er] (pg b q) #[.int .i64 2, .int .u64 (arg : Nat), wv, two, one])) :: L) R)  : Calls Tryz.prog 30 #[.pointer (some ⟨bD, 0, none⟩)] w (LeftR w0 bD (deed #[.int .i64 st, .int .i64 pc, sv, cv, .int .u64 (wk : Nat), .int .i64 sk, .int .i64 er] (pg b q) #[.int .i64 2, .int .u64 (arg : Nat), wv, two, one]) L R [] 0) := by
  go_enter Tryz.func30, Tryz.ntmps30
  go_wp2_with (first
    | ((with_reducible refine at_load (T := 3) ?_); refine wl_ldc rfl _ _ rfl _ (hv.vars.row (by first | exact .head _ | exact .tail _ (.head _) | exact .tail _ (.tail _ (.head _)) | exact .tail _ (.tail _ (.tail _ (.head _))) | exact .tail _ (.tail _ (.tail _ (.tail _ (.head _)))) | exact .tail _ (.tail _ (.tail _ (.tail _ (.tail _ (.head _))))) | exact .tail _ (.tail _ (.tail _ (.tail _ (.tail _ (.tail _ (.head _)))))) | exact .tail _ (.tail _ (.tail _ (.tail _ (.tail _ (.tail _ (.tail _ (.head _))))))))) _ Tryz.underlying3 rfl (.int .i64 2) (deed_hi rfl (size_pg b q) 0) ?_)
    | ((with_reducible refine at_load (T := 25) ?_); refine wl_ldc rfl _ _ rfl _ (hv.vars.row (by first | exact .head _ | exact .tail _ (.head _) | exact .tail _ (.tail _ (.head _)) | exact .tail _ (.tail _ (.tail _ (.head _))) | exact .tail _ (.tail _ (.tail _ (.tail _ (.head _)))) | exact .tail _ (.tail _ (.tail _ (.tail _ (.tail _ (.head _))))) | exact .tail _ (.tail _ (.tail _ (.tail _ (.tail _ (.tail _ (.head _)))))) | exact .tail _ (.tail _ (.tail _ (.tail _ (.tail _ (.tail _ (.tail _ (.head _))))))))) _ Tryz.underlying25 rfl (.int .u64 (arg : Nat)) (deed_hi rfl (size_pg b q) 1) ?_)
    | ((with_reducible refine at_load (T := 23) ?_); refine wl_ldc rfl _ _ rfl _ (hv.vars.row (by first | exact .head _ | exact .tail _ (.head _) | exact .tail _ (.tail _ (.head _)) | exact .tail _ (.tail _ (.tail _ (.head _))) | exact .tail _ (.tail _ (.tail _ (.tail _ (.head _)))) | exact .tail _ (.tail _ (.tail _ (.tail _ (.tail _ (.head _))))) | exact .tail _ (.tail _ (.tail _ (.tail _ (.tail _ (.tail _ (.head _)))))) | exact .tail _ (.tail _ (.tail _ (.tail _ (.tail _ (.tail _ (.tail _ (.head _))))))))) _ Tryz.underlying23 rfl wv (deed_hi rfl (size_pg b q) 2) ?_))
  go_ret2
  exact ⟨_, rfl, mem_nil hv⟩
set_option maxRecDepth 100000 in
set_option maxHeartbeats 2000000 in
theorem left_zero (st pc sk er : Int) (wk : Nat) (b : Nat → Bool) (q : Nat → Nat → Nat) (arg bD : Nat) (w0 w : World) (L : List (Nat × Array Value)) (R : List (Nat × Value × List Value)) (sv cv wv two one : Value) (hv : Mem w0 w ((bD, (deed #[.int .i64 st, .int .i64 pc, sv, cv, .int .u64 (wk : Nat), .int .i64 sk, .int .i64 er] (pg b q) #[.int .i64 21, .int .u64 (arg : Nat), wv, two, one])) :: L) R)  : Calls Tryz.prog 30 #[.pointer (some ⟨bD, 0, none⟩)] w (LeftR w0 bD (deed #[.int .i64 st, .int .i64 pc, sv, cv, .int .u64 (wk : Nat), .int .i64 sk, .int .i64 er] (pg b q) #[.int .i64 21, .int .u64 (arg : Nat), wv, two, one]) L R [] 0) := by
  go_enter Tryz.func30, Tryz.ntmps30
  go_wp2_with (first
    | ((with_reducible refine at_load (T := 3) ?_); refine wl_ldc rfl _ _ rfl _ (hv.vars.row (by first | exact .head _ | exact .tail _ (.head _) | exact .tail _ (.tail _ (.head _)) | exact .tail _ (.tail _ (.tail _ (.head _))) | exact .tail _ (.tail _ (.tail _ (.tail _ (.head _)))) | exact .tail _ (.tail _ (.tail _ (.tail _ (.tail _ (.head _))))) | exact .tail _ (.tail _ (.tail _ (.tail _ (.tail _ (.tail _ (.head _)))))) | exact .tail _ (.tail _ (.tail _ (.tail _ (.tail _ (.tail _ (.tail _ (.head _))))))))) _ Tryz.underlying3 rfl (.int .i64 21) (deed_hi rfl (size_pg b q) 0) ?_)
    | ((with_reducible refine at_load (T := 25) ?_); refine wl_ldc rfl _ _ rfl _ (hv.vars.row (by first | exact .head _ | exact .tail _ (.head _) | exact .tail _ (.tail _ (.head _)) | exact .tail _ (.tail _ (.tail _ (.head _))) | exact .tail _ (.tail _ (.tail _ (.tail _ (.head _)))) | exact .tail _ (.tail _ (.tail _ (.tail _ (.tail _ (.head _))))) | exact .tail _ (.tail _ (.tail _ (.tail _ (.tail _ (.tail _ (.head _)))))) | exact .tail _ (.tail _ (.tail _ (.tail _ (.tail _ (.tail _ (.tail _ (.head _))))))))) _ Tryz.underlying25 rfl (.int .u64 (arg : Nat)) (deed_hi rfl (size_pg b q) 1) ?_)
    | ((with_reducible refine at_load (T := 23) ?_); refine wl_ldc rfl _ _ rfl _ (hv.vars.row (by first | exact .head _ | exact .tail _ (.head _) | exact .tail _ (.tail _ (.head _)) | exact .tail _ (.tail _ (.tail _ (.head _))) | exact .tail _ (.tail _ (.tail _ (.tail _ (.head _)))) | exact .tail _ (.tail _ (.tail _ (.tail _ (.tail _ (.head _))))) | exact .tail _ (.tail _ (.tail _ (.tail _ (.tail _ (.tail _ (.head _)))))) | exact .tail _ (.tail _ (.tail _ (.tail _ (.tail _ (.tail _ (.tail _ (.head _))))))))) _ Tryz.underlying23 rfl wv (deed_hi rfl (size_pg b q) 2) ?_))
  go_ret2
  exact ⟨_, rfl, mem_nil hv⟩
set_option maxRecDepth 100000 in
set_option maxHeartbeats 2000000 in
theorem left_dup (st pc sk er : Int) (wk : Nat) (b : Nat → Bool) (q : Nat → Nat → Nat) (arg bD : Nat) (w0 w : World) (L : List (Nat × Array Value)) (R : List (Nat × Value × List Value)) (sv cv two one : Value) (x y wb wo wc : Nat) (hv : Mem w0 w ((bD, (deed #[.int .i64 st, .int .i64 pc, sv, cv, .int .u64 (wk : Nat), .int .i64 sk, .int .i64 er] (pg b q) #[.int .i64 3, .int .u64 (arg : Nat), (.slice (some ⟨wb, wo, none⟩) 1 wc), two, one])) :: L) R) (hw : (1, (.slice (some ⟨wb, wo, none⟩) 1 wc), cellsU [x]) ∈ R) : Calls Tryz.prog 30 #[.pointer (some ⟨bD, 0, none⟩)] w (LeftR w0 bD (deed #[.int .i64 st, .int .i64 pc, sv, cv, .int .u64 (wk : Nat), .int .i64 sk, .int .i64 er] (pg b q) #[.int .i64 3, .int .u64 (arg : Nat), (.slice (some ⟨wb, wo, none⟩) 1 wc), two, one]) L R [x, x] 0) := by
  go_enter Tryz.func30, Tryz.ntmps30
  go_wp2_with (first
    | ((with_reducible refine at_load (T := 3) ?_); refine wl_ldc rfl _ _ rfl _ (hv.vars.row (by first | exact .head _ | exact .tail _ (.head _) | exact .tail _ (.tail _ (.head _)) | exact .tail _ (.tail _ (.tail _ (.head _))) | exact .tail _ (.tail _ (.tail _ (.tail _ (.head _)))) | exact .tail _ (.tail _ (.tail _ (.tail _ (.tail _ (.head _))))) | exact .tail _ (.tail _ (.tail _ (.tail _ (.tail _ (.tail _ (.head _)))))) | exact .tail _ (.tail _ (.tail _ (.tail _ (.tail _ (.tail _ (.tail _ (.head _))))))))) _ Tryz.underlying3 rfl (.int .i64 3) (deed_hi rfl (size_pg b q) 0) ?_)
    | ((with_reducible refine at_load (T := 25) ?_); refine wl_ldc rfl _ _ rfl _ (hv.vars.row (by first | exact .head _ | exact .tail _ (.head _) | exact .tail _ (.tail _ (.head _)) | exact .tail _ (.tail _ (.tail _ (.head _))) | exact .tail _ (.tail _ (.tail _ (.tail _ (.head _)))) | exact .tail _ (.tail _ (.tail _ (.tail _ (.tail _ (.head _))))) | exact .tail _ (.tail _ (.tail _ (.tail _ (.tail _ (.tail _ (.head _)))))) | exact .tail _ (.tail _ (.tail _ (.tail _ (.tail _ (.tail _ (.tail _ (.head _))))))))) _ Tryz.underlying25 rfl (.int .u64 (arg : Nat)) (deed_hi rfl (size_pg b q) 1) ?_)
    | ((with_reducible refine at_load (T := 23) ?_); refine wl_ldc rfl _ _ rfl _ (hv.vars.row (by first | exact .head _ | exact .tail _ (.head _) | exact .tail _ (.tail _ (.head _)) | exact .tail _ (.tail _ (.tail _ (.head _))) | exact .tail _ (.tail _ (.tail _ (.tail _ (.head _)))) | exact .tail _ (.tail _ (.tail _ (.tail _ (.tail _ (.head _))))) | exact .tail _ (.tail _ (.tail _ (.tail _ (.tail _ (.tail _ (.head _)))))) | exact .tail _ (.tail _ (.tail _ (.tail _ (.tail _ (.tail _ (.tail _ (.head _))))))))) _ Tryz.underlying23 rfl (.slice (some ⟨wb, wo, none⟩) 1 wc) (deed_hi rfl (size_pg b q) 2) ?_))
  have HW := Lib.hid (Any.rd_start (hv.keep (List.sublist_append_left [(bD, (deed #[.int .i64 st, .int .i64 pc, sv, cv, .int .u64 (wk : Nat), .int .i64 sk, .int .i64 er] (pg b q) #[.int .i64 3, .int .u64 (arg : Nat), (.slice (some ⟨wb, wo, none⟩) 1 wc), two, one]))] L)) hw)
  clear hw
  refine Any.wp_region_walk [⟨[], none⟩, ⟨[], none⟩, ⟨[], none⟩, ⟨[], none⟩, ⟨[], none⟩, ⟨[], none⟩, ⟨[], some 2⟩, ⟨[], none⟩, ⟨[], none⟩] [.val, .val, .val, .val, .val, .val, .bsl 2 #[.int .u64 (x : Nat), .int .u64 (x : Nat)], .pure, .pure] (by kernel_rfl) (by kernel_rfl) (hv.vars.keep (List.sublist_append_left [(bD, (deed #[.int .i64 st, .int .i64 pc, sv, cv, .int .u64 (wk : Nat), .int .i64 sk, .int .i64 er] (pg b q) #[.int .i64 3, .int .u64 (arg : Nat), (.slice (some ⟨wb, wo, none⟩) 1 wc), two, one]))] L)) ?_
  simp only [List.length_cons, List.length_nil, Nat.zero_add, Any.someVals]
  iterate 9 apply Exists.intro
  repeat (first
    | (refine Any.E_off rfl ?_; simp only [Act.put, List.setIfInBounds_toArray, List.set_cons_succ, List.set_cons_zero])
    | (apply Any.E_pureq rfl rfl rfl
       case h => intro K hK; go_big_quiet_op; (refine hK _ ?_; rfl)
       case hr => exact fun _ => rfl
       simp only [Act.put, List.setIfInBounds_toArray, List.set_cons_succ, List.set_cons_zero])
    | (apply Any.E_val rfl rfl rfl rfl
       case h =>
         intro E' hA K hK
         first
           | ((with_reducible refine Any.at_qload (T := 25) ?_); refine Any.q_rd (HW.out) 0 rfl _ Tryz.underlying25 rfl (.int .u64 (x : Nat)) rfl ?_; refine hK _ ?_; rfl)
           | (go_big_quiet_op; first
             | (refine hK _ ?_; rfl)
             | (refine ⟨_, fun _ _ => rfl, ?_⟩; refine hK _ ?_; rfl)
             | (apply Exists.intro; refine ⟨fun w1 hw1 => ?_, ?_⟩; · (first
                 | fail)
                refine hK _ ?_; rfl))
       case hD => rfl
       simp only [Act.put, List.setIfInBounds_toArray, List.set_cons_succ, List.set_cons_zero])
    | ((with_reducible refine Any.at_ealloc ?_); refine Any.E_lay rfl rfl rfl (fun _ => rfl) ?_; intro B; simp only [Act.put, List.setIfInBounds_toArray, List.set_cons_succ, List.set_cons_zero])
    | ((with_reducible refine Any.at_ebsl ?_); refine Any.E_bsl (t := 25) rfl rfl rfl (fun w' => (by unfold execOp; go_simp)) ?_; intro B; simp only [Act.put, List.setIfInBounds_toArray, List.set_cons_succ, List.set_cons_zero]))
  try any_goals exact undef
  refine Any.E_nil ?_
  intro w9 hE9
  replace hv : Mem w0 w9 ([(bD, (deed #[.int .i64 st, .int .i64 pc, sv, cv, .int .u64 (wk : Nat), .int .i64 sk, .int .i64 er] (pg b q) #[.int .i64 3, .int .u64 (arg : Nat), (.slice (some ⟨wb, wo, none⟩) 1 wc), two, one])), (B, #[.int .u64 (x : Nat), .int .u64 (x : Nat)])] ++ L) R := hE9.memr hv [1000, 2] (by decide)
  clear hE9
  simp only [List.cons_append, List.nil_append] at hv
  go_wp2
  go_ret2
  exact ⟨_, rfl, Mem.yield (L1 := [(bD, (deed #[.int .i64 st, .int .i64 pc, sv, cv, .int .u64 (wk : Nat), .int .i64 sk, .int .i64 er] (pg b q) #[.int .i64 3, .int .u64 (arg : Nat), (.slice (some ⟨wb, wo, none⟩) 1 wc), two, one]))]) hv (app2 _ _ _)⟩
set_option maxRecDepth 100000 in
set_option maxHeartbeats 2000000 in
theorem left_swap (st pc sk er : Int) (wk : Nat) (b : Nat → Bool) (q : Nat → Nat → Nat) (arg bD : Nat) (w0 w : World) (L : List (Nat × Array Value)) (R : List (Nat × Value × List Value)) (sv cv two one : Value) (x y wb wo wc : Nat) (hv : Mem w0 w ((bD, (deed #[.int .i64 st, .int .i64 pc, sv, cv, .int .u64 (wk : Nat), .int .i64 sk, .int .i64 er] (pg b q) #[.int .i64 4, .int .u64 (arg : Nat), (.slice (some ⟨wb, wo, none⟩) 2 wc), two, one])) :: L) R) (hw : (1, (.slice (some ⟨wb, wo, none⟩) 2 wc), cellsU [x, y]) ∈ R) : Calls Tryz.prog 30 #[.pointer (some ⟨bD, 0, none⟩)] w (LeftR w0 bD (deed #[.int .i64 st, .int .i64 pc, sv, cv, .int .u64 (wk : Nat), .int .i64 sk, .int .i64 er] (pg b q) #[.int .i64 4, .int .u64 (arg : Nat), (.slice (some ⟨wb, wo, none⟩) 2 wc), two, one]) L R [y, x] 0) := by
  go_enter Tryz.func30, Tryz.ntmps30
  go_wp2_with (first
    | ((with_reducible refine at_load (T := 3) ?_); refine wl_ldc rfl _ _ rfl _ (hv.vars.row (by first | exact .head _ | exact .tail _ (.head _) | exact .tail _ (.tail _ (.head _)) | exact .tail _ (.tail _ (.tail _ (.head _))) | exact .tail _ (.tail _ (.tail _ (.tail _ (.head _)))) | exact .tail _ (.tail _ (.tail _ (.tail _ (.tail _ (.head _))))) | exact .tail _ (.tail _ (.tail _ (.tail _ (.tail _ (.tail _ (.head _)))))) | exact .tail _ (.tail _ (.tail _ (.tail _ (.tail _ (.tail _ (.tail _ (.head _))))))))) _ Tryz.underlying3 rfl (.int .i64 4) (deed_hi rfl (size_pg b q) 0) ?_)
    | ((with_reducible refine at_load (T := 25) ?_); refine wl_ldc rfl _ _ rfl _ (hv.vars.row (by first | exact .head _ | exact .tail _ (.head _) | exact .tail _ (.tail _ (.head _)) | exact .tail _ (.tail _ (.tail _ (.head _))) | exact .tail _ (.tail _ (.tail _ (.tail _ (.head _)))) | exact .tail _ (.tail _ (.tail _ (.tail _ (.tail _ (.head _))))) | exact .tail _ (.tail _ (.tail _ (.tail _ (.tail _ (.tail _ (.head _)))))) | exact .tail _ (.tail _ (.tail _ (.tail _ (.tail _ (.tail _ (.tail _ (.head _))))))))) _ Tryz.underlying25 rfl (.int .u64 (arg : Nat)) (deed_hi rfl (size_pg b q) 1) ?_)
    | ((with_reducible refine at_load (T := 23) ?_); refine wl_ldc rfl _ _ rfl _ (hv.vars.row (by first | exact .head _ | exact .tail _ (.head _) | exact .tail _ (.tail _ (.head _)) | exact .tail _ (.tail _ (.tail _ (.head _))) | exact .tail _ (.tail _ (.tail _ (.tail _ (.head _)))) | exact .tail _ (.tail _ (.tail _ (.tail _ (.tail _ (.head _))))) | exact .tail _ (.tail _ (.tail _ (.tail _ (.tail _ (.tail _ (.head _)))))) | exact .tail _ (.tail _ (.tail _ (.tail _ (.tail _ (.tail _ (.tail _ (.head _))))))))) _ Tryz.underlying23 rfl (.slice (some ⟨wb, wo, none⟩) 2 wc) (deed_hi rfl (size_pg b q) 2) ?_))
  have HW := Lib.hid (Any.rd_start (hv.keep (List.sublist_append_left [(bD, (deed #[.int .i64 st, .int .i64 pc, sv, cv, .int .u64 (wk : Nat), .int .i64 sk, .int .i64 er] (pg b q) #[.int .i64 4, .int .u64 (arg : Nat), (.slice (some ⟨wb, wo, none⟩) 2 wc), two, one]))] L)) hw)
  clear hw
  refine Any.wp_region_walk [⟨[], none⟩, ⟨[], none⟩, ⟨[], none⟩, ⟨[], none⟩, ⟨[], none⟩, ⟨[], none⟩, ⟨[], some 2⟩, ⟨[], none⟩, ⟨[], none⟩] [.val, .val, .val, .val, .val, .val, .bsl 2 #[.int .u64 (y : Nat), .int .u64 (x : Nat)], .pure, .pure] (by kernel_rfl) (by kernel_rfl) (hv.vars.keep (List.sublist_append_left [(bD, (deed #[.int .i64 st, .int .i64 pc, sv, cv, .int .u64 (wk : Nat), .int .i64 sk, .int .i64 er] (pg b q) #[.int .i64 4, .int .u64 (arg : Nat), (.slice (some ⟨wb, wo, none⟩) 2 wc), two, one]))] L)) ?_
  simp only [List.length_cons, List.length_nil, Nat.zero_add, Any.someVals]
  iterate 9 apply Exists.intro
  repeat (first
    | (refine Any.E_off rfl ?_; simp only [Act.put, List.setIfInBounds_toArray, List.set_cons_succ, List.set_cons_zero])
    | (apply Any.E_pureq rfl rfl rfl
       case h => intro K hK; go_big_quiet_op; (refine hK _ ?_; rfl)
       case hr => exact fun _ => rfl
       simp only [Act.put, List.setIfInBounds_toArray, List.set_cons_succ, List.set_cons_zero])
    | (apply Any.E_val rfl rfl rfl rfl
       case h =>
         intro E' hA K hK
         first
           | ((with_reducible refine Any.at_qload (T := 25) ?_); refine Any.q_rd (HW.out) 0 rfl _ Tryz.underlying25 rfl (.int .u64 (x : Nat)) rfl ?_; refine hK _ ?_; rfl)
           | ((with_reducible refine Any.at_qload (T := 25) ?_); refine Any.q_rd (HW.out) 1 rfl _ Tryz.underlying25 rfl (.int .u64 (y : Nat)) rfl ?_; refine hK _ ?_; rfl)
           | (go_big_quiet_op; first
             | (refine hK _ ?_; rfl)
             | (refine ⟨_, fun _ _ => rfl, ?_⟩; refine hK _ ?_; rfl)
             | (apply Exists.intro; refine ⟨fun w1 hw1 => ?_, ?_⟩; · (first
                 | fail)
                refine hK _ ?_; rfl))
       case hD => rfl
       simp only [Act.put, List.setIfInBounds_toArray, List.set_cons_succ, List.set_cons_zero])
    | ((with_reducible refine Any.at_ealloc ?_); refine Any.E_lay rfl rfl rfl (fun _ => rfl) ?_; intro B; simp only [Act.put, List.setIfInBounds_toArray, List.set_cons_succ, List.set_cons_zero])
    | ((with_reducible refine Any.at_ebsl ?_); refine Any.E_bsl (t := 25) rfl rfl rfl (fun w' => (by unfold execOp; go_simp)) ?_; intro B; simp only [Act.put, List.setIfInBounds_toArray, List.set_cons_succ, List.set_cons_zero]))
  try any_goals exact undef
  refine Any.E_nil ?_
  intro w9 hE9
  replace hv : Mem w0 w9 ([(bD, (deed #[.int .i64 st, .int .i64 pc, sv, cv, .int .u64 (wk : Nat), .int .i64 sk, .int .i64 er] (pg b q) #[.int .i64 4, .int .u64 (arg : Nat), (.slice (some ⟨wb, wo, none⟩) 2 wc), two, one])), (B, #[.int .u64 (y : Nat), .int .u64 (x : Nat)])] ++ L) R := hE9.memr hv [1000, 2] (by decide)
  clear hE9
  simp only [List.cons_append, List.nil_append] at hv
  go_wp2
  go_ret2
  exact ⟨_, rfl, Mem.yield (L1 := [(bD, (deed #[.int .i64 st, .int .i64 pc, sv, cv, .int .u64 (wk : Nat), .int .i64 sk, .int .i64 er] (pg b q) #[.int .i64 4, .int .u64 (arg : Nat), (.slice (some ⟨wb, wo, none⟩) 2 wc), two, one]))]) hv (app2 _ _ _)⟩
set_option maxRecDepth 100000 in
set_option maxHeartbeats 2000000 in
theorem left_over0 (st pc sk er : Int) (wk : Nat) (b : Nat → Bool) (q : Nat → Nat → Nat) (arg bD : Nat) (w0 w : World) (L : List (Nat × Array Value)) (R : List (Nat × Value × List Value)) (cv wv two one : Value) (S : List Nat) (sa : Option Addr) (n sc : Nat) (hv : Mem w0 w ((bD, (deed #[.int .i64 st, .int .i64 pc, (.slice sa n sc), cv, .int .u64 (wk : Nat), .int .i64 sk, .int .i64 er] (pg b q) #[.int .i64 5, .int .u64 (arg : Nat), wv, two, one])) :: L) R) (hn : n ≤ 1000) (ha : arg < 32) (hlt : n ≤ arg) : Calls Tryz.prog 30 #[.pointer (some ⟨bD, 0, none⟩)] w (LeftR w0 bD (deed #[.int .i64 st, .int .i64 pc, (.slice sa n sc), cv, .int .u64 (wk : Nat), .int .i64 sk, .int .i64 er] (pg b q) #[.int .i64 5, .int .u64 (arg : Nat), wv, two, one]) L R [] 300) := by
  have q1 : IntKind.i64.wrap ((n : Int) - 1) = (n : Int) - 1 := IntWalk.i64_in _ (by omega)
  have q2 : IntKind.i64.wrap (arg : Int) = (arg : Int) := IntWalk.i64_in _ (by omega)
  have q3 : IntKind.i64.wrap ((n : Int) - 1 - (arg : Int)) = (n : Int) - 1 - (arg : Int) := IntWalk.i64_in _ (by omega)
  have q4 : decide ((n : Int) - 1 - (arg : Int) < 0) = true := decide_eq_true (by omega)
  clear hlt hn ha
  go_enter Tryz.func30, Tryz.ntmps30
  go_wp2_with (first
    | ((with_reducible refine at_load (T := 3) ?_); refine wl_ldc rfl _ _ rfl _ (hv.vars.row (by first | exact .head _ | exact .tail _ (.head _) | exact .tail _ (.tail _ (.head _)) | exact .tail _ (.tail _ (.tail _ (.head _))) | exact .tail _ (.tail _ (.tail _ (.tail _ (.head _)))) | exact .tail _ (.tail _ (.tail _ (.tail _ (.tail _ (.head _))))) | exact .tail _ (.tail _ (.tail _ (.tail _ (.tail _ (.tail _ (.head _)))))) | exact .tail _ (.tail _ (.tail _ (.tail _ (.tail _ (.tail _ (.tail _ (.head _))))))))) _ Tryz.underlying3 rfl (.int .i64 5) (deed_hi rfl (size_pg b q) 0) ?_)
    | ((with_reducible refine at_load (T := 25) ?_); refine wl_ldc rfl _ _ rfl _ (hv.vars.row (by first | exact .head _ | exact .tail _ (.head _) | exact .tail _ (.tail _ (.head _)) | exact .tail _ (.tail _ (.tail _ (.head _))) | exact .tail _ (.tail _ (.tail _ (.tail _ (.head _)))) | exact .tail _ (.tail _ (.tail _ (.tail _ (.tail _ (.head _))))) | exact .tail _ (.tail _ (.tail _ (.tail _ (.tail _ (.tail _ (.head _)))))) | exact .tail _ (.tail _ (.tail _ (.tail _ (.tail _ (.tail _ (.tail _ (.head _))))))))) _ Tryz.underlying25 rfl (.int .u64 (arg : Nat)) (deed_hi rfl (size_pg b q) 1) ?_)
    | ((with_reducible refine at_load (T := 23) ?_); refine wl_ldc rfl _ _ rfl _ (hv.vars.row (by first | exact .head _ | exact .tail _ (.head _) | exact .tail _ (.tail _ (.head _)) | exact .tail _ (.tail _ (.tail _ (.head _))) | exact .tail _ (.tail _ (.tail _ (.tail _ (.head _)))) | exact .tail _ (.tail _ (.tail _ (.tail _ (.tail _ (.head _))))) | exact .tail _ (.tail _ (.tail _ (.tail _ (.tail _ (.tail _ (.head _)))))) | exact .tail _ (.tail _ (.tail _ (.tail _ (.tail _ (.tail _ (.tail _ (.head _))))))))) _ Tryz.underlying23 rfl wv (deed_hi rfl (size_pg b q) 2) ?_)
    | ((with_reducible refine at_load (T := 23) ?_); refine wl_ldc rfl _ _ rfl _ (hv.vars.row (by first | exact .head _ | exact .tail _ (.head _) | exact .tail _ (.tail _ (.head _)) | exact .tail _ (.tail _ (.tail _ (.head _))) | exact .tail _ (.tail _ (.tail _ (.tail _ (.head _)))) | exact .tail _ (.tail _ (.tail _ (.tail _ (.tail _ (.head _))))) | exact .tail _ (.tail _ (.tail _ (.tail _ (.tail _ (.tail _ (.head _)))))) | exact .tail _ (.tail _ (.tail _ (.tail _ (.tail _ (.tail _ (.tail _ (.head _))))))))) _ Tryz.underlying23 rfl (.slice sa n sc) (deed_lo rfl (i := 2) (by decide)) ?_))
  refine Any.wp_region_walk [⟨[], none⟩, ⟨[], none⟩, ⟨[], none⟩, ⟨[], none⟩, ⟨[1000], none⟩, ⟨[], none⟩, ⟨[], none⟩, ⟨[], none⟩, ⟨[], none⟩, ⟨[], none⟩, ⟨[], none⟩, ⟨[1000], none⟩, ⟨[], none⟩, ⟨[], none⟩, ⟨[], none⟩] [.val, .val, .val, .val, .val, .val, .val, .val, .val, .val, .val, .val, .val, .val, .val] (by kernel_rfl) (by kernel_rfl) (hv.vars.keep (List.sublist_append_left [(bD, (deed #[.int .i64 st, .int .i64 pc, (.slice sa n sc), cv, .int .u64 (wk : Nat), .int .i64 sk, .int .i64 er] (pg b q) #[.int .i64 5, .int .u64 (arg : Nat), wv, two, one]))] L)) ?_
  simp only [List.length_cons, List.length_nil, Nat.zero_add, Any.someVals]
  iterate 15 apply Exists.intro
  repeat (first
    | (refine Any.E_off rfl ?_; simp only [Act.put, List.setIfInBounds_toArray, List.set_cons_succ, List.set_cons_zero])
    | (apply Any.E_pureq rfl rfl rfl
       case h => intro K hK; go_big_quiet_op; (refine hK _ ?_; rfl)
       case hr => exact fun _ => rfl
       simp only [Act.put, List.setIfInBounds_toArray, List.set_cons_succ, List.set_cons_zero])
    | (apply Any.E_val rfl rfl rfl rfl
       case h =>
         intro E' hA K hK
         first
           | ((with_reducible refine Any.at_qload (T := 23) ?_); refine Any.q_ldc 1000 hA (by decide) rfl rfl _ Tryz.underlying23 rfl (.slice sa n sc) (deed_lo rfl (i := 2) (by decide)) ?_; refine hK _ ?_; rfl)
           | ((with_reducible refine Any.at_qload (T := 25) ?_); refine Any.q_ldc 1000 hA (by decide) rfl rfl _ Tryz.underlying25 rfl (.int .u64 (arg : Nat)) (deed_hi rfl (size_pg b q) 1) ?_; refine hK _ ?_; rfl)
           | (go_big_quiet_op; first
             | (refine hK _ ?_; rfl)
             | (refine ⟨_, fun _ _ => rfl, ?_⟩; refine hK _ ?_; rfl)
             | (apply Exists.intro; refine ⟨fun w1 hw1 => ?_, ?_⟩; · (first
                 | fail)
                refine hK _ ?_; rfl))
       case hD => rfl
       simp only [Act.put, List.setIfInBounds_toArray, List.set_cons_succ, List.set_cons_zero])
    | ((with_reducible refine Any.at_ealloc ?_); refine Any.E_lay rfl rfl rfl (fun _ => rfl) ?_; intro B; simp only [Act.put, List.setIfInBounds_toArray, List.set_cons_succ, List.set_cons_zero]))
  try any_goals exact undef
  refine Any.E_nil ?_
  intro w9 hE9
  replace hv : Mem w0 w9 ([(bD, (deed #[.int .i64 st, .int .i64 pc, (.slice sa n sc), cv, .int .u64 (wk : Nat), .int .i64 sk, .int .i64 er] (pg b q) #[.int .i64 5, .int .u64 (arg : Nat), wv, two, one]))] ++ L) R := hE9.memr hv [1000] (by decide)
  clear hE9
  simp only [List.cons_append, List.nil_append] at hv
  go_wp2
  go_ret2
  exact ⟨_, rfl, mem_nil hv⟩
set_option maxRecDepth 100000 in
set_option maxHeartbeats 2000000 in
theorem left_over1 (st pc sk er : Int) (wk : Nat) (b : Nat → Bool) (q : Nat → Nat → Nat) (arg bD : Nat) (w0 w : World) (L : List (Nat × Array Value)) (R : List (Nat × Value × List Value)) (cv wv two one : Value) (S : List Nat) (sb so n sc m x : Nat) (hv : Mem w0 w ((bD, (deed #[.int .i64 st, .int .i64 pc, (.slice (some ⟨sb, so, none⟩) n sc), cv, .int .u64 (wk : Nat), .int .i64 sk, .int .i64 er] (pg b q) #[.int .i64 5, .int .u64 (arg : Nat), wv, two, one])) :: L) R) (hs : (1, (.slice (some ⟨sb, so, none⟩) n sc), cellsU S) ∈ R) (hn : n ≤ 1000) (hl : S.length = n) (ha : arg < 32) (hm : n = m + 1 + arg) (hx : S[m]? = some x) : Calls Tryz.prog 30 #[.pointer (some ⟨bD, 0, none⟩)] w (LeftR w0 bD (deed #[.int .i64 st, .int .i64 pc, (.slice (some ⟨sb, so, none⟩) n sc), cv, .int .u64 (wk : Nat), .int .i64 sk, .int .i64 er] (pg b q) #[.int .i64 5, .int .u64 (arg : Nat), wv, two, one]) L R [x] 0) := by
  have q1 : IntKind.i64.wrap ((n : Int) - 1) = (n : Int) - 1 := IntWalk.i64_in _ (by omega)
  have q2 : IntKind.i64.wrap (arg : Int) = (arg : Int) := IntWalk.i64_in _ (by omega)
  have q3 : IntKind.i64.wrap ((n : Int) - 1 - (arg : Int)) = (m : Int) := by rw [show (n : Int) - 1 - (arg : Int) = (m : Int) from by omega]; exact IntWalk.i64_in _ (by omega)
  have q4 : decide ((m : Int) < 0) = false := decide_eq_false (by omega)
  have q6 : (m : Int) < (n : Int) := by omega
  have hxl : (cellsU S)[m]? = some (.int .u64 (x : Nat)) := by simp [cellsU, hx]
  have HX := Lib.hid hxl
  have hml : m < (cellsU S).length := by rw [cellsU_len]; omega
  have HML := Lib.hid hml
  clear hm hn ha hl hx hxl hml
  go_enter Tryz.func30, Tryz.ntmps30
  go_wp2_with (first
    | ((with_reducible refine at_load (T := 3) ?_); refine wl_ldc rfl _ _ rfl _ (hv.vars.row (by first | exact .head _ | exact .tail _ (.head _) | exact .tail _ (.tail _ (.head _)) | exact .tail _ (.tail _ (.tail _ (.head _))) | exact .tail _ (.tail _ (.tail _ (.tail _ (.head _)))) | exact .tail _ (.tail _ (.tail _ (.tail _ (.tail _ (.head _))))) | exact .tail _ (.tail _ (.tail _ (.tail _ (.tail _ (.tail _ (.head _)))))) | exact .tail _ (.tail _ (.tail _ (.tail _ (.tail _ (.tail _ (.tail _ (.head _))))))))) _ Tryz.underlying3 rfl (.int .i64 5) (deed_hi rfl (size_pg b q) 0) ?_)
    | ((with_reducible refine at_load (T := 25) ?_); refine wl_ldc rfl _ _ rfl _ (hv.vars.row (by first | exact .head _ | exact .tail _ (.head _) | exact .tail _ (.tail _ (.head _)) | exact .tail _ (.tail _ (.tail _ (.head _))) | exact .tail _ (.tail _ (.tail _ (.tail _ (.head _)))) | exact .tail _ (.tail _ (.tail _ (.tail _ (.tail _ (.head _))))) | exact .tail _ (.tail _ (.tail _ (.tail _ (.tail _ (.tail _ (.head _)))))) | exact .tail _ (.tail _ (.tail _ (.tail _ (.tail _ (.tail _ (.tail _ (.head _))))))))) _ Tryz.underlying25 rfl (.int .u64 (arg : Nat)) (deed_hi rfl (size_pg b q) 1) ?_)
    | ((with_reducible refine at_load (T := 23) ?_); refine wl_ldc rfl _ _ rfl _ (hv.vars.row (by first | exact .head _ | exact .tail _ (.head _) | exact .tail _ (.tail _ (.head _)) | exact .tail _ (.tail _ (.tail _ (.head _))) | exact .tail _ (.tail _ (.tail _ (.tail _ (.head _)))) | exact .tail _ (.tail _ (.tail _ (.tail _ (.tail _ (.head _))))) | exact .tail _ (.tail _ (.tail _ (.tail _ (.tail _ (.tail _ (.head _)))))) | exact .tail _ (.tail _ (.tail _ (.tail _ (.tail _ (.tail _ (.tail _ (.head _))))))))) _ Tryz.underlying23 rfl wv (deed_hi rfl (size_pg b q) 2) ?_)
    | ((with_reducible refine at_load (T := 23) ?_); refine wl_ldc rfl _ _ rfl _ (hv.vars.row (by first | exact .head _ | exact .tail _ (.head _) | exact .tail _ (.tail _ (.head _)) | exact .tail _ (.tail _ (.tail _ (.head _))) | exact .tail _ (.tail _ (.tail _ (.tail _ (.head _)))) | exact .tail _ (.tail _ (.tail _ (.tail _ (.tail _ (.head _))))) | exact .tail _ (.tail _ (.tail _ (.tail _ (.tail _ (.tail _ (.head _)))))) | exact .tail _ (.tail _ (.tail _ (.tail _ (.tail _ (.tail _ (.tail _ (.head _))))))))) _ Tryz.underlying23 rfl (.slice (some ⟨sb, so, none⟩) n sc) (deed_lo rfl (i := 2) (by decide)) ?_))
  refine Any.wp_region_walk [⟨[], none⟩, ⟨[], none⟩, ⟨[], none⟩, ⟨[], none⟩, ⟨[1000], none⟩, ⟨[], none⟩, ⟨[], none⟩, ⟨[], none⟩, ⟨[], none⟩, ⟨[], none⟩, ⟨[], none⟩, ⟨[1000], none⟩, ⟨[], none⟩, ⟨[], none⟩, ⟨[], none⟩] [.val, .val, .val, .val, .val, .val, .val, .val, .val, .val, .val, .val, .val, .val, .val] (by kernel_rfl) (by kernel_rfl) (hv.vars.keep (List.sublist_append_left [(bD, (deed #[.int .i64 st, .int .i64 pc, (.slice (some ⟨sb, so, none⟩) n sc), cv, .int .u64 (wk : Nat), .int .i64 sk, .int .i64 er] (pg b q) #[.int .i64 5, .int .u64 (arg : Nat), wv, two, one]))] L)) ?_
  simp only [List.length_cons, List.length_nil, Nat.zero_add, Any.someVals]
  iterate 15 apply Exists.intro
  repeat (first
    | (refine Any.E_off rfl ?_; simp only [Act.put, List.setIfInBounds_toArray, List.set_cons_succ, List.set_cons_zero])
    | (apply Any.E_pureq rfl rfl rfl
       case h => intro K hK; go_big_quiet_op; (refine hK _ ?_; rfl)
       case hr => exact fun _ => rfl
       simp only [Act.put, List.setIfInBounds_toArray, List.set_cons_succ, List.set_cons_zero])
    | (apply Any.E_val rfl rfl rfl rfl
       case h =>
         intro E' hA K hK
         first
           | ((with_reducible refine Any.at_qload (T := 23) ?_); refine Any.q_ldc 1000 hA (by decide) rfl rfl _ Tryz.underlying23 rfl (.slice (some ⟨sb, so, none⟩) n sc) (deed_lo rfl (i := 2) (by decide)) ?_; refine hK _ ?_; rfl)
           | ((with_reducible refine Any.at_qload (T := 25) ?_); refine Any.q_ldc 1000 hA (by decide) rfl rfl _ Tryz.underlying25 rfl (.int .u64 (arg : Nat)) (deed_hi rfl (size_pg b q) 1) ?_; refine hK _ ?_; rfl)
           | (go_big_quiet_op; first
             | (refine hK _ ?_; rfl)
             | (refine ⟨_, fun _ _ => rfl, ?_⟩; refine hK _ ?_; rfl)
             | (apply Exists.intro; refine ⟨fun w1 hw1 => ?_, ?_⟩; · (first
                 | fail)
                refine hK _ ?_; rfl))
       case hD => rfl
       simp only [Act.put, List.setIfInBounds_toArray, List.set_cons_succ, List.set_cons_zero])
    | ((with_reducible refine Any.at_ealloc ?_); refine Any.E_lay rfl rfl rfl (fun _ => rfl) ?_; intro B; simp only [Act.put, List.setIfInBounds_toArray, List.set_cons_succ, List.set_cons_zero]))
  try any_goals exact undef
  refine Any.E_nil ?_
  intro w9 hE9
  replace hv : Mem w0 w9 ([(bD, (deed #[.int .i64 st, .int .i64 pc, (.slice (some ⟨sb, so, none⟩) n sc), cv, .int .u64 (wk : Nat), .int .i64 sk, .int .i64 er] (pg b q) #[.int .i64 5, .int .u64 (arg : Nat), wv, two, one]))] ++ L) R := hE9.memr hv [1000] (by decide)
  clear hE9
  simp only [List.cons_append, List.nil_append] at hv
  have c0 : w9.cell? ⟨sb, so + m, none⟩ = some (.int .u64 (x : Nat)) := by
    obtain ⟨_, _, _, _, e, _, _, _, _, g⟩ := (hv.rd hs).some (by have := HML.out; omega)
    cases e
    rw [g m HML.out]; exact HX.out
  clear hs
  go_wp2_with (first
    | ((with_reducible refine at_load (T := 23) ?_); refine wl_ldc rfl _ _ rfl _ (hv.vars.row (by first | exact .head _ | exact .tail _ (.head _) | exact .tail _ (.tail _ (.head _)) | exact .tail _ (.tail _ (.tail _ (.head _))) | exact .tail _ (.tail _ (.tail _ (.tail _ (.head _)))) | exact .tail _ (.tail _ (.tail _ (.tail _ (.tail _ (.head _))))) | exact .tail _ (.tail _ (.tail _ (.tail _ (.tail _ (.tail _ (.head _)))))) | exact .tail _ (.tail _ (.tail _ (.tail _ (.tail _ (.tail _ (.tail _ (.head _))))))))) _ Tryz.underlying23 rfl (.slice (some ⟨sb, so, none⟩) n sc) (deed_lo rfl (i := 2) (by decide)) ?_)
    | ((with_reducible refine at_bslice (T := 23) (dst := some 74) ?_); refine wl_mkb rfl #[.int .u64 (x : Nat)] 25 1 1 (fun w' => (by unfold execOp; go_simp)) ?_; intro b74 w2 hm2; replace hv := hv.madeAt hm2; clear hm2))
  go_ret2
  exact ⟨_, rfl, Mem.yield (L1 := []) hv (app1 _ _)⟩
set_option maxRecDepth 100000 in
set_option maxHeartbeats 2000000 in
theorem left_load (st pc sk er : Int) (wk : Nat) (b : Nat → Bool) (q : Nat → Nat → Nat) (arg bD : Nat) (w0 w : World) (L : List (Nat × Array Value)) (R : List (Nat × Value × List Value)) (sv cv two one : Value) (x wb wo wc : Nat) (hv : Mem w0 w ((bD, (deed #[.int .i64 st, .int .i64 pc, sv, cv, .int .u64 (wk : Nat), .int .i64 sk, .int .i64 er] (pg b q) #[.int .i64 24, .int .u64 (arg : Nat), (.slice (some ⟨wb, wo, none⟩) 1 wc), two, one])) :: L) R) (hw : (1, (.slice (some ⟨wb, wo, none⟩) 1 wc), cellsU [x]) ∈ R) : Calls Tryz.prog 30 #[.pointer (some ⟨bD, 0, none⟩)] w (LeftR w0 bD (deed #[.int .i64 st, .int .i64 pc, sv, cv, .int .u64 (wk : Nat), .int .i64 sk, .int .i64 er] (pg b q) #[.int .i64 24, .int .u64 (arg : Nat), (.slice (some ⟨wb, wo, none⟩) 1 wc), two, one]) L R [loadV b q x] (loadE b x)) := by
  go_enter Tryz.func30, Tryz.ntmps30
  go_wp2_with (first
    | ((with_reducible refine at_load (T := 3) ?_); refine wl_ldc rfl _ _ rfl _ (hv.vars.row (by first | exact .head _ | exact .tail _ (.head _) | exact .tail _ (.tail _ (.head _)) | exact .tail _ (.tail _ (.tail _ (.head _))) | exact .tail _ (.tail _ (.tail _ (.tail _ (.head _)))) | exact .tail _ (.tail _ (.tail _ (.tail _ (.tail _ (.head _))))) | exact .tail _ (.tail _ (.tail _ (.tail _ (.tail _ (.tail _ (.head _)))))) | exact .tail _ (.tail _ (.tail _ (.tail _ (.tail _ (.tail _ (.tail _ (.head _))))))))) _ Tryz.underlying3 rfl (.int .i64 24) (deed_hi rfl (size_pg b q) 0) ?_)
    | ((with_reducible refine at_load (T := 25) ?_); refine wl_ldc rfl _ _ rfl _ (hv.vars.row (by first | exact .head _ | exact .tail _ (.head _) | exact .tail _ (.tail _ (.head _)) | exact .tail _ (.tail _ (.tail _ (.head _))) | exact .tail _ (.tail _ (.tail _ (.tail _ (.head _)))) | exact .tail _ (.tail _ (.tail _ (.tail _ (.tail _ (.head _))))) | exact .tail _ (.tail _ (.tail _ (.tail _ (.tail _ (.tail _ (.head _)))))) | exact .tail _ (.tail _ (.tail _ (.tail _ (.tail _ (.tail _ (.tail _ (.head _))))))))) _ Tryz.underlying25 rfl (.int .u64 (arg : Nat)) (deed_hi rfl (size_pg b q) 1) ?_)
    | ((with_reducible refine at_load (T := 23) ?_); refine wl_ldc rfl _ _ rfl _ (hv.vars.row (by first | exact .head _ | exact .tail _ (.head _) | exact .tail _ (.tail _ (.head _)) | exact .tail _ (.tail _ (.tail _ (.head _))) | exact .tail _ (.tail _ (.tail _ (.tail _ (.head _)))) | exact .tail _ (.tail _ (.tail _ (.tail _ (.tail _ (.head _))))) | exact .tail _ (.tail _ (.tail _ (.tail _ (.tail _ (.tail _ (.head _)))))) | exact .tail _ (.tail _ (.tail _ (.tail _ (.tail _ (.tail _ (.tail _ (.head _))))))))) _ Tryz.underlying23 rfl (.slice (some ⟨wb, wo, none⟩) 1 wc) (deed_hi rfl (size_pg b q) 2) ?_))
  have HW := Lib.hid (Any.rd_start (hv.keep (List.sublist_append_left [(bD, (deed #[.int .i64 st, .int .i64 pc, sv, cv, .int .u64 (wk : Nat), .int .i64 sk, .int .i64 er] (pg b q) #[.int .i64 24, .int .u64 (arg : Nat), (.slice (some ⟨wb, wo, none⟩) 1 wc), two, one]))] L)) hw)
  clear hw
  refine Any.wp_region_walk [⟨[], none⟩, ⟨[], none⟩, ⟨[], none⟩, ⟨[1000], none⟩, ⟨[], none⟩, ⟨[], none⟩, ⟨[], none⟩, ⟨[], none⟩, ⟨[], none⟩, ⟨[], none⟩, ⟨[], none⟩, ⟨[], none⟩, ⟨[], none⟩] [.val, .val, .val, .val, .val, .val, .val, .val, .val, .val, .val, .val, .val] (by kernel_rfl) (by kernel_rfl) (hv.vars.keep (List.sublist_append_left [(bD, (deed #[.int .i64 st, .int .i64 pc, sv, cv, .int .u64 (wk : Nat), .int .i64 sk, .int .i64 er] (pg b q) #[.int .i64 24, .int .u64 (arg : Nat), (.slice (some ⟨wb, wo, none⟩) 1 wc), two, one]))] L)) ?_
  simp only [List.length_cons, List.length_nil, Nat.zero_add, Any.someVals]
  iterate 13 apply Exists.intro
  repeat (first
    | (refine Any.E_off rfl ?_; simp only [Act.put, List.setIfInBounds_toArray, List.set_cons_succ, List.set_cons_zero])
    | (apply Any.E_pureq rfl rfl rfl
       case h => intro K hK; go_big_quiet_op; (refine hK _ ?_; rfl)
       case hr => exact fun _ => rfl
       simp only [Act.put, List.setIfInBounds_toArray, List.set_cons_succ, List.set_cons_zero])
    | (apply Any.E_val rfl rfl rfl rfl
       case h =>
         intro E' hA K hK
         first
           | ((with_reducible refine Any.at_qload (T := 32) ?_); refine Any.q_ldp 1000 hA (by decide) rfl rfl 144 _ Tryz.underlying32 rfl infoPs (by decide) (by rw [deed_size rfl (size_pg b q)]; simp) (pg b q) (deed_pages rfl (size_pg b q)) ?_; refine hK _ ?_; rfl)
           | ((with_reducible refine Any.at_qload (T := 25) ?_); refine Any.q_rd (HW.out) 0 rfl _ Tryz.underlying25 rfl (.int .u64 (x : Nat)) rfl ?_; refine hK _ ?_; rfl)
           | (go_big_quiet_op; first
             | (refine hK _ ?_; rfl)
             | (refine ⟨_, fun _ _ => rfl, ?_⟩; refine hK _ ?_; rfl)
             | (apply Exists.intro; refine ⟨fun w1 hw1 => ?_, ?_⟩; · (first
                 | (go_at_call 65; exact Any.calls_VE (Load_any b q x _) hw1))
                refine hK _ ?_; rfl))
       case hD => rfl
       simp only [Act.put, List.setIfInBounds_toArray, List.set_cons_succ, List.set_cons_zero])
    | ((with_reducible refine Any.at_ealloc ?_); refine Any.E_lay rfl rfl rfl (fun _ => rfl) ?_; intro B; simp only [Act.put, List.setIfInBounds_toArray, List.set_cons_succ, List.set_cons_zero]))
  try any_goals exact undef
  refine Any.E_nil ?_
  intro w9 hE9
  replace hv : Mem w0 w9 ([(bD, (deed #[.int .i64 st, .int .i64 pc, sv, cv, .int .u64 (wk : Nat), .int .i64 sk, .int .i64 er] (pg b q) #[.int .i64 24, .int .u64 (arg : Nat), (.slice (some ⟨wb, wo, none⟩) 1 wc), two, one]))] ++ L) R := hE9.memr hv [1000] (by decide)
  clear hE9
  simp only [List.cons_append, List.nil_append] at hv
  go_wp2_with (first
    | ((with_reducible refine at_bslice (T := 23) (dst := some 89) ?_); refine wl_mkb rfl #[.int .u64 (loadV b q x : Nat)] 25 1 1 (fun w' => (by unfold execOp; go_simp)) ?_; intro b89 w2 hm2; replace hv := hv.madeAt hm2; clear hm2))
  go_ret2
  exact ⟨_, rfl, Mem.yield (L1 := []) hv (app1 _ _)⟩
set_option maxRecDepth 100000 in
set_option maxHeartbeats 2000000 in
theorem left_store (st pc sk er : Int) (wk : Nat) (b : Nat → Bool) (q : Nat → Nat → Nat) (arg bD : Nat) (w0 w : World) (L : List (Nat × Array Value)) (R : List (Nat × Value × List Value)) (sv cv two one : Value) (x y wb wo wc : Nat) (hv : Mem w0 w ((bD, (deed #[.int .i64 st, .int .i64 pc, sv, cv, .int .u64 (wk : Nat), .int .i64 sk, .int .i64 er] (pg b q) #[.int .i64 25, .int .u64 (arg : Nat), (.slice (some ⟨wb, wo, none⟩) 2 wc), two, one])) :: L) R) (hw : (1, (.slice (some ⟨wb, wo, none⟩) 2 wc), cellsU [x, y]) ∈ R) : Calls Tryz.prog 30 #[.pointer (some ⟨bD, 0, none⟩)] w (LeftR w0 bD (deed #[.int .i64 st, .int .i64 pc, sv, cv, .int .u64 (wk : Nat), .int .i64 sk, .int .i64 er] (pg b (storeQ b q x y)) #[.int .i64 25, .int .u64 (arg : Nat), (.slice (some ⟨wb, wo, none⟩) 2 wc), two, one]) L R [] (loadE b x)) := by
  go_enter Tryz.func30, Tryz.ntmps30
  go_wp2_with (first
    | ((with_reducible refine at_load (T := 3) ?_); refine wl_ldc rfl _ _ rfl _ (hv.vars.row (by first | exact .head _ | exact .tail _ (.head _) | exact .tail _ (.tail _ (.head _)) | exact .tail _ (.tail _ (.tail _ (.head _))) | exact .tail _ (.tail _ (.tail _ (.tail _ (.head _)))) | exact .tail _ (.tail _ (.tail _ (.tail _ (.tail _ (.head _))))) | exact .tail _ (.tail _ (.tail _ (.tail _ (.tail _ (.tail _ (.head _)))))) | exact .tail _ (.tail _ (.tail _ (.tail _ (.tail _ (.tail _ (.tail _ (.head _))))))))) _ Tryz.underlying3 rfl (.int .i64 25) (deed_hi rfl (size_pg b q) 0) ?_)
    | ((with_reducible refine at_load (T := 25) ?_); refine wl_ldc rfl _ _ rfl _ (hv.vars.row (by first | exact .head _ | exact .tail _ (.head _) | exact .tail _ (.tail _ (.head _)) | exact .tail _ (.tail _ (.tail _ (.head _))) | exact .tail _ (.tail _ (.tail _ (.tail _ (.head _)))) | exact .tail _ (.tail _ (.tail _ (.tail _ (.tail _ (.head _))))) | exact .tail _ (.tail _ (.tail _ (.tail _ (.tail _ (.tail _ (.head _)))))) | exact .tail _ (.tail _ (.tail _ (.tail _ (.tail _ (.tail _ (.tail _ (.head _))))))))) _ Tryz.underlying25 rfl (.int .u64 (arg : Nat)) (deed_hi rfl (size_pg b q) 1) ?_)
    | ((with_reducible refine at_load (T := 23) ?_); refine wl_ldc rfl _ _ rfl _ (hv.vars.row (by first | exact .head _ | exact .tail _ (.head _) | exact .tail _ (.tail _ (.head _)) | exact .tail _ (.tail _ (.tail _ (.head _))) | exact .tail _ (.tail _ (.tail _ (.tail _ (.head _)))) | exact .tail _ (.tail _ (.tail _ (.tail _ (.tail _ (.head _))))) | exact .tail _ (.tail _ (.tail _ (.tail _ (.tail _ (.tail _ (.head _)))))) | exact .tail _ (.tail _ (.tail _ (.tail _ (.tail _ (.tail _ (.tail _ (.head _))))))))) _ Tryz.underlying23 rfl (.slice (some ⟨wb, wo, none⟩) 2 wc) (deed_hi rfl (size_pg b q) 2) ?_))
  have HW := Lib.hid (Any.rd_start (hv.keep (List.sublist_append_left [(bD, (deed #[.int .i64 st, .int .i64 pc, sv, cv, .int .u64 (wk : Nat), .int .i64 sk, .int .i64 er] (pg b q) #[.int .i64 25, .int .u64 (arg : Nat), (.slice (some ⟨wb, wo, none⟩) 2 wc), two, one]))] L)) hw)
  clear hw
  refine Any.wp_region_walk [⟨[], none⟩, ⟨[], none⟩, ⟨[], none⟩, ⟨[1000], none⟩, ⟨[], none⟩, ⟨[], none⟩, ⟨[], none⟩, ⟨[], none⟩, ⟨[], none⟩, ⟨[], none⟩, ⟨[], none⟩, ⟨[], none⟩, ⟨[], none⟩, ⟨[], none⟩, ⟨[], some 2⟩, ⟨[2], some 2⟩, ⟨[], none⟩] [.val, .val, .val, .val, .val, .val, .val, .val, .val, .val, .val, .val, .val, .val, .lay Tryz.zeroCells32, .put, .val] (by kernel_rfl) (by kernel_rfl) (hv.vars.keep (List.sublist_append_left [(bD, (deed #[.int .i64 st, .int .i64 pc, sv, cv, .int .u64 (wk : Nat), .int .i64 sk, .int .i64 er] (pg b q) #[.int .i64 25, .int .u64 (arg : Nat), (.slice (some ⟨wb, wo, none⟩) 2 wc), two, one]))] L)) ?_
  simp only [List.length_cons, List.length_nil, Nat.zero_add, Any.someVals]
  iterate 17 apply Exists.intro
  repeat (first
    | (refine Any.E_off rfl ?_; simp only [Act.put, List.setIfInBounds_toArray, List.set_cons_succ, List.set_cons_zero])
    | (apply Any.E_pureq rfl rfl rfl
       case h => intro K hK; go_big_quiet_op; (refine hK _ ?_; rfl)
       case hr => exact fun _ => rfl
       simp only [Act.put, List.setIfInBounds_toArray, List.set_cons_succ, List.set_cons_zero])
    | (apply Any.E_val rfl rfl rfl rfl
       case h =>
         intro E' hA K hK
         first
           | ((with_reducible refine Any.at_qload (T := 32) ?_); refine Any.q_ldp 1000 hA (by decide) rfl rfl 144 _ Tryz.underlying32 rfl infoPs (by decide) (by rw [deed_size rfl (size_pg b q)]; simp) (pg b q) (deed_pages rfl (size_pg b q)) ?_; refine hK _ ?_; rfl)
           | ((with_reducible refine Any.at_qload (T := 25) ?_); refine Any.q_rd (HW.out) 0 rfl _ Tryz.underlying25 rfl (.int .u64 (x : Nat)) rfl ?_; refine hK _ ?_; rfl)
           | ((with_reducible refine Any.at_qload (T := 25) ?_); refine Any.q_rd (HW.out) 1 rfl _ Tryz.underlying25 rfl (.int .u64 (y : Nat)) rfl ?_; refine hK _ ?_; rfl)
           | (go_big_quiet_op; first
             | (refine hK _ ?_; rfl)
             | (refine ⟨_, fun _ _ => rfl, ?_⟩; refine hK _ ?_; rfl)
             | (apply Exists.intro; refine ⟨fun w1 hw1 => ?_, ?_⟩; · (first
                 | (go_at_call 66; exact Any.calls_VE (Store_any b q x y _) hw1))
                refine hK _ ?_; rfl))
       case hD => rfl
       simp only [Act.put, List.setIfInBounds_toArray, List.set_cons_succ, List.set_cons_zero])
    | ((with_reducible refine Any.at_ealloc ?_); refine Any.E_lay rfl rfl rfl (fun _ => rfl) ?_; intro B; simp only [Act.put, List.setIfInBounds_toArray, List.set_cons_succ, List.set_cons_zero])
    | ((with_reducible refine Any.at_estore (T := 32) ?_); refine Any.E_putv (T := 32) rfl rfl rfl rfl rfl rfl 144 infoPs (size_pg b _) (by rw [zeroPs, size_pg]) (one_pg b _) ?_; simp only [Act.put, List.setIfInBounds_toArray, List.set_cons_succ, List.set_cons_zero]))
  try any_goals exact undef
  refine Any.E_nil ?_
  intro w9 hE9
  replace hv : Mem w0 w9 ([(bD, (deed #[.int .i64 st, .int .i64 pc, sv, cv, .int .u64 (wk : Nat), .int .i64 sk, .int .i64 er] (pg b q) #[.int .i64 25, .int .u64 (arg : Nat), (.slice (some ⟨wb, wo, none⟩) 2 wc), two, one])), (B, (pg b (storeQ b q x y)))] ++ L) R := hE9.memr hv [1000, 2] (by decide)
  clear hE9
  simp only [List.cons_append, List.nil_append] at hv
  go_wp2_with (first
    | ((with_reducible refine at_load (T := 32) ?_); refine wl_ldv rfl _ rfl _ (hv.vars.row (by first | exact .head _ | exact .tail _ (.head _) | exact .tail _ (.tail _ (.head _)) | exact .tail _ (.tail _ (.tail _ (.head _))) | exact .tail _ (.tail _ (.tail _ (.tail _ (.head _)))) | exact .tail _ (.tail _ (.tail _ (.tail _ (.tail _ (.head _))))) | exact .tail _ (.tail _ (.tail _ (.tail _ (.tail _ (.tail _ (.head _)))))) | exact .tail _ (.tail _ (.tail _ (.tail _ (.tail _ (.tail _ (.tail _ (.head _))))))))) 144 _ Tryz.underlying32 rfl infoPs (by decide) (size_pg b _) ?_)
    | ((with_reducible refine at_store (T := 32) ?_); refine wl_stp rfl _ _ rfl _ rfl _ (hv.vars.row (by first | exact .head _ | exact .tail _ (.head _) | exact .tail _ (.tail _ (.head _)) | exact .tail _ (.tail _ (.tail _ (.head _))) | exact .tail _ (.tail _ (.tail _ (.tail _ (.head _)))) | exact .tail _ (.tail _ (.tail _ (.tail _ (.tail _ (.head _))))) | exact .tail _ (.tail _ (.tail _ (.tail _ (.tail _ (.tail _ (.head _)))))) | exact .tail _ (.tail _ (.tail _ (.tail _ (.tail _ (.tail _ (.tail _ (.head _))))))))) (hv.vars.sft (by first | exact .head _ | exact .tail _ (.head _) | exact .tail _ (.tail _ (.head _)) | exact .tail _ (.tail _ (.tail _ (.head _))) | exact .tail _ (.tail _ (.tail _ (.tail _ (.head _)))) | exact .tail _ (.tail _ (.tail _ (.tail _ (.tail _ (.head _))))) | exact .tail _ (.tail _ (.tail _ (.tail _ (.tail _ (.tail _ (.head _)))))) | exact .tail _ (.tail _ (.tail _ (.tail _ (.tail _ (.tail _ (.tail _ (.head _))))))))) 144 infoPs (size_pg b _) (by rw [deed_size rfl (size_pg b q)]; simp) (one_pg b _) (deed #[.int .i64 st, .int .i64 pc, sv, cv, .int .u64 (wk : Nat), .int .i64 sk, .int .i64 er] (pg b (storeQ b q x y)) #[.int .i64 25, .int .u64 (arg : Nat), (.slice (some ⟨wb, wo, none⟩) 2 wc), two, one]) (deed_put_pages rfl (size_pg b q) (size_pg b _)) ?_; intro w2 hw2; (first | (replace hv := hv.set 0 rfl hw2) | (replace hv := hv.set 1 rfl hw2) | (replace hv := hv.set 2 rfl hw2) | (replace hv := hv.set 3 rfl hw2)); clear hw2; simp only [List.set] at hv))
  go_ret2
  exact ⟨_, rfl, mem_nil (hv.keep (List.Sublist.cons_cons _ (List.sublist_cons_self _ _)))⟩
set_option maxRecDepth 100000 in
set_option maxHeartbeats 2000000 in
theorem left_zero9 (st pc sk er : Int) (wk : Nat) (b : Nat → Bool) (q : Nat → Nat → Nat) (arg bD : Nat) (w0 w : World) (L : List (Nat × Array Value)) (R : List (Nat × Value × List Value)) (sv cv two one : Value) (x wb wo wc : Nat) (hv : Mem w0 w ((bD, (deed #[.int .i64 st, .int .i64 pc, sv, cv, .int .u64 (wk : Nat), .int .i64 sk, .int .i64 er] (pg b q) #[.int .i64 9, .int .u64 (arg : Nat), (.slice (some ⟨wb, wo, none⟩) 2 wc), two, one])) :: L) R) (hw : (1, (.slice (some ⟨wb, wo, none⟩) 2 wc), cellsU [x, 0]) ∈ R) : Calls Tryz.prog 30 #[.pointer (some ⟨bD, 0, none⟩)] w (LeftR w0 bD (deed #[.int .i64 st, .int .i64 pc, sv, cv, .int .u64 (wk : Nat), .int .i64 sk, .int .i64 er] (pg b q) #[.int .i64 9, .int .u64 (arg : Nat), (.slice (some ⟨wb, wo, none⟩) 2 wc), two, one]) L R [] 301) := by
  have c1 : w.cell? ⟨wb, wo + 1, none⟩ = some (.int .u64 0) := by
    obtain ⟨_, _, _, _, e, _, _, _, _, g⟩ := (hv.rd hw).some (by rw [cellsU_len]; simp)
    cases e
    exact g 1 (by rw [cellsU_len]; simp)
  clear hw
  go_enter Tryz.func30, Tryz.ntmps30
  go_wp2_with (first
    | ((with_reducible refine at_load (T := 3) ?_); refine wl_ldc rfl _ _ rfl _ (hv.vars.row (by first | exact .head _ | exact .tail _ (.head _) | exact .tail _ (.tail _ (.head _)) | exact .tail _ (.tail _ (.tail _ (.head _))) | exact .tail _ (.tail _ (.tail _ (.tail _ (.head _)))) | exact .tail _ (.tail _ (.tail _ (.tail _ (.tail _ (.head _))))) | exact .tail _ (.tail _ (.tail _ (.tail _ (.tail _ (.tail _ (.head _)))))) | exact .tail _ (.tail _ (.tail _ (.tail _ (.tail _ (.tail _ (.tail _ (.head _))))))))) _ Tryz.underlying3 rfl (.int .i64 9) (deed_hi rfl (size_pg b q) 0) ?_)
    | ((with_reducible refine at_load (T := 25) ?_); refine wl_ldc rfl _ _ rfl _ (hv.vars.row (by first | exact .head _ | exact .tail _ (.head _) | exact .tail _ (.tail _ (.head _)) | exact .tail _ (.tail _ (.tail _ (.head _))) | exact .tail _ (.tail _ (.tail _ (.tail _ (.head _)))) | exact .tail _ (.tail _ (.tail _ (.tail _ (.tail _ (.head _))))) | exact .tail _ (.tail _ (.tail _ (.tail _ (.tail _ (.tail _ (.head _)))))) | exact .tail _ (.tail _ (.tail _ (.tail _ (.tail _ (.tail _ (.tail _ (.head _))))))))) _ Tryz.underlying25 rfl (.int .u64 (arg : Nat)) (deed_hi rfl (size_pg b q) 1) ?_)
    | ((with_reducible refine at_load (T := 23) ?_); refine wl_ldc rfl _ _ rfl _ (hv.vars.row (by first | exact .head _ | exact .tail _ (.head _) | exact .tail _ (.tail _ (.head _)) | exact .tail _ (.tail _ (.tail _ (.head _))) | exact .tail _ (.tail _ (.tail _ (.tail _ (.head _)))) | exact .tail _ (.tail _ (.tail _ (.tail _ (.tail _ (.head _))))) | exact .tail _ (.tail _ (.tail _ (.tail _ (.tail _ (.tail _ (.head _)))))) | exact .tail _ (.tail _ (.tail _ (.tail _ (.tail _ (.tail _ (.tail _ (.head _))))))))) _ Tryz.underlying23 rfl (.slice (some ⟨wb, wo, none⟩) 2 wc) (deed_hi rfl (size_pg b q) 2) ?_))
  go_ret2
  exact ⟨_, rfl, mem_nil hv⟩
set_option maxRecDepth 100000 in
set_option maxHeartbeats 2000000 in
theorem left_zero10 (st pc sk er : Int) (wk : Nat) (b : Nat → Bool) (q : Nat → Nat → Nat) (arg bD : Nat) (w0 w : World) (L : List (Nat × Array Value)) (R : List (Nat × Value × List Value)) (sv cv two one : Value) (x wb wo wc : Nat) (hv : Mem w0 w ((bD, (deed #[.int .i64 st, .int .i64 pc, sv, cv, .int .u64 (wk : Nat), .int .i64 sk, .int .i64 er] (pg b q) #[.int .i64 10, .int .u64 (arg : Nat), (.slice (some ⟨wb, wo, none⟩) 2 wc), two, one])) :: L) R) (hw : (1, (.slice (some ⟨wb, wo, none⟩) 2 wc), cellsU [x, 0]) ∈ R) : Calls Tryz.prog 30 #[.pointer (some ⟨bD, 0, none⟩)] w (LeftR w0 bD (deed #[.int .i64 st, .int .i64 pc, sv, cv, .int .u64 (wk : Nat), .int .i64 sk, .int .i64 er] (pg b q) #[.int .i64 10, .int .u64 (arg : Nat), (.slice (some ⟨wb, wo, none⟩) 2 wc), two, one]) L R [] 301) := by
  have c1 : w.cell? ⟨wb, wo + 1, none⟩ = some (.int .u64 0) := by
    obtain ⟨_, _, _, _, e, _, _, _, _, g⟩ := (hv.rd hw).some (by rw [cellsU_len]; simp)
    cases e
    exact g 1 (by rw [cellsU_len]; simp)
  clear hw
  go_enter Tryz.func30, Tryz.ntmps30
  go_wp2_with (first
    | ((with_reducible refine at_load (T := 3) ?_); refine wl_ldc rfl _ _ rfl _ (hv.vars.row (by first | exact .head _ | exact .tail _ (.head _) | exact .tail _ (.tail _ (.head _)) | exact .tail _ (.tail _ (.tail _ (.head _))) | exact .tail _ (.tail _ (.tail _ (.tail _ (.head _)))) | exact .tail _ (.tail _ (.tail _ (.tail _ (.tail _ (.head _))))) | exact .tail _ (.tail _ (.tail _ (.tail _ (.tail _ (.tail _ (.head _)))))) | exact .tail _ (.tail _ (.tail _ (.tail _ (.tail _ (.tail _ (.tail _ (.head _))))))))) _ Tryz.underlying3 rfl (.int .i64 10) (deed_hi rfl (size_pg b q) 0) ?_)
    | ((with_reducible refine at_load (T := 25) ?_); refine wl_ldc rfl _ _ rfl _ (hv.vars.row (by first | exact .head _ | exact .tail _ (.head _) | exact .tail _ (.tail _ (.head _)) | exact .tail _ (.tail _ (.tail _ (.head _))) | exact .tail _ (.tail _ (.tail _ (.tail _ (.head _)))) | exact .tail _ (.tail _ (.tail _ (.tail _ (.tail _ (.head _))))) | exact .tail _ (.tail _ (.tail _ (.tail _ (.tail _ (.tail _ (.head _)))))) | exact .tail _ (.tail _ (.tail _ (.tail _ (.tail _ (.tail _ (.tail _ (.head _))))))))) _ Tryz.underlying25 rfl (.int .u64 (arg : Nat)) (deed_hi rfl (size_pg b q) 1) ?_)
    | ((with_reducible refine at_load (T := 23) ?_); refine wl_ldc rfl _ _ rfl _ (hv.vars.row (by first | exact .head _ | exact .tail _ (.head _) | exact .tail _ (.tail _ (.head _)) | exact .tail _ (.tail _ (.tail _ (.head _))) | exact .tail _ (.tail _ (.tail _ (.tail _ (.head _)))) | exact .tail _ (.tail _ (.tail _ (.tail _ (.tail _ (.head _))))) | exact .tail _ (.tail _ (.tail _ (.tail _ (.tail _ (.tail _ (.head _)))))) | exact .tail _ (.tail _ (.tail _ (.tail _ (.tail _ (.tail _ (.tail _ (.head _))))))))) _ Tryz.underlying23 rfl (.slice (some ⟨wb, wo, none⟩) 2 wc) (deed_hi rfl (size_pg b q) 2) ?_))
  go_ret2
  exact ⟨_, rfl, mem_nil hv⟩
set_option maxRecDepth 100000 in
set_option maxHeartbeats 2000000 in
theorem left_two (st pc sk er : Int) (wk : Nat) (b : Nat → Bool) (q : Nat → Nat → Nat) (arg bD : Nat) (w0 w : World) (L : List (Nat × Array Value)) (R : List (Nat × Value × List Value)) (sv cv : Value) (cap : Array Value) (kf x y wb wo wc : Nat) (op : Int) (hv : Mem w0 w ((bD, (deed #[.int .i64 st, .int .i64 pc, sv, cv, .int .u64 (wk : Nat), .int .i64 sk, .int .i64 er] (pg b q) #[.int .i64 op, .int .u64 (arg : Nat), (.slice (some ⟨wb, wo, none⟩) 2 wc), (.func (.func kf) #[] cap), .nilFunc])) :: L) R) (hw : (1, (.slice (some ⟨wb, wo, none⟩) 2 wc), cellsU [x, y]) ∈ R) (kE : Enters Tryz.prog kf) (kF : ∀ w', (∀ z ∈ R, Rd w' z.1 z.2.1 z.2.2) → Calls Tryz.prog kf (#[.int .u64 (x : Nat), .int .u64 (y : Nat)] ++ cap) w' fun e w2 => e = .returned (.int .u64 (twoF op x y : Nat)) ∧ New w' w2) (h1 : op ≠ 1) (h2 : op ≠ 2) (h21 : op ≠ 21) (h3 : op ≠ 3) (h4 : op ≠ 4) (h5 : op ≠ 5) (h24 : op ≠ 24) (h25 : op ≠ 25) (h9 : op ≠ 9) (h10 : op ≠ 10) : Calls Tryz.prog 30 #[.pointer (some ⟨bD, 0, none⟩)] w (LeftR w0 bD (deed #[.int .i64 st, .int .i64 pc, sv, cv, .int .u64 (wk : Nat), .int .i64 sk, .int .i64 er] (pg b q) #[.int .i64 op, .int .u64 (arg : Nat), (.slice (some ⟨wb, wo, none⟩) 2 wc), (.func (.func kf) #[] cap), .nilFunc]) L R [twoF op x y] 0) := by
  replace h1 : (op == 1) = false := by rw [beq_eq_false_iff_ne]; exact h1
  replace h2 : (op == 2) = false := by rw [beq_eq_false_iff_ne]; exact h2
  replace h21 : (op == 21) = false := by rw [beq_eq_false_iff_ne]; exact h21
  replace h3 : (op == 3) = false := by rw [beq_eq_false_iff_ne]; exact h3
  replace h4 : (op == 4) = false := by rw [beq_eq_false_iff_ne]; exact h4
  replace h5 : (op == 5) = false := by rw [beq_eq_false_iff_ne]; exact h5
  replace h24 : (op == 24) = false := by rw [beq_eq_false_iff_ne]; exact h24
  replace h25 : (op == 25) = false := by rw [beq_eq_false_iff_ne]; exact h25
  replace h9 : (op == 9) = false := by rw [beq_eq_false_iff_ne]; exact h9
  replace h10 : (op == 10) = false := by rw [beq_eq_false_iff_ne]; exact h10
  have q1 : ∀ w (f : FuncId) (a b : Array Value), (binOp .neq 56 (.func (.func f) a b) .nilFunc).run Tryz.prog w = .ok (.bool true) w := fun w f a b => run_neq_func w _ _ _ _ _ _ _ Tryz.underlying56
  have q2 : ∀ w, (binOp .neq 56 .nilFunc .nilFunc).run Tryz.prog w = .ok (.bool false) w := fun w => run_neq_nofunc w _ _ _ _ Tryz.underlying56
  have HR := Lib.hid (fun (z : Nat × Value × List Value) (hz : z ∈ R) => Any.rd_start (k := z.1) (v := z.2.1) (c := z.2.2) (hv.keep (List.sublist_append_left [(bD, (deed #[.int .i64 st, .int .i64 pc, sv, cv, .int .u64 (wk : Nat), .int .i64 sk, .int .i64 er] (pg b q) #[.int .i64 op, .int .u64 (arg : Nat), (.slice (some ⟨wb, wo, none⟩) 2 wc), (.func (.func kf) #[] cap), .nilFunc]))] L)) hz)
  have HW := Lib.hid (HR.out _ hw)
  clear hw
  go_enter Tryz.func30, Tryz.ntmps30
  go_wp2_with (first
    | ((with_reducible refine at_load (T := 3) ?_); refine wl_ldc rfl _ _ rfl _ (hv.vars.row (by first | exact .head _ | exact .tail _ (.head _) | exact .tail _ (.tail _ (.head _)) | exact .tail _ (.tail _ (.tail _ (.head _))) | exact .tail _ (.tail _ (.tail _ (.tail _ (.head _)))) | exact .tail _ (.tail _ (.tail _ (.tail _ (.tail _ (.head _))))) | exact .tail _ (.tail _ (.tail _ (.tail _ (.tail _ (.tail _ (.head _)))))) | exact .tail _ (.tail _ (.tail _ (.tail _ (.tail _ (.tail _ (.tail _ (.head _))))))))) _ Tryz.underlying3 rfl (.int .i64 op) (deed_hi rfl (size_pg b q) 0) ?_)
    | ((with_reducible refine at_load (T := 25) ?_); refine wl_ldc rfl _ _ rfl _ (hv.vars.row (by first | exact .head _ | exact .tail _ (.head _) | exact .tail _ (.tail _ (.head _)) | exact .tail _ (.tail _ (.tail _ (.head _))) | exact .tail _ (.tail _ (.tail _ (.tail _ (.head _)))) | exact .tail _ (.tail _ (.tail _ (.tail _ (.tail _ (.head _))))) | exact .tail _ (.tail _ (.tail _ (.tail _ (.tail _ (.tail _ (.head _)))))) | exact .tail _ (.tail _ (.tail _ (.tail _ (.tail _ (.tail _ (.tail _ (.head _))))))))) _ Tryz.underlying25 rfl (.int .u64 (arg : Nat)) (deed_hi rfl (size_pg b q) 1) ?_)
    | ((with_reducible refine at_load (T := 23) ?_); refine wl_ldc rfl _ _ rfl _ (hv.vars.row (by first | exact .head _ | exact .tail _ (.head _) | exact .tail _ (.tail _ (.head _)) | exact .tail _ (.tail _ (.tail _ (.head _))) | exact .tail _ (.tail _ (.tail _ (.tail _ (.head _)))) | exact .tail _ (.tail _ (.tail _ (.tail _ (.tail _ (.head _))))) | exact .tail _ (.tail _ (.tail _ (.tail _ (.tail _ (.tail _ (.head _)))))) | exact .tail _ (.tail _ (.tail _ (.tail _ (.tail _ (.tail _ (.tail _ (.head _))))))))) _ Tryz.underlying23 rfl (.slice (some ⟨wb, wo, none⟩) 2 wc) (deed_hi rfl (size_pg b q) 2) ?_)
    | ((with_reducible refine at_load (T := 56) ?_); refine wl_ldc rfl _ _ rfl _ (hv.vars.row (by first | exact .head _ | exact .tail _ (.head _) | exact .tail _ (.tail _ (.head _)) | exact .tail _ (.tail _ (.tail _ (.head _))) | exact .tail _ (.tail _ (.tail _ (.tail _ (.head _)))) | exact .tail _ (.tail _ (.tail _ (.tail _ (.tail _ (.head _))))) | exact .tail _ (.tail _ (.tail _ (.tail _ (.tail _ (.tail _ (.head _)))))) | exact .tail _ (.tail _ (.tail _ (.tail _ (.tail _ (.tail _ (.tail _ (.head _))))))))) _ Tryz.underlying56 rfl .nilFunc (deed_hi rfl (size_pg b q) 4) ?_))
  refine Any.wp_region_walk [⟨[], none⟩, ⟨[], none⟩, ⟨[], none⟩, ⟨[1000], none⟩, ⟨[], none⟩, ⟨[], none⟩, ⟨[], none⟩, ⟨[], none⟩, ⟨[], none⟩, ⟨[], none⟩, ⟨[], none⟩, ⟨[], some 2⟩, ⟨[], none⟩, ⟨[], none⟩] [.val, .val, .val, .val, .val, .val, .val, .val, .val, .val, .val, .bsl 1 #[.int .u64 (twoF op x y : Nat)], .pure, .pure] (by kernel_rfl) (by kernel_rfl) (hv.vars.keep (List.sublist_append_left [(bD, (deed #[.int .i64 st, .int .i64 pc, sv, cv, .int .u64 (wk : Nat), .int .i64 sk, .int .i64 er] (pg b q) #[.int .i64 op, .int .u64 (arg : Nat), (.slice (some ⟨wb, wo, none⟩) 2 wc), (.func (.func kf) #[] cap), .nilFunc]))] L)) ?_
  simp only [List.length_cons, List.length_nil, Nat.zero_add, Any.someVals]
  iterate 14 apply Exists.intro
  repeat (first
    | (refine Any.E_off rfl ?_; simp only [Act.put, List.setIfInBounds_toArray, List.set_cons_succ, List.set_cons_zero])
    | (apply Any.E_pureq rfl rfl rfl
       case h => intro K hK; go_big_quiet_op; (refine hK _ ?_; rfl)
       case hr => exact fun _ => rfl
       simp only [Act.put, List.setIfInBounds_toArray, List.set_cons_succ, List.set_cons_zero])
    | (apply Any.E_val rfl rfl rfl rfl
       case h =>
         intro E' hA K hK
         first
           | ((with_reducible refine Any.at_qload (T := 55) ?_); refine Any.q_ldc 1000 hA (by decide) rfl rfl _ Tryz.underlying55 rfl (.func (.func kf) #[] cap) (deed_hi rfl (size_pg b q) 3) ?_; refine hK _ ?_; rfl)
           | ((with_reducible refine Any.at_qload (T := 25) ?_); refine Any.q_rd (HW.out) 0 rfl _ Tryz.underlying25 rfl (.int .u64 (x : Nat)) rfl ?_; refine hK _ ?_; rfl)
           | ((with_reducible refine Any.at_qload (T := 25) ?_); refine Any.q_rd (HW.out) 1 rfl _ Tryz.underlying25 rfl (.int .u64 (y : Nat)) rfl ?_; refine hK _ ?_; rfl)
           | ((with_reducible refine Any.at_qcall ?_); refine Any.q_callv kE rfl [.int .u64 (x : Nat), .int .u64 (y : Nat)] rfl (fun w1 hw1 => Any.calls_VE (kF w1 (fun z hz => hw1.rdold (HR.out z hz).1 (HR.out z hz).2)) hw1) ?_; refine hK _ ?_; rfl)
           | (go_big_quiet_op; first
             | (refine hK _ ?_; rfl)
             | (refine ⟨_, fun _ _ => rfl, ?_⟩; refine hK _ ?_; rfl)
             | (apply Exists.intro; refine ⟨fun w1 hw1 => ?_, ?_⟩; · (first
                 | fail)
                refine hK _ ?_; rfl))
       case hD => rfl
       simp only [Act.put, List.setIfInBounds_toArray, List.set_cons_succ, List.set_cons_zero])
    | ((with_reducible refine Any.at_ealloc ?_); refine Any.E_lay rfl rfl rfl (fun _ => rfl) ?_; intro B; simp only [Act.put, List.setIfInBounds_toArray, List.set_cons_succ, List.set_cons_zero])
    | ((with_reducible refine Any.at_ebsl ?_); refine Any.E_bsl (t := 25) rfl rfl rfl (fun w' => (by unfold execOp; go_simp)) ?_; intro B; simp only [Act.put, List.setIfInBounds_toArray, List.set_cons_succ, List.set_cons_zero]))
  try any_goals exact undef
  refine Any.E_nil ?_
  intro w9 hE9
  replace hv : Mem w0 w9 ([(bD, (deed #[.int .i64 st, .int .i64 pc, sv, cv, .int .u64 (wk : Nat), .int .i64 sk, .int .i64 er] (pg b q) #[.int .i64 op, .int .u64 (arg : Nat), (.slice (some ⟨wb, wo, none⟩) 2 wc), (.func (.func kf) #[] cap), .nilFunc])), (B, #[.int .u64 (twoF op x y : Nat)])] ++ L) R := hE9.memr hv [1000, 2] (by decide)
  clear hE9
  simp only [List.cons_append, List.nil_append] at hv
  go_wp2
  go_ret2
  exact ⟨_, rfl, Mem.yield (L1 := [(bD, (deed #[.int .i64 st, .int .i64 pc, sv, cv, .int .u64 (wk : Nat), .int .i64 sk, .int .i64 er] (pg b q) #[.int .i64 op, .int .u64 (arg : Nat), (.slice (some ⟨wb, wo, none⟩) 2 wc), (.func (.func kf) #[] cap), .nilFunc]))]) hv (app1 _ _)⟩
set_option maxRecDepth 100000 in
set_option maxHeartbeats 2000000 in
theorem left_two9 (st pc sk er : Int) (wk : Nat) (b : Nat → Bool) (q : Nat → Nat → Nat) (arg bD : Nat) (w0 w : World) (L : List (Nat × Array Value)) (R : List (Nat × Value × List Value)) (sv cv : Value) (cap : Array Value) (kf x y wb wo wc : Nat) (hv : Mem w0 w ((bD, (deed #[.int .i64 st, .int .i64 pc, sv, cv, .int .u64 (wk : Nat), .int .i64 sk, .int .i64 er] (pg b q) #[.int .i64 9, .int .u64 (arg : Nat), (.slice (some ⟨wb, wo, none⟩) 2 wc), (.func (.func kf) #[] cap), .nilFunc])) :: L) R) (hw : (1, (.slice (some ⟨wb, wo, none⟩) 2 wc), cellsU [x, y]) ∈ R) (kE : Enters Tryz.prog kf) (kF : ∀ w', (∀ z ∈ R, Rd w' z.1 z.2.1 z.2.2) → Calls Tryz.prog kf (#[.int .u64 (x : Nat), .int .u64 (y : Nat)] ++ cap) w' fun e w2 => e = .returned (.int .u64 (twoF 9 x y : Nat)) ∧ New w' w2) (hy : y ≠ 0) : Calls Tryz.prog 30 #[.pointer (some ⟨bD, 0, none⟩)] w (LeftR w0 bD (deed #[.int .i64 st, .int .i64 pc, sv, cv, .int .u64 (wk : Nat), .int .i64 sk, .int .i64 er] (pg b q) #[.int .i64 9, .int .u64 (arg : Nat), (.slice (some ⟨wb, wo, none⟩) 2 wc), (.func (.func kf) #[] cap), .nilFunc]) L R [twoF 9 x y] 0) := by
  have c1 : w.cell? ⟨wb, wo + 1, none⟩ = some (.int .u64 (y : Nat)) := by
    obtain ⟨_, _, _, _, e, _, _, _, _, g⟩ := (hv.rd hw).some (by rw [cellsU_len]; simp)
    cases e
    exact g 1 (by rw [cellsU_len]; simp)
  replace hy : ((y : Int) == 0) = false := by rw [beq_eq_false_iff_ne]; omega
  have q1 : ∀ w (f : FuncId) (a b : Array Value), (binOp .neq 56 (.func (.func f) a b) .nilFunc).run Tryz.prog w = .ok (.bool true) w := fun w f a b => run_neq_func w _ _ _ _ _ _ _ Tryz.underlying56
  have q2 : ∀ w, (binOp .neq 56 .nilFunc .nilFunc).run Tryz.prog w = .ok (.bool false) w := fun w => run_neq_nofunc w _ _ _ _ Tryz.underlying56
  have HR := Lib.hid (fun (z : Nat × Value × List Value) (hz : z ∈ R) => Any.rd_start (k := z.1) (v := z.2.1) (c := z.2.2) (hv.keep (List.sublist_append_left [(bD, (deed #[.int .i64 st, .int .i64 pc, sv, cv, .int .u64 (wk : Nat), .int .i64 sk, .int .i64 er] (pg b q) #[.int .i64 9, .int .u64 (arg : Nat), (.slice (some ⟨wb, wo, none⟩) 2 wc), (.func (.func kf) #[] cap), .nilFunc]))] L)) hz)
  have HW := Lib.hid (HR.out _ hw)
  clear hw
  go_enter Tryz.func30, Tryz.ntmps30
  go_wp2_with (first
    | ((with_reducible refine at_load (T := 3) ?_); refine wl_ldc rfl _ _ rfl _ (hv.vars.row (by first | exact .head _ | exact .tail _ (.head _) | exact .tail _ (.tail _ (.head _)) | exact .tail _ (.tail _ (.tail _ (.head _))) | exact .tail _ (.tail _ (.tail _ (.tail _ (.head _)))) | exact .tail _ (.tail _ (.tail _ (.tail _ (.tail _ (.head _))))) | exact .tail _ (.tail _ (.tail _ (.tail _ (.tail _ (.tail _ (.head _)))))) | exact .tail _ (.tail _ (.tail _ (.tail _ (.tail _ (.tail _ (.tail _ (.head _))))))))) _ Tryz.underlying3 rfl (.int .i64 9) (deed_hi rfl (size_pg b q) 0) ?_)
    | ((with_reducible refine at_load (T := 25) ?_); refine wl_ldc rfl _ _ rfl _ (hv.vars.row (by first | exact .head _ | exact .tail _ (.head _) | exact .tail _ (.tail _ (.head _)) | exact .tail _ (.tail _ (.tail _ (.head _))) | exact .tail _ (.tail _ (.tail _ (.tail _ (.head _)))) | exact .tail _ (.tail _ (.tail _ (.tail _ (.tail _ (.head _))))) | exact .tail _ (.tail _ (.tail _ (.tail _ (.tail _ (.tail _ (.head _)))))) | exact .tail _ (.tail _ (.tail _ (.tail _ (.tail _ (.tail _ (.tail _ (.head _))))))))) _ Tryz.underlying25 rfl (.int .u64 (arg : Nat)) (deed_hi rfl (size_pg b q) 1) ?_)
    | ((with_reducible refine at_load (T := 23) ?_); refine wl_ldc rfl _ _ rfl _ (hv.vars.row (by first | exact .head _ | exact .tail _ (.head _) | exact .tail _ (.tail _ (.head _)) | exact .tail _ (.tail _ (.tail _ (.head _))) | exact .tail _ (.tail _ (.tail _ (.tail _ (.head _)))) | exact .tail _ (.tail _ (.tail _ (.tail _ (.tail _ (.head _))))) | exact .tail _ (.tail _ (.tail _ (.tail _ (.tail _ (.tail _ (.head _)))))) | exact .tail _ (.tail _ (.tail _ (.tail _ (.tail _ (.tail _ (.tail _ (.head _))))))))) _ Tryz.underlying23 rfl (.slice (some ⟨wb, wo, none⟩) 2 wc) (deed_hi rfl (size_pg b q) 2) ?_)
    | ((with_reducible refine at_load (T := 56) ?_); refine wl_ldc rfl _ _ rfl _ (hv.vars.row (by first | exact .head _ | exact .tail _ (.head _) | exact .tail _ (.tail _ (.head _)) | exact .tail _ (.tail _ (.tail _ (.head _))) | exact .tail _ (.tail _ (.tail _ (.tail _ (.head _)))) | exact .tail _ (.tail _ (.tail _ (.tail _ (.tail _ (.head _))))) | exact .tail _ (.tail _ (.tail _ (.tail _ (.tail _ (.tail _ (.head _)))))) | exact .tail _ (.tail _ (.tail _ (.tail _ (.tail _ (.tail _ (.tail _ (.head _))))))))) _ Tryz.underlying56 rfl .nilFunc (deed_hi rfl (size_pg b q) 4) ?_))
  refine Any.wp_region_walk [⟨[], none⟩, ⟨[], none⟩, ⟨[], none⟩, ⟨[1000], none⟩, ⟨[], none⟩, ⟨[], none⟩, ⟨[], none⟩, ⟨[], none⟩, ⟨[], none⟩, ⟨[], none⟩, ⟨[], none⟩, ⟨[], some 2⟩, ⟨[], none⟩, ⟨[], none⟩] [.val, .val, .val, .val, .val, .val, .val, .val, .val, .val, .val, .bsl 1 #[.int .u64 (twoF 9 x y : Nat)], .pure, .pure] (by kernel_rfl) (by kernel_rfl) (hv.vars.keep (List.sublist_append_left [(bD, (deed #[.int .i64 st, .int .i64 pc, sv, cv, .int .u64 (wk : Nat), .int .i64 sk, .int .i64 er] (pg b q) #[.int .i64 9, .int .u64 (arg : Nat), (.slice (some ⟨wb, wo, none⟩) 2 wc), (.func (.func kf) #[] cap), .nilFunc]))] L)) ?_
  simp only [List.length_cons, List.length_nil, Nat.zero_add, Any.someVals]
  iterate 14 apply Exists.intro
  repeat (first
    | (refine Any.E_off rfl ?_; simp only [Act.put, List.setIfInBounds_toArray, List.set_cons_succ, List.set_cons_zero])
    | (apply Any.E_pureq rfl rfl rfl
       case h => intro K hK; go_big_quiet_op; (refine hK _ ?_; rfl)
       case hr => exact fun _ => rfl
       simp only [Act.put, List.setIfInBounds_toArray, List.set_cons_succ, List.set_cons_zero])
    | (apply Any.E_val rfl rfl rfl rfl
       case h =>
         intro E' hA K hK
         first
           | ((with_reducible refine Any.at_qload (T := 55) ?_); refine Any.q_ldc 1000 hA (by decide) rfl rfl _ Tryz.underlying55 rfl (.func (.func kf) #[] cap) (deed_hi rfl (size_pg b q) 3) ?_; refine hK _ ?_; rfl)
           | ((with_reducible refine Any.at_qload (T := 25) ?_); refine Any.q_rd (HW.out) 0 rfl _ Tryz.underlying25 rfl (.int .u64 (x : Nat)) rfl ?_; refine hK _ ?_; rfl)
           | ((with_reducible refine Any.at_qload (T := 25) ?_); refine Any.q_rd (HW.out) 1 rfl _ Tryz.underlying25 rfl (.int .u64 (y : Nat)) rfl ?_; refine hK _ ?_; rfl)
           | ((with_reducible refine Any.at_qcall ?_); refine Any.q_callv kE rfl [.int .u64 (x : Nat), .int .u64 (y : Nat)] rfl (fun w1 hw1 => Any.calls_VE (kF w1 (fun z hz => hw1.rdold (HR.out z hz).1 (HR.out z hz).2)) hw1) ?_; refine hK _ ?_; rfl)
           | (go_big_quiet_op; first
             | (refine hK _ ?_; rfl)
             | (refine ⟨_, fun _ _ => rfl, ?_⟩; refine hK _ ?_; rfl)
             | (apply Exists.intro; refine ⟨fun w1 hw1 => ?_, ?_⟩; · (first
                 | fail)
                refine hK _ ?_; rfl))
       case hD => rfl
       simp only [Act.put, List.setIfInBounds_toArray, List.set_cons_succ, List.set_cons_zero])
    | ((with_reducible refine Any.at_ealloc ?_); refine Any.E_lay rfl rfl rfl (fun _ => rfl) ?_; intro B; simp only [Act.put, List.setIfInBounds_toArray, List.set_cons_succ, List.set_cons_zero])
    | ((with_reducible refine Any.at_ebsl ?_); refine Any.E_bsl (t := 25) rfl rfl rfl (fun w' => (by unfold execOp; go_simp)) ?_; intro B; simp only [Act.put, List.setIfInBounds_toArray, List.set_cons_succ, List.set_cons_zero]))
  try any_goals exact undef
  refine Any.E_nil ?_
  intro w9 hE9
  replace hv : Mem w0 w9 ([(bD, (deed #[.int .i64 st, .int .i64 pc, sv, cv, .int .u64 (wk : Nat), .int .i64 sk, .int .i64 er] (pg b q) #[.int .i64 9, .int .u64 (arg : Nat), (.slice (some ⟨wb, wo, none⟩) 2 wc), (.func (.func kf) #[] cap), .nilFunc])), (B, #[.int .u64 (twoF 9 x y : Nat)])] ++ L) R := hE9.memr hv [1000, 2] (by decide)
  clear hE9
  simp only [List.cons_append, List.nil_append] at hv
  go_wp2
  go_ret2
  exact ⟨_, rfl, Mem.yield (L1 := [(bD, (deed #[.int .i64 st, .int .i64 pc, sv, cv, .int .u64 (wk : Nat), .int .i64 sk, .int .i64 er] (pg b q) #[.int .i64 9, .int .u64 (arg : Nat), (.slice (some ⟨wb, wo, none⟩) 2 wc), (.func (.func kf) #[] cap), .nilFunc]))]) hv (app1 _ _)⟩
set_option maxRecDepth 100000 in
set_option maxHeartbeats 2000000 in
theorem left_two10 (st pc sk er : Int) (wk : Nat) (b : Nat → Bool) (q : Nat → Nat → Nat) (arg bD : Nat) (w0 w : World) (L : List (Nat × Array Value)) (R : List (Nat × Value × List Value)) (sv cv : Value) (cap : Array Value) (kf x y wb wo wc : Nat) (hv : Mem w0 w ((bD, (deed #[.int .i64 st, .int .i64 pc, sv, cv, .int .u64 (wk : Nat), .int .i64 sk, .int .i64 er] (pg b q) #[.int .i64 10, .int .u64 (arg : Nat), (.slice (some ⟨wb, wo, none⟩) 2 wc), (.func (.func kf) #[] cap), .nilFunc])) :: L) R) (hw : (1, (.slice (some ⟨wb, wo, none⟩) 2 wc), cellsU [x, y]) ∈ R) (kE : Enters Tryz.prog kf) (kF : ∀ w', (∀ z ∈ R, Rd w' z.1 z.2.1 z.2.2) → Calls Tryz.prog kf (#[.int .u64 (x : Nat), .int .u64 (y : Nat)] ++ cap) w' fun e w2 => e = .returned (.int .u64 (twoF 10 x y : Nat)) ∧ New w' w2) (hy : y ≠ 0) : Calls Tryz.prog 30 #[.pointer (some ⟨bD, 0, none⟩)] w (LeftR w0 bD (deed #[.int .i64 st, .int .i64 pc, sv, cv, .int .u64 (wk : Nat), .int .i64 sk, .int .i64 er] (pg b q) #[.int .i64 10, .int .u64 (arg : Nat), (.slice (some ⟨wb, wo, none⟩) 2 wc), (.func (.func kf) #[] cap), .nilFunc]) L R [twoF 10 x y] 0) := by
  have c1 : w.cell? ⟨wb, wo + 1, none⟩ = some (.int .u64 (y : Nat)) := by
    obtain ⟨_, _, _, _, e, _, _, _, _, g⟩ := (hv.rd hw).some (by rw [cellsU_len]; simp)
    cases e
    exact g 1 (by rw [cellsU_len]; simp)
  replace hy : ((y : Int) == 0) = false := by rw [beq_eq_false_iff_ne]; omega
  have q1 : ∀ w (f : FuncId) (a b : Array Value), (binOp .neq 56 (.func (.func f) a b) .nilFunc).run Tryz.prog w = .ok (.bool true) w := fun w f a b => run_neq_func w _ _ _ _ _ _ _ Tryz.underlying56
  have q2 : ∀ w, (binOp .neq 56 .nilFunc .nilFunc).run Tryz.prog w = .ok (.bool false) w := fun w => run_neq_nofunc w _ _ _ _ Tryz.underlying56
  have HR := Lib.hid (fun (z : Nat × Value × List Value) (hz : z ∈ R) => Any.rd_start (k := z.1) (v := z.2.1) (c := z.2.2) (hv.keep (List.sublist_append_left [(bD, (deed #[.int .i64 st, .int .i64 pc, sv, cv, .int .u64 (wk : Nat), .int .i64 sk, .int .i64 er] (pg b q) #[.int .i64 10, .int .u64 (arg : Nat), (.slice (some ⟨wb, wo, none⟩) 2 wc), (.func (.func kf) #[] cap), .nilFunc]))] L)) hz)
  have HW := Lib.hid (HR.out _ hw)
  clear hw
  go_enter Tryz.func30, Tryz.ntmps30
  go_wp2_with (first
    | ((with_reducible refine at_load (T := 3) ?_); refine wl_ldc rfl _ _ rfl _ (hv.vars.row (by first | exact .head _ | exact .tail _ (.head _) | exact .tail _ (.tail _ (.head _)) | exact .tail _ (.tail _ (.tail _ (.head _))) | exact .tail _ (.tail _ (.tail _ (.tail _ (.head _)))) | exact .tail _ (.tail _ (.tail _ (.tail _ (.tail _ (.head _))))) | exact .tail _ (.tail _ (.tail _ (.tail _ (.tail _ (.tail _ (.head _)))))) | exact .tail _ (.tail _ (.tail _ (.tail _ (.tail _ (.tail _ (.tail _ (.head _))))))))) _ Tryz.underlying3 rfl (.int .i64 10) (deed_hi rfl (size_pg b q) 0) ?_)
    | ((with_reducible refine at_load (T := 25) ?_); refine wl_ldc rfl _ _ rfl _ (hv.vars.row (by first | exact .head _ | exact .tail _ (.head _) | exact .tail _ (.tail _ (.head _)) | exact .tail _ (.tail _ (.tail _ (.head _))) | exact .tail _ (.tail _ (.tail _ (.tail _ (.head _)))) | exact .tail _ (.tail _ (.tail _ (.tail _ (.tail _ (.head _))))) | exact .tail _ (.tail _ (.tail _ (.tail _ (.tail _ (.tail _ (.head _)))))) | exact .tail _ (.tail _ (.tail _ (.tail _ (.tail _ (.tail _ (.tail _ (.head _))))))))) _ Tryz.underlying25 rfl (.int .u64 (arg : Nat)) (deed_hi rfl (size_pg b q) 1) ?_)
    | ((with_reducible refine at_load (T := 23) ?_); refine wl_ldc rfl _ _ rfl _ (hv.vars.row (by first | exact .head _ | exact .tail _ (.head _) | exact .tail _ (.tail _ (.head _)) | exact .tail _ (.tail _ (.tail _ (.head _))) | exact .tail _ (.tail _ (.tail _ (.tail _ (.head _)))) | exact .tail _ (.tail _ (.tail _ (.tail _ (.tail _ (.head _))))) | exact .tail _ (.tail _ (.tail _ (.tail _ (.tail _ (.tail _ (.head _)))))) | exact .tail _ (.tail _ (.tail _ (.tail _ (.tail _ (.tail _ (.tail _ (.head _))))))))) _ Tryz.underlying23 rfl (.slice (some ⟨wb, wo, none⟩) 2 wc) (deed_hi rfl (size_pg b q) 2) ?_)
    | ((with_reducible refine at_load (T := 56) ?_); refine wl_ldc rfl _ _ rfl _ (hv.vars.row (by first | exact .head _ | exact .tail _ (.head _) | exact .tail _ (.tail _ (.head _)) | exact .tail _ (.tail _ (.tail _ (.head _))) | exact .tail _ (.tail _ (.tail _ (.tail _ (.head _)))) | exact .tail _ (.tail _ (.tail _ (.tail _ (.tail _ (.head _))))) | exact .tail _ (.tail _ (.tail _ (.tail _ (.tail _ (.tail _ (.head _)))))) | exact .tail _ (.tail _ (.tail _ (.tail _ (.tail _ (.tail _ (.tail _ (.head _))))))))) _ Tryz.underlying56 rfl .nilFunc (deed_hi rfl (size_pg b q) 4) ?_))
  refine Any.wp_region_walk [⟨[], none⟩, ⟨[], none⟩, ⟨[], none⟩, ⟨[1000], none⟩, ⟨[], none⟩, ⟨[], none⟩, ⟨[], none⟩, ⟨[], none⟩, ⟨[], none⟩, ⟨[], none⟩, ⟨[], none⟩, ⟨[], some 2⟩, ⟨[], none⟩, ⟨[], none⟩] [.val, .val, .val, .val, .val, .val, .val, .val, .val, .val, .val, .bsl 1 #[.int .u64 (twoF 10 x y : Nat)], .pure, .pure] (by kernel_rfl) (by kernel_rfl) (hv.vars.keep (List.sublist_append_left [(bD, (deed #[.int .i64 st, .int .i64 pc, sv, cv, .int .u64 (wk : Nat), .int .i64 sk, .int .i64 er] (pg b q) #[.int .i64 10, .int .u64 (arg : Nat), (.slice (some ⟨wb, wo, none⟩) 2 wc), (.func (.func kf) #[] cap), .nilFunc]))] L)) ?_
  simp only [List.length_cons, List.length_nil, Nat.zero_add, Any.someVals]
  iterate 14 apply Exists.intro
  repeat (first
    | (refine Any.E_off rfl ?_; simp only [Act.put, List.setIfInBounds_toArray, List.set_cons_succ, List.set_cons_zero])
    | (apply Any.E_pureq rfl rfl rfl
       case h => intro K hK; go_big_quiet_op; (refine hK _ ?_; rfl)
       case hr => exact fun _ => rfl
       simp only [Act.put, List.setIfInBounds_toArray, List.set_cons_succ, List.set_cons_zero])
    | (apply Any.E_val rfl rfl rfl rfl
       case h =>
         intro E' hA K hK
         first
           | ((with_reducible refine Any.at_qload (T := 55) ?_); refine Any.q_ldc 1000 hA (by decide) rfl rfl _ Tryz.underlying55 rfl (.func (.func kf) #[] cap) (deed_hi rfl (size_pg b q) 3) ?_; refine hK _ ?_; rfl)
           | ((with_reducible refine Any.at_qload (T := 25) ?_); refine Any.q_rd (HW.out) 0 rfl _ Tryz.underlying25 rfl (.int .u64 (x : Nat)) rfl ?_; refine hK _ ?_; rfl)
           | ((with_reducible refine Any.at_qload (T := 25) ?_); refine Any.q_rd (HW.out) 1 rfl _ Tryz.underlying25 rfl (.int .u64 (y : Nat)) rfl ?_; refine hK _ ?_; rfl)
           | ((with_reducible refine Any.at_qcall ?_); refine Any.q_callv kE rfl [.int .u64 (x : Nat), .int .u64 (y : Nat)] rfl (fun w1 hw1 => Any.calls_VE (kF w1 (fun z hz => hw1.rdold (HR.out z hz).1 (HR.out z hz).2)) hw1) ?_; refine hK _ ?_; rfl)
           | (go_big_quiet_op; first
             | (refine hK _ ?_; rfl)
             | (refine ⟨_, fun _ _ => rfl, ?_⟩; refine hK _ ?_; rfl)
             | (apply Exists.intro; refine ⟨fun w1 hw1 => ?_, ?_⟩; · (first
                 | fail)
                refine hK _ ?_; rfl))
       case hD => rfl
       simp only [Act.put, List.setIfInBounds_toArray, List.set_cons_succ, List.set_cons_zero])
    | ((with_reducible refine Any.at_ealloc ?_); refine Any.E_lay rfl rfl rfl (fun _ => rfl) ?_; intro B; simp only [Act.put, List.setIfInBounds_toArray, List.set_cons_succ, List.set_cons_zero])
    | ((with_reducible refine Any.at_ebsl ?_); refine Any.E_bsl (t := 25) rfl rfl rfl (fun w' => (by unfold execOp; go_simp)) ?_; intro B; simp only [Act.put, List.setIfInBounds_toArray, List.set_cons_succ, List.set_cons_zero]))
  try any_goals exact undef
  refine Any.E_nil ?_
  intro w9 hE9
  replace hv : Mem w0 w9 ([(bD, (deed #[.int .i64 st, .int .i64 pc, sv, cv, .int .u64 (wk : Nat), .int .i64 sk, .int .i64 er] (pg b q) #[.int .i64 10, .int .u64 (arg : Nat), (.slice (some ⟨wb, wo, none⟩) 2 wc), (.func (.func kf) #[] cap), .nilFunc])), (B, #[.int .u64 (twoF 10 x y : Nat)])] ++ L) R := hE9.memr hv [1000, 2] (by decide)
  clear hE9
  simp only [List.cons_append, List.nil_append] at hv
  go_wp2
  go_ret2
  exact ⟨_, rfl, Mem.yield (L1 := [(bD, (deed #[.int .i64 st, .int .i64 pc, sv, cv, .int .u64 (wk : Nat), .int .i64 sk, .int .i64 er] (pg b q) #[.int .i64 10, .int .u64 (arg : Nat), (.slice (some ⟨wb, wo, none⟩) 2 wc), (.func (.func kf) #[] cap), .nilFunc]))]) hv (app1 _ _)⟩
set_option maxRecDepth 100000 in
set_option maxHeartbeats 2000000 in
theorem left_one (st pc sk er : Int) (wk : Nat) (b : Nat → Bool) (q : Nat → Nat → Nat) (arg bD : Nat) (w0 w : World) (L : List (Nat × Array Value)) (R : List (Nat × Value × List Value)) (sv cv two : Value) (kf x wb wo wc : Nat) (op : Int) (hv : Mem w0 w ((bD, (deed #[.int .i64 st, .int .i64 pc, sv, cv, .int .u64 (wk : Nat), .int .i64 sk, .int .i64 er] (pg b q) #[.int .i64 op, .int .u64 (arg : Nat), (.slice (some ⟨wb, wo, none⟩) 1 wc), two, (.func (.func kf) #[] #[])])) :: L) R) (hw : (1, (.slice (some ⟨wb, wo, none⟩) 1 wc), cellsU [x]) ∈ R) (kE : Enters Tryz.prog kf) (kF : ∀ w', (∀ z ∈ R, Rd w' z.1 z.2.1 z.2.2) → Calls Tryz.prog kf ([.int .u64 (x : Nat)].toArray ++ #[]) w' fun e w2 => e = .returned (.int .u64 (Ip.oneF op x : Nat)) ∧ New w' w2) (h1 : op ≠ 1) (h2 : op ≠ 2) (h21 : op ≠ 21) (h3 : op ≠ 3) (h4 : op ≠ 4) (h5 : op ≠ 5) (h24 : op ≠ 24) (h25 : op ≠ 25) (h9 : op ≠ 9) (h10 : op ≠ 10) : Calls Tryz.prog 30 #[.pointer (some ⟨bD, 0, none⟩)] w (LeftR w0 bD (deed #[.int .i64 st, .int .i64 pc, sv, cv, .int .u64 (wk : Nat), .int .i64 sk, .int .i64 er] (pg b q) #[.int .i64 op, .int .u64 (arg : Nat), (.slice (some ⟨wb, wo, none⟩) 1 wc), two, (.func (.func kf) #[] #[])]) L R [Ip.oneF op x] 0) := by
  replace h1 : (op == 1) = false := by rw [beq_eq_false_iff_ne]; exact h1
  replace h2 : (op == 2) = false := by rw [beq_eq_false_iff_ne]; exact h2
  replace h21 : (op == 21) = false := by rw [beq_eq_false_iff_ne]; exact h21
  replace h3 : (op == 3) = false := by rw [beq_eq_false_iff_ne]; exact h3
  replace h4 : (op == 4) = false := by rw [beq_eq_false_iff_ne]; exact h4
  replace h5 : (op == 5) = false := by rw [beq_eq_false_iff_ne]; exact h5
  replace h24 : (op == 24) = false := by rw [beq_eq_false_iff_ne]; exact h24
  replace h25 : (op == 25) = false := by rw [beq_eq_false_iff_ne]; exact h25
  replace h9 : (op == 9) = false := by rw [beq_eq_false_iff_ne]; exact h9
  replace h10 : (op == 10) = false := by rw [beq_eq_false_iff_ne]; exact h10
  have q1 : ∀ w (f : FuncId) (a b : Array Value), (binOp .neq 56 (.func (.func f) a b) .nilFunc).run Tryz.prog w = .ok (.bool true) w := fun w f a b => run_neq_func w _ _ _ _ _ _ _ Tryz.underlying56
  have q2 : ∀ w, (binOp .neq 56 .nilFunc .nilFunc).run Tryz.prog w = .ok (.bool false) w := fun w => run_neq_nofunc w _ _ _ _ Tryz.underlying56
  have HR := Lib.hid (fun (z : Nat × Value × List Value) (hz : z ∈ R) => Any.rd_start (k := z.1) (v := z.2.1) (c := z.2.2) (hv.keep (List.sublist_append_left [(bD, (deed #[.int .i64 st, .int .i64 pc, sv, cv, .int .u64 (wk : Nat), .int .i64 sk, .int .i64 er] (pg b q) #[.int .i64 op, .int .u64 (arg : Nat), (.slice (some ⟨wb, wo, none⟩) 1 wc), two, (.func (.func kf) #[] #[])]))] L)) hz)
  have HW := Lib.hid (HR.out _ hw)
  clear hw
  go_enter Tryz.func30, Tryz.ntmps30
  go_wp2_with (first
    | ((with_reducible refine at_load (T := 3) ?_); refine wl_ldc rfl _ _ rfl _ (hv.vars.row (by first | exact .head _ | exact .tail _ (.head _) | exact .tail _ (.tail _ (.head _)) | exact .tail _ (.tail _ (.tail _ (.head _))) | exact .tail _ (.tail _ (.tail _ (.tail _ (.head _)))) | exact .tail _ (.tail _ (.tail _ (.tail _ (.tail _ (.head _))))) | exact .tail _ (.tail _ (.tail _ (.tail _ (.tail _ (.tail _ (.head _)))))) | exact .tail _ (.tail _ (.tail _ (.tail _ (.tail _ (.tail _ (.tail _ (.head _))))))))) _ Tryz.underlying3 rfl (.int .i64 op) (deed_hi rfl (size_pg b q) 0) ?_)
    | ((with_reducible refine at_load (T := 25) ?_); refine wl_ldc rfl _ _ rfl _ (hv.vars.row (by first | exact .head _ | exact .tail _ (.head _) | exact .tail _ (.tail _ (.head _)) | exact .tail _ (.tail _ (.tail _ (.head _))) | exact .tail _ (.tail _ (.tail _ (.tail _ (.head _)))) | exact .tail _ (.tail _ (.tail _ (.tail _ (.tail _ (.head _))))) | exact .tail _ (.tail _ (.tail _ (.tail _ (.tail _ (.tail _ (.head _)))))) | exact .tail _ (.tail _ (.tail _ (.tail _ (.tail _ (.tail _ (.tail _ (.head _))))))))) _ Tryz.underlying25 rfl (.int .u64 (arg : Nat)) (deed_hi rfl (size_pg b q) 1) ?_)
    | ((with_reducible refine at_load (T := 23) ?_); refine wl_ldc rfl _ _ rfl _ (hv.vars.row (by first | exact .head _ | exact .tail _ (.head _) | exact .tail _ (.tail _ (.head _)) | exact .tail _ (.tail _ (.tail _ (.head _))) | exact .tail _ (.tail _ (.tail _ (.tail _ (.head _)))) | exact .tail _ (.tail _ (.tail _ (.tail _ (.tail _ (.head _))))) | exact .tail _ (.tail _ (.tail _ (.tail _ (.tail _ (.tail _ (.head _)))))) | exact .tail _ (.tail _ (.tail _ (.tail _ (.tail _ (.tail _ (.tail _ (.head _))))))))) _ Tryz.underlying23 rfl (.slice (some ⟨wb, wo, none⟩) 1 wc) (deed_hi rfl (size_pg b q) 2) ?_)
    | ((with_reducible refine at_load (T := 56) ?_); refine wl_ldc rfl _ _ rfl _ (hv.vars.row (by first | exact .head _ | exact .tail _ (.head _) | exact .tail _ (.tail _ (.head _)) | exact .tail _ (.tail _ (.tail _ (.head _))) | exact .tail _ (.tail _ (.tail _ (.tail _ (.head _)))) | exact .tail _ (.tail _ (.tail _ (.tail _ (.tail _ (.head _))))) | exact .tail _ (.tail _ (.tail _ (.tail _ (.tail _ (.tail _ (.head _)))))) | exact .tail _ (.tail _ (.tail _ (.tail _ (.tail _ (.tail _ (.tail _ (.head _))))))))) _ Tryz.underlying56 rfl (.func (.func kf) #[] #[]) (deed_hi rfl (size_pg b q) 4) ?_))
  refine Any.wp_region_walk [⟨[], none⟩, ⟨[], none⟩, ⟨[], none⟩, ⟨[1000], none⟩, ⟨[], none⟩, ⟨[], none⟩, ⟨[], none⟩, ⟨[], none⟩, ⟨[], some 2⟩, ⟨[], none⟩, ⟨[], none⟩] [.val, .val, .val, .val, .val, .val, .val, .val, .bsl 1 #[.int .u64 (Ip.oneF op x : Nat)], .pure, .pure] (by kernel_rfl) (by kernel_rfl) (hv.vars.keep (List.sublist_append_left [(bD, (deed #[.int .i64 st, .int .i64 pc, sv, cv, .int .u64 (wk : Nat), .int .i64 sk, .int .i64 er] (pg b q) #[.int .i64 op, .int .u64 (arg : Nat), (.slice (some ⟨wb, wo, none⟩) 1 wc), two, (.func (.func kf) #[] #[])]))] L)) ?_
  simp only [List.length_cons, List.length_nil, Nat.zero_add, Any.someVals]
  iterate 11 apply Exists.intro
  repeat (first
    | (refine Any.E_off rfl ?_; simp only [Act.put, List.setIfInBounds_toArray, List.set_cons_succ, List.set_cons_zero])
    | (apply Any.E_pureq rfl rfl rfl
       case h => intro K hK; go_big_quiet_op; (refine hK _ ?_; rfl)
       case hr => exact fun _ => rfl
       simp only [Act.put, List.setIfInBounds_toArray, List.set_cons_succ, List.set_cons_zero])
    | (apply Any.E_val rfl rfl rfl rfl
       case h =>
         intro E' hA K hK
         first
           | ((with_reducible refine Any.at_qload (T := 56) ?_); refine Any.q_ldc 1000 hA (by decide) rfl rfl _ Tryz.underlying56 rfl (.func (.func kf) #[] #[]) (deed_hi rfl (size_pg b q) 4) ?_; refine hK _ ?_; rfl)
           | ((with_reducible refine Any.at_qload (T := 25) ?_); refine Any.q_rd (HW.out) 0 rfl _ Tryz.underlying25 rfl (.int .u64 (x : Nat)) rfl ?_; refine hK _ ?_; rfl)
           | ((with_reducible refine Any.at_qcall ?_); refine Any.q_callv kE rfl [.int .u64 (x : Nat)] rfl (fun w1 hw1 => Any.calls_VE (kF w1 (fun z hz => hw1.rdold (HR.out z hz).1 (HR.out z hz).2)) hw1) ?_; refine hK _ ?_; rfl)
           | (go_big_quiet_op; first
             | (refine hK _ ?_; rfl)
             | (refine ⟨_, fun _ _ => rfl, ?_⟩; refine hK _ ?_; rfl)
             | (apply Exists.intro; refine ⟨fun w1 hw1 => ?_, ?_⟩; · (first
                 | fail)
                refine hK _ ?_; rfl))
       case hD => rfl
       simp only [Act.put, List.setIfInBounds_toArray, List.set_cons_succ, List.set_cons_zero])
    | ((with_reducible refine Any.at_ealloc ?_); refine Any.E_lay rfl rfl rfl (fun _ => rfl) ?_; intro B; simp only [Act.put, List.setIfInBounds_toArray, List.set_cons_succ, List.set_cons_zero])
    | ((with_reducible refine Any.at_ebsl ?_); refine Any.E_bsl (t := 25) rfl rfl rfl (fun w' => (by unfold execOp; go_simp)) ?_; intro B; simp only [Act.put, List.setIfInBounds_toArray, List.set_cons_succ, List.set_cons_zero]))
  try any_goals exact undef
  refine Any.E_nil ?_
  intro w9 hE9
  replace hv : Mem w0 w9 ([(bD, (deed #[.int .i64 st, .int .i64 pc, sv, cv, .int .u64 (wk : Nat), .int .i64 sk, .int .i64 er] (pg b q) #[.int .i64 op, .int .u64 (arg : Nat), (.slice (some ⟨wb, wo, none⟩) 1 wc), two, (.func (.func kf) #[] #[])])), (B, #[.int .u64 (Ip.oneF op x : Nat)])] ++ L) R := hE9.memr hv [1000, 2] (by decide)
  clear hE9
  simp only [List.cons_append, List.nil_append] at hv
  go_wp2
  go_ret2
  exact ⟨_, rfl, Mem.yield (L1 := [(bD, (deed #[.int .i64 st, .int .i64 pc, sv, cv, .int .u64 (wk : Nat), .int .i64 sk, .int .i64 er] (pg b q) #[.int .i64 op, .int .u64 (arg : Nat), (.slice (some ⟨wb, wo, none⟩) 1 wc), two, (.func (.func kf) #[] #[])]))]) hv (app1 _ _)⟩
end Go.Proofs.YthpodinbbmgfoaaGreat
