/-
  The walk of interp.Do.
-/
import Derived.Test.YthpodinbbmgfoaaGreatIpDo
set_option linter.unusedVariables false
set_option linter.unusedSimpArgs false
namespace Go
open Go.RowKit
section
variable {P : Program} {fn : Func} {R : Ending → World → Prop} {a : Act} {w : World}
theorem ret_cell21 {p p2 t2 : Tmp} {ty ty2 : TypeId} {ad ad2 : Addr} {v v1 v2 : Value} (h : fn.results = #[.cell p ty, .cell p2 ty2, .tmp t2]) (hp : a.tmps.getD p undef = .pointer (some ad)) (hl : (loadVar ty ad).run P w = .ok v w)
    (hp2 : a.tmps.getD p2 undef = .pointer (some ad2)) (hl2 : (loadVar ty2 ad2).run P w = .ok v1 w) (h2 : a.tmps.getD t2 undef = v2) (hd : a.defers = []) (hR : R (.returned (.tuple #[v, v1, v2])) w) : bodyPost P fn R .ret a w :=
  bodyPost_ret (v := .tuple #[v, v1, v2]) (by have hp' : a.tmps[p]?.getD undef = .pointer (some ad) := by simpa using hp
                                              have hp2' : a.tmps[p2]?.getD undef = .pointer (some ad2) := by simpa using hp2
                                              have h2' : a.tmps[t2]?.getD undef = v2 := by simpa using h2
                                              simp [results, h, hp', hp2', asAddr, hl, hl2, h2']) hd hR
end
theorem Mem.lay {w0 w w' : World} {L : List (Nat × Array Value)} {R : List (Nat × Value × List Value)} (h : Mem w0 w L R) {B : Nat} {z : Array Value} (hB : w.heap.size ≤ B) (hn : New w w') (hr : w'.rowD B = z) (hs : w'.soft B = true) : Mem w0 w' ((B, z) :: L) R :=
  ⟨h.vars.lay hB hn hr hs, fun x hx => by
    obtain ⟨h1, h2⟩ := h.rds x hx
    refine ⟨h1.new hn, fun hc b o n cap e p hp => ?_⟩
    rcases List.mem_cons.1 hp with rfl | hp
    · rw [e] at h1
      have := h1.lt hc
      simp only; omega
    · exact h2 hc b o n cap e p hp⟩
end Go
namespace Go.Proofs.Ip
open Go Go.RowKit Go.Proofs.Pg Go.Proofs.Cd
theorem begun_mem {w0 w w' : World} {L : List (Nat × Array Value)} {R R2 : List (Nat × Value × List Value)} (h : Mem w0 w L R) {B : Nat} {st : Int} {T p X : Array Value} (hn : New w w') (hB : w.heap.size ≤ B) (hr : w'.rowD B = deed T p X) (hs : w'.soft B = true)
    (hT : T.size = 7) (hT0 : T[0]? = some (.int .i64 st)) (hz : ∀ z ∈ R2, FR w w' z.1 z.2.1 z.2.2 ∧ ∃ B f, z = (1, .slice (some ⟨B, 0, none⟩) 1 1, [.func (.func f) #[] #[]])) : Mem w0 w' ((B, deed T p X) :: L) (R2 ++ R) := by
  have h1 := h.freshs hn (Z := R2) fun z hz' => (hz z hz').1
  have h2 := h.lay hB hn hr hs
  refine ⟨h2.vars, fun x hx => ⟨(h1.rds x hx).1, fun hc b o n cap e p' hp => ?_⟩⟩
  rcases List.mem_cons.1 hp with rfl | hp
  · rcases List.mem_append.1 hx with hx | hx
    · obtain ⟨hf, B', f, rfl⟩ := hz x hx
      cases e
      intro e
      simp only at e
      subst e
      have := rd_cell hf.1
      rw [cell_rowD, hr, deed_lo hT (by decide), hT0] at this
      cases this
    · exact (h2.rds x hx).2 hc b o n cap e _ (List.mem_cons_self ..)
  · exact (h1.rds x hx).2 hc b o n cap e p' hp
theorem restF_keeps (op : Int) (arg : Nat) (t : Th) (b : Nat → Bool) (q : Nat → Nat → Nat) : (restF op arg t b q).1.st = t.st ∧ (restF op arg t b q).1.C = t.C ∧ (restF op arg t b q).1.wk = t.wk ∧ (restF op arg t b q).1.sk = t.sk ∧ (restF op arg t b q).1.er = t.er := by
  unfold restF
  split
  · exact ⟨rfl, rfl, rfl, rfl, rfl⟩
  · dsimp only
    split
    · exact ⟨rfl, rfl, rfl, rfl, rfl⟩
    · split <;> exact ⟨rfl, rfl, rfl, rfl, rfl⟩
theorem restF_err (op : Int) (arg : Nat) (t : Th) (b : Nat → Bool) (q : Nat → Nat → Nat) (h : (restF op arg t b q).2.2 ≠ 0) : restF op arg t b q = (t, q, (restF op arg t b q).2.2) := by
  revert h
  unfold restF
  split
  · intro _; rfl
  · dsimp only
    split
    · intro _; rfl
    · split
      · intro _; rfl
      · intro h; exact absurd rfl h
/-- What Do answers. -/
def DoA (w0 : World) (L : List (Nat × Array Value)) (R : List (Nat × Value × List Value)) (b : Nat → Bool) (r : Th × (Nat → Nat → Nat) × Int) (e : Ending) (w' : World) : Prop :=
  ∃ sv' cv', e = .returned (.tuple #[.agg (thC r.1.st r.1.pc sv' cv' r.1.wk r.1.sk r.1.er), .agg (pg b r.2.1), .int .i64 r.2.2]) ∧ Mem w0 w' L ((1, sv', cellsU r.1.S) :: (1, cv', cellsN r.1.C) :: R)
theorem mem_two {α : Type} {a b : α} {R R' : List α} (ha : a ∈ R') (hb : b ∈ R') (h : ∀ y ∈ R, y ∈ R') : ∀ y ∈ a :: b :: R, y ∈ R' := fun y hy => by
  rcases List.mem_cons.1 hy with rfl | hy
  · exact ha
  rcases List.mem_cons.1 hy with rfl | hy
  · exact hb
  · exact h y hy
end Go.Proofs.Ip
namespace Go.Proofs.YthpodinbbmgfoaaGreat
open Go.Proofs.Ip Go.Proofs.Pt Go.Proofs.Pg Go.Proofs.Cd Go.RowKit Go.Shelf
set_option maxRecDepth 100000 in
set_option maxHeartbeats 1000000 in
theorem Do_no (st pc sk er : Int) (wk : Nat) (S : List Nat) (C : List Int) (sa ca la : Option Addr) (sn sc cn cc ln lcap : Nat) (l : List Cd.Inst) (b : Nat → Bool) (q : Nat → Nat → Nat) (w0 w : World) (L : List (Nat × Array Value)) (R : List (Nat × Value × List Value)) (hv : Mem w0 w L R) (hl : (2, .slice la ln lcap, cellsI l) ∈ R) (hs : (1, .slice sa sn sc, cellsU S) ∈ R) (hc : (1, .slice ca cn cc, cellsN C) ∈ R) (kB : ∀ w', Rd w' 2 (.slice la ln lcap) (cellsI l) → Rd w' 1 (.slice sa sn sc) (cellsU S) → Rd w' 1 (.slice ca cn cc) (cellsN C) → Calls Tryz.prog 14 #[.slice la ln lcap, .agg #[.int .i64 st, .int .i64 pc, (.slice sa sn sc), (.slice ca cn cc), .int .u64 (wk : Nat), .int .i64 sk, .int .i64 er], .agg (pg b q)] w' fun e w2 => e = .returned (.tuple #[.pointer none, .bool false]) ∧ New w' w2) :
    Calls Tryz.prog 6 #[.slice la ln lcap, .agg #[.int .i64 st, .int .i64 pc, (.slice sa sn sc), (.slice ca cn cc), .int .u64 (wk : Nat), .int .i64 sk, .int .i64 er], .agg (pg b q)] w (DoA w0 L R b (⟨st, pc, S, C, wk, sk, er⟩, q, 290)) := by
  go_enter Tryz.func6, Tryz.ntmps6
  go_wp2_with (first
    | ((with_reducible refine at_box (T := 28) (dst := some 4) ?_); refine wl_newb rfl #[.int .i64 st, .int .i64 pc, (.slice sa sn sc), (.slice ca cn cc), .int .u64 (wk : Nat), .int .i64 sk, .int .i64 er] 28 (fun _ => rfl) ?_; intro b4 w2 hm2; replace hv := hv.madeAt hm2; clear hm2)
    | ((with_reducible refine at_box (T := 32) (dst := some 5) ?_); refine wl_newb rfl (pg b q) 32 (fun _ => rfl) ?_; intro b5 w2 hm2; replace hv := hv.madeAt hm2; clear hm2)
    | ((with_reducible refine at_alloc (T := 28) (dst := some 6) ?_); refine wl_newb rfl #[.int .i64 0, .int .i64 0, .slice none 0 0, .slice none 0 0, .int .u64 0, .int .i64 0, .int .i64 0] 28 (fun _ => rfl) ?_; intro b6 w2 hm2; replace hv := hv.madeAt hm2; clear hm2)
    | ((with_reducible refine at_alloc (T := 32) (dst := some 7) ?_); refine wl_newb rfl Tryz.zeroCells32 32 (fun _ => rfl) ?_; intro b7 w2 hm2; replace hv := hv.madeAt hm2; clear hm2)
    | ((with_reducible refine at_load (T := 28) ?_); refine wl_ldv rfl b4 rfl _ (hv.vars.row (by first | exact .head _ | exact .tail _ (.head _) | exact .tail _ (.tail _ (.head _)) | exact .tail _ (.tail _ (.tail _ (.head _))) | exact .tail _ (.tail _ (.tail _ (.tail _ (.head _)))) | exact .tail _ (.tail _ (.tail _ (.tail _ (.tail _ (.head _))))) | exact .tail _ (.tail _ (.tail _ (.tail _ (.tail _ (.tail _ (.head _)))))) | exact .tail _ (.tail _ (.tail _ (.tail _ (.tail _ (.tail _ (.tail _ (.head _))))))))) 7 _ Tryz.underlying28 rfl infoT (by decide) rfl ?_)
    | ((with_reducible refine at_load (T := 32) ?_); refine wl_ldv rfl b5 rfl _ (hv.vars.row (by first | exact .head _ | exact .tail _ (.head _) | exact .tail _ (.tail _ (.head _)) | exact .tail _ (.tail _ (.tail _ (.head _))) | exact .tail _ (.tail _ (.tail _ (.tail _ (.head _)))) | exact .tail _ (.tail _ (.tail _ (.tail _ (.tail _ (.head _))))) | exact .tail _ (.tail _ (.tail _ (.tail _ (.tail _ (.tail _ (.head _)))))) | exact .tail _ (.tail _ (.tail _ (.tail _ (.tail _ (.tail _ (.tail _ (.head _))))))))) 144 _ Tryz.underlying32 rfl infoPs (by decide) (size_pg b q) ?_)
    | (go_at_call 14; (with_reducible refine (kB _ (hv.rd hl) (hv.rd hs) (hv.rd hc)).mono ?_); rintro e w1 ⟨rfl, hn1⟩; replace hv := hv.new hn1; clear hn1))
  refine Any.wp_region_walk [⟨[1003], none⟩, ⟨[1002], none⟩, ⟨[1001], some 1001⟩, ⟨[1000], some 1000⟩, ⟨[], none⟩] [.val, .val, .put, .put, .val] (by kernel_rfl) (by kernel_rfl) (hv.vars.keep (List.sublist_append_left [(b7, Tryz.zeroCells32), (b6, #[.int .i64 0, .int .i64 0, .slice none 0 0, .slice none 0 0, .int .u64 0, .int .i64 0, .int .i64 0]), (b5, pg b q), (b4, #[.int .i64 st, .int .i64 pc, (.slice sa sn sc), (.slice ca cn cc), .int .u64 (wk : Nat), .int .i64 sk, .int .i64 er])] L)) ?_
  simp only [List.length_cons, List.length_nil, Nat.zero_add, Any.someVals]
  iterate 5 apply Exists.intro
  repeat (first
    | (refine Any.E_off rfl ?_; simp only [Act.put, List.setIfInBounds_toArray, List.set_cons_succ, List.set_cons_zero])
    | (apply Any.E_pureq rfl rfl rfl
       case h => intro K hK; go_big_quiet_op; (refine hK _ ?_; rfl)
       case hr => exact fun _ => rfl
       simp only [Act.put, List.setIfInBounds_toArray, List.set_cons_succ, List.set_cons_zero])
    | (apply Any.E_val rfl rfl rfl rfl
       case h =>
         intro E' hA K hK
         first
           | ((with_reducible refine Any.at_qload (T := 28) ?_); refine Any.q_ldv 1003 hA (by decide) rfl rfl 7 _ Tryz.underlying28 rfl infoT (by decide) rfl ?_; refine hK _ ?_; rfl)
           | ((with_reducible refine Any.at_qload (T := 32) ?_); refine Any.q_ldv 1002 hA (by decide) rfl rfl 144 _ Tryz.underlying32 rfl infoPs (by decide) (size_pg b q) ?_; refine hK _ ?_; rfl)
           | (go_big_quiet_op; first
             | (refine hK _ ?_; rfl)
             | (refine ⟨_, fun _ _ => rfl, ?_⟩; refine hK _ ?_; rfl)
             | (apply Exists.intro; refine ⟨fun w1 hw1 => ?_, ?_⟩; · (first
                 | fail)
                refine hK _ ?_; rfl))
       case hD => rfl
       simp only [Act.put, List.setIfInBounds_toArray, List.set_cons_succ, List.set_cons_zero])
    | ((with_reducible refine Any.at_ealloc ?_); refine Any.E_lay rfl rfl rfl (fun _ => rfl) ?_; intro B; simp only [Act.put, List.setIfInBounds_toArray, List.set_cons_succ, List.set_cons_zero])
    | ((with_reducible refine Any.at_estore (T := 28) ?_); refine Any.E_putv (T := 28) rfl rfl rfl rfl rfl rfl 7 infoT rfl rfl (by simp [Value.oneCell']) ?_; simp only [Act.put, List.setIfInBounds_toArray, List.set_cons_succ, List.set_cons_zero])
    | ((with_reducible refine Any.at_estore (T := 32) ?_); refine Any.E_putv (T := 32) rfl rfl rfl rfl rfl rfl 144 infoPs (size_pg b q) (by rw [zeroPs, size_pg]) (one_pg b q) ?_; simp only [Act.put, List.setIfInBounds_toArray, List.set_cons_succ, List.set_cons_zero]))
  try any_goals exact undef
  refine Any.E_nil ?_
  intro w9 hE9
  replace hv : Mem w0 w9 ([(b7, pg b q), (b6, #[.int .i64 st, .int .i64 pc, (.slice sa sn sc), (.slice ca cn cc), .int .u64 (wk : Nat), .int .i64 sk, .int .i64 er])] ++ L) R := hE9.memr hv [1000, 1001] (by decide)
  clear hE9
  simp only [List.cons_append, List.nil_append] at hv
  go_wp2
  refine ret_cell21 Tryz.results6 rfl (read_row _ _ 28 #[.int .i64 st, .int .i64 pc, (.slice sa sn sc), (.slice ca cn cc), .int .u64 (wk : Nat), .int .i64 sk, .int .i64 er] (hv.vars.row (.tail _ (.head _))) 7 _ Tryz.underlying28 rfl infoT (by decide) rfl) rfl (read_row _ _ 32 (pg b q) (hv.vars.row (.head _)) 144 _ Tryz.underlying32 rfl infoPs (by decide) (size_pg _ _)) rfl rfl ⟨_, _, rfl, hv.drop.drop.keepR (mem_two hs hc (fun y hy => hy))⟩
set_option maxRecDepth 100000 in
set_option maxHeartbeats 1000000 in
theorem Do_moveE (st pc sk er : Int) (wk : Nat) (S : List Nat) (C : List Int) (sa ca la : Option Addr) (sn sc cn cc ln lcap : Nat) (l : List Cd.Inst) (b : Nat → Bool) (q : Nat → Nat → Nat) (w0 w : World) (L : List (Nat × Array Value)) (R : List (Nat × Value × List Value)) (hv : Mem w0 w L R) (hl : (2, .slice la ln lcap, cellsI l) ∈ R) (hs : (1, .slice sa sn sc, cellsU S) ∈ R) (hc : (1, .slice ca cn cc, cellsN C) ∈ R) (op : Int) (arg : Nat) (err : Int) (he : err ≠ 0) (kB : ∀ w', Rd w' 2 (.slice la ln lcap) (cellsI l) → Rd w' 1 (.slice sa sn sc) (cellsU S) → Rd w' 1 (.slice ca cn cc) (cellsN C) → Calls Tryz.prog 14 #[.slice la ln lcap, .agg #[.int .i64 st, .int .i64 pc, (.slice sa sn sc), (.slice ca cn cc), .int .u64 (wk : Nat), .int .i64 sk, .int .i64 er], .agg (pg b q)] w' (BegunA Tryz.prog w' #[.int .i64 st, .int .i64 pc, (.slice sa sn sc), (.slice ca cn cc), .int .u64 (wk : Nat), .int .i64 sk, .int .i64 er] (pg b q) op arg)) (kM : ∀ (w' : World) (bD : Nat) (two one : Value) (L' : List (Nat × Array Value)) (R' : List (Nat × Value × List Value)), (∀ z ∈ R, z ∈ R') → Mem w0 w' ((bD, (deed #[.int .i64 st, .int .i64 pc, (.slice sa sn sc), (.slice ca cn cc), .int .u64 (wk : Nat), .int .i64 sk, .int .i64 er] (pg b q) #[.int .i64 op, .int .u64 (arg : Nat), .slice none 0 0, two, one])) :: L') R' → Calls Tryz.prog 15 #[.pointer (some ⟨bD, 0, none⟩)] w' fun e w2 => e = .returned (.tuple #[.int .i64 err, .bool true]) ∧ w' = w2) :
    Calls Tryz.prog 6 #[.slice la ln lcap, .agg #[.int .i64 st, .int .i64 pc, (.slice sa sn sc), (.slice ca cn cc), .int .u64 (wk : Nat), .int .i64 sk, .int .i64 er], .agg (pg b q)] w (DoA w0 L R b (⟨st, pc, S, C, wk, sk, er⟩, q, err)) := by
  have he2 : (err == 0) = false := by rw [beq_eq_false_iff_ne]; exact he
  clear he
  go_enter Tryz.func6, Tryz.ntmps6
  go_wp2_with (first
    | ((with_reducible refine at_box (T := 28) (dst := some 4) ?_); refine wl_newb rfl #[.int .i64 st, .int .i64 pc, (.slice sa sn sc), (.slice ca cn cc), .int .u64 (wk : Nat), .int .i64 sk, .int .i64 er] 28 (fun _ => rfl) ?_; intro b4 w2 hm2; replace hv := hv.madeAt hm2; clear hm2)
    | ((with_reducible refine at_box (T := 32) (dst := some 5) ?_); refine wl_newb rfl (pg b q) 32 (fun _ => rfl) ?_; intro b5 w2 hm2; replace hv := hv.madeAt hm2; clear hm2)
    | ((with_reducible refine at_alloc (T := 28) (dst := some 6) ?_); refine wl_newb rfl #[.int .i64 0, .int .i64 0, .slice none 0 0, .slice none 0 0, .int .u64 0, .int .i64 0, .int .i64 0] 28 (fun _ => rfl) ?_; intro b6 w2 hm2; replace hv := hv.madeAt hm2; clear hm2)
    | ((with_reducible refine at_alloc (T := 32) (dst := some 7) ?_); refine wl_newb rfl Tryz.zeroCells32 32 (fun _ => rfl) ?_; intro b7 w2 hm2; replace hv := hv.madeAt hm2; clear hm2)
    | ((with_reducible refine at_load (T := 28) ?_); refine wl_ldv rfl b4 rfl _ (hv.vars.row (by first | exact .head _ | exact .tail _ (.head _) | exact .tail _ (.tail _ (.head _)) | exact .tail _ (.tail _ (.tail _ (.head _))) | exact .tail _ (.tail _ (.tail _ (.tail _ (.head _)))) | exact .tail _ (.tail _ (.tail _ (.tail _ (.tail _ (.head _))))) | exact .tail _ (.tail _ (.tail _ (.tail _ (.tail _ (.tail _ (.head _)))))) | exact .tail _ (.tail _ (.tail _ (.tail _ (.tail _ (.tail _ (.tail _ (.head _))))))))) 7 _ Tryz.underlying28 rfl infoT (by decide) rfl ?_)
    | ((with_reducible refine at_load (T := 32) ?_); refine wl_ldv rfl b5 rfl _ (hv.vars.row (by first | exact .head _ | exact .tail _ (.head _) | exact .tail _ (.tail _ (.head _)) | exact .tail _ (.tail _ (.tail _ (.head _))) | exact .tail _ (.tail _ (.tail _ (.tail _ (.head _)))) | exact .tail _ (.tail _ (.tail _ (.tail _ (.tail _ (.head _))))) | exact .tail _ (.tail _ (.tail _ (.tail _ (.tail _ (.tail _ (.head _)))))) | exact .tail _ (.tail _ (.tail _ (.tail _ (.tail _ (.tail _ (.tail _ (.head _))))))))) 144 _ Tryz.underlying32 rfl infoPs (by decide) (size_pg b q) ?_)
    | (go_at_call 14; (with_reducible refine (kB _ (hv.rd hl) (hv.rd hs) (hv.rd hc)).mono ?_); rintro e w1 ⟨two, one, R2, ⟨bD, rfl, hn1, hb1, hr1, hs1⟩, hz1, fns⟩; replace hv := begun_mem hv hn1 hb1 hr1 hs1 rfl rfl hz1; replace fns := Lib.hid fns; clear hn1 hb1 hr1 hs1 hz1)
    | (go_at_call 15; (with_reducible refine (kM _ _ _ _ _ _ (fun z hz => List.mem_append_right _ hz) hv).mono ?_); rintro e w1 ⟨rfl, rfl⟩))
  replace hv := hv.drop
  refine Any.wp_region_walk [⟨[1003], none⟩, ⟨[1002], none⟩, ⟨[], none⟩, ⟨[1001], some 1001⟩, ⟨[1000], some 1000⟩, ⟨[], none⟩] [.val, .val, .val, .put, .put, .val] (by kernel_rfl) (by kernel_rfl) (hv.vars.keep (List.sublist_append_left [(b7, Tryz.zeroCells32), (b6, #[.int .i64 0, .int .i64 0, .slice none 0 0, .slice none 0 0, .int .u64 0, .int .i64 0, .int .i64 0]), (b5, pg b q), (b4, #[.int .i64 st, .int .i64 pc, (.slice sa sn sc), (.slice ca cn cc), .int .u64 (wk : Nat), .int .i64 sk, .int .i64 er])] L)) ?_
  simp only [List.length_cons, List.length_nil, Nat.zero_add, Any.someVals]
  iterate 6 apply Exists.intro
  repeat (first
    | (refine Any.E_off rfl ?_; simp only [Act.put, List.setIfInBounds_toArray, List.set_cons_succ, List.set_cons_zero])
    | (apply Any.E_pureq rfl rfl rfl
       case h => intro K hK; go_big_quiet_op; (refine hK _ ?_; rfl)
       case hr => exact fun _ => rfl
       simp only [Act.put, List.setIfInBounds_toArray, List.set_cons_succ, List.set_cons_zero])
    | (apply Any.E_val rfl rfl rfl rfl
       case h =>
         intro E' hA K hK
         first
           | ((with_reducible refine Any.at_qload (T := 28) ?_); refine Any.q_ldv 1003 hA (by decide) rfl rfl 7 _ Tryz.underlying28 rfl infoT (by decide) rfl ?_; refine hK _ ?_; rfl)
           | ((with_reducible refine Any.at_qload (T := 32) ?_); refine Any.q_ldv 1002 hA (by decide) rfl rfl 144 _ Tryz.underlying32 rfl infoPs (by decide) (size_pg b q) ?_; refine hK _ ?_; rfl)
           | (go_big_quiet_op; first
             | (refine hK _ ?_; rfl)
             | (refine ⟨_, fun _ _ => rfl, ?_⟩; refine hK _ ?_; rfl)
             | (apply Exists.intro; refine ⟨fun w1 hw1 => ?_, ?_⟩; · (first
                 | fail)
                refine hK _ ?_; rfl))
       case hD => rfl
       simp only [Act.put, List.setIfInBounds_toArray, List.set_cons_succ, List.set_cons_zero])
    | ((with_reducible refine Any.at_ealloc ?_); refine Any.E_lay rfl rfl rfl (fun _ => rfl) ?_; intro B; simp only [Act.put, List.setIfInBounds_toArray, List.set_cons_succ, List.set_cons_zero])
    | ((with_reducible refine Any.at_estore (T := 28) ?_); refine Any.E_putv (T := 28) rfl rfl rfl rfl rfl rfl 7 infoT rfl rfl (by simp [Value.oneCell']) ?_; simp only [Act.put, List.setIfInBounds_toArray, List.set_cons_succ, List.set_cons_zero])
    | ((with_reducible refine Any.at_estore (T := 32) ?_); refine Any.E_putv (T := 32) rfl rfl rfl rfl rfl rfl 144 infoPs (size_pg b q) (by rw [zeroPs, size_pg]) (one_pg b q) ?_; simp only [Act.put, List.setIfInBounds_toArray, List.set_cons_succ, List.set_cons_zero]))
  try any_goals exact undef
  refine Any.E_nil ?_
  intro w9 hE9
  replace hv : Mem w0 w9 ([(b7, pg b q), (b6, #[.int .i64 st, .int .i64 pc, (.slice sa sn sc), (.slice ca cn cc), .int .u64 (wk : Nat), .int .i64 sk, .int .i64 er])] ++ L) (R2 ++ R) := hE9.memr hv [1000, 1001] (by decide)
  clear hE9
  simp only [List.cons_append, List.nil_append] at hv
  go_wp2
  refine ret_cell21 Tryz.results6 rfl (read_row _ _ 28 #[.int .i64 st, .int .i64 pc, (.slice sa sn sc), (.slice ca cn cc), .int .u64 (wk : Nat), .int .i64 sk, .int .i64 er] (hv.vars.row (.tail _ (.head _))) 7 _ Tryz.underlying28 rfl infoT (by decide) rfl) rfl (read_row _ _ 32 (pg b q) (hv.vars.row (.head _)) 144 _ Tryz.underlying32 rfl infoPs (by decide) (size_pg _ _)) rfl rfl ⟨_, _, rfl, hv.drop.drop.keepR (mem_two (List.mem_append_right _ hs) (List.mem_append_right _ hc) (fun y hy => List.mem_append_right _ hy))⟩
set_option maxRecDepth 100000 in
set_option maxHeartbeats 1000000 in
theorem Do_moveO (st pc sk er : Int) (wk : Nat) (S : List Nat) (C : List Int) (sa ca la : Option Addr) (sn sc cn cc ln lcap : Nat) (l : List Cd.Inst) (b : Nat → Bool) (q : Nat → Nat → Nat) (w0 w : World) (L : List (Nat × Array Value)) (R : List (Nat × Value × List Value)) (hv : Mem w0 w L R) (hl : (2, .slice la ln lcap, cellsI l) ∈ R) (hs : (1, .slice sa sn sc, cellsU S) ∈ R) (hc : (1, .slice ca cn cc, cellsN C) ∈ R) (op : Int) (arg : Nat) (pc' : Int) (C' : List Int) (kB : ∀ w', Rd w' 2 (.slice la ln lcap) (cellsI l) → Rd w' 1 (.slice sa sn sc) (cellsU S) → Rd w' 1 (.slice ca cn cc) (cellsN C) → Calls Tryz.prog 14 #[.slice la ln lcap, .agg #[.int .i64 st, .int .i64 pc, (.slice sa sn sc), (.slice ca cn cc), .int .u64 (wk : Nat), .int .i64 sk, .int .i64 er], .agg (pg b q)] w' (BegunA Tryz.prog w' #[.int .i64 st, .int .i64 pc, (.slice sa sn sc), (.slice ca cn cc), .int .u64 (wk : Nat), .int .i64 sk, .int .i64 er] (pg b q) op arg)) (kM : ∀ (w' : World) (bD : Nat) (two one : Value) (L' : List (Nat × Array Value)) (R' : List (Nat × Value × List Value)), (∀ z ∈ R, z ∈ R') → Mem w0 w' ((bD, (deed #[.int .i64 st, .int .i64 pc, (.slice sa sn sc), (.slice ca cn cc), .int .u64 (wk : Nat), .int .i64 sk, .int .i64 er] (pg b q) #[.int .i64 op, .int .u64 (arg : Nat), .slice none 0 0, two, one])) :: L') R' → Calls Tryz.prog 15 #[.pointer (some ⟨bD, 0, none⟩)] w' fun e w2 => ∃ pa pn pcp, e = .returned (.tuple #[.int .i64 0, .bool true]) ∧ Mem w0 w2 ((bD, (deed #[.int .i64 st, .int .i64 pc', (.slice sa sn sc), (.slice pa pn pcp), .int .u64 (wk : Nat), .int .i64 sk, .int .i64 er] (pg b q) #[.int .i64 op, .int .u64 (arg : Nat), .slice none 0 0, two, one])) :: L') ((1, .slice pa pn pcp, cellsN C') :: R')) :
    Calls Tryz.prog 6 #[.slice la ln lcap, .agg #[.int .i64 st, .int .i64 pc, (.slice sa sn sc), (.slice ca cn cc), .int .u64 (wk : Nat), .int .i64 sk, .int .i64 er], .agg (pg b q)] w (DoA w0 L R b (⟨st, pc', S, C', wk, sk, er⟩, q, 0)) := by
  go_enter Tryz.func6, Tryz.ntmps6
  go_wp2_with (first
    | ((with_reducible refine at_box (T := 28) (dst := some 4) ?_); refine wl_newb rfl #[.int .i64 st, .int .i64 pc, (.slice sa sn sc), (.slice ca cn cc), .int .u64 (wk : Nat), .int .i64 sk, .int .i64 er] 28 (fun _ => rfl) ?_; intro b4 w2 hm2; replace hv := hv.madeAt hm2; clear hm2)
    | ((with_reducible refine at_box (T := 32) (dst := some 5) ?_); refine wl_newb rfl (pg b q) 32 (fun _ => rfl) ?_; intro b5 w2 hm2; replace hv := hv.madeAt hm2; clear hm2)
    | ((with_reducible refine at_alloc (T := 28) (dst := some 6) ?_); refine wl_newb rfl #[.int .i64 0, .int .i64 0, .slice none 0 0, .slice none 0 0, .int .u64 0, .int .i64 0, .int .i64 0] 28 (fun _ => rfl) ?_; intro b6 w2 hm2; replace hv := hv.madeAt hm2; clear hm2)
    | ((with_reducible refine at_alloc (T := 32) (dst := some 7) ?_); refine wl_newb rfl Tryz.zeroCells32 32 (fun _ => rfl) ?_; intro b7 w2 hm2; replace hv := hv.madeAt hm2; clear hm2)
    | ((with_reducible refine at_load (T := 28) ?_); refine wl_ldv rfl b4 rfl _ (hv.vars.row (by first | exact .head _ | exact .tail _ (.head _) | exact .tail _ (.tail _ (.head _)) | exact .tail _ (.tail _ (.tail _ (.head _))) | exact .tail _ (.tail _ (.tail _ (.tail _ (.head _)))) | exact .tail _ (.tail _ (.tail _ (.tail _ (.tail _ (.head _))))) | exact .tail _ (.tail _ (.tail _ (.tail _ (.tail _ (.tail _ (.head _)))))) | exact .tail _ (.tail _ (.tail _ (.tail _ (.tail _ (.tail _ (.tail _ (.head _))))))))) 7 _ Tryz.underlying28 rfl infoT (by decide) rfl ?_)
    | ((with_reducible refine at_load (T := 32) ?_); refine wl_ldv rfl b5 rfl _ (hv.vars.row (by first | exact .head _ | exact .tail _ (.head _) | exact .tail _ (.tail _ (.head _)) | exact .tail _ (.tail _ (.tail _ (.head _))) | exact .tail _ (.tail _ (.tail _ (.tail _ (.head _)))) | exact .tail _ (.tail _ (.tail _ (.tail _ (.tail _ (.head _))))) | exact .tail _ (.tail _ (.tail _ (.tail _ (.tail _ (.tail _ (.head _)))))) | exact .tail _ (.tail _ (.tail _ (.tail _ (.tail _ (.tail _ (.tail _ (.head _))))))))) 144 _ Tryz.underlying32 rfl infoPs (by decide) (size_pg b q) ?_)
    | (go_at_call 14; (with_reducible refine (kB _ (hv.rd hl) (hv.rd hs) (hv.rd hc)).mono ?_); rintro e w1 ⟨two, one, R2, ⟨bD, rfl, hn1, hb1, hr1, hs1⟩, hz1, fns⟩; replace hv := begun_mem hv hn1 hb1 hr1 hs1 rfl rfl hz1; replace fns := Lib.hid fns; clear hn1 hb1 hr1 hs1 hz1)
    | (go_at_call 15; (with_reducible refine (kM _ _ _ _ _ _ (fun z hz => List.mem_append_right _ hz) hv).mono ?_); rintro e w1 ⟨pa, pn, pcp, rfl, hv1⟩; replace hv := hv1; clear hv1))
  refine Any.wp_region_walk [⟨[], none⟩, ⟨[], none⟩, ⟨[], none⟩, ⟨[1000], none⟩, ⟨[], none⟩, ⟨[], none⟩, ⟨[], none⟩, ⟨[1000], none⟩, ⟨[1002], some 1002⟩, ⟨[1001], some 1001⟩, ⟨[], none⟩] [.val, .val, .val, .val, .val, .val, .val, .val, .put, .put, .val] (by kernel_rfl) (by kernel_rfl) (hv.vars.keep (List.sublist_append_left [(bD, (deed #[.int .i64 st, .int .i64 pc', (.slice sa sn sc), (.slice pa pn pcp), .int .u64 (wk : Nat), .int .i64 sk, .int .i64 er] (pg b q) #[.int .i64 op, .int .u64 (arg : Nat), .slice none 0 0, two, one])), (b7, Tryz.zeroCells32), (b6, #[.int .i64 0, .int .i64 0, .slice none 0 0, .slice none 0 0, .int .u64 0, .int .i64 0, .int .i64 0]), (b5, pg b q), (b4, #[.int .i64 st, .int .i64 pc, (.slice sa sn sc), (.slice ca cn cc), .int .u64 (wk : Nat), .int .i64 sk, .int .i64 er])] L)) ?_
  simp only [List.length_cons, List.length_nil, Nat.zero_add, Any.someVals]
  iterate 11 apply Exists.intro
  repeat (first
    | (refine Any.E_off rfl ?_; simp only [Act.put, List.setIfInBounds_toArray, List.set_cons_succ, List.set_cons_zero])
    | (apply Any.E_pureq rfl rfl rfl
       case h => intro K hK; go_big_quiet_op; (refine hK _ ?_; rfl)
       case hr => exact fun _ => rfl
       simp only [Act.put, List.setIfInBounds_toArray, List.set_cons_succ, List.set_cons_zero])
    | (apply Any.E_val rfl rfl rfl rfl
       case h =>
         intro E' hA K hK
         first
           | ((with_reducible refine Any.at_qload (T := 28) ?_); refine Any.q_ldp 1000 hA (by decide) rfl rfl 7 _ Tryz.underlying28 rfl infoT (by decide) (deed_lo7 rfl) #[.int .i64 st, .int .i64 pc', (.slice sa sn sc), (.slice pa pn pcp), .int .u64 (wk : Nat), .int .i64 sk, .int .i64 er] (deed_thread rfl) ?_; refine hK _ ?_; rfl)
           | ((with_reducible refine Any.at_qload (T := 32) ?_); refine Any.q_ldp 1000 hA (by decide) rfl rfl 144 _ Tryz.underlying32 rfl infoPs (by decide) (by rw [deed_size rfl (size_pg b _)]; omega) (pg b q) (deed_pages rfl (size_pg b _)) ?_; refine hK _ ?_; rfl)
           | (go_big_quiet_op; first
             | (refine hK _ ?_; rfl)
             | (refine ⟨_, fun _ _ => rfl, ?_⟩; refine hK _ ?_; rfl)
             | (apply Exists.intro; refine ⟨fun w1 hw1 => ?_, ?_⟩; · (first
                 | fail)
                refine hK _ ?_; rfl))
       case hD => rfl
       simp only [Act.put, List.setIfInBounds_toArray, List.set_cons_succ, List.set_cons_zero])
    | ((with_reducible refine Any.at_ealloc ?_); refine Any.E_lay rfl rfl rfl (fun _ => rfl) ?_; intro B; simp only [Act.put, List.setIfInBounds_toArray, List.set_cons_succ, List.set_cons_zero])
    | ((with_reducible refine Any.at_estore (T := 28) ?_); refine Any.E_putv (T := 28) rfl rfl rfl rfl rfl rfl 7 infoT rfl rfl (by simp [Value.oneCell']) ?_; simp only [Act.put, List.setIfInBounds_toArray, List.set_cons_succ, List.set_cons_zero])
    | ((with_reducible refine Any.at_estore (T := 32) ?_); refine Any.E_putv (T := 32) rfl rfl rfl rfl rfl rfl 144 infoPs (size_pg b _) (by rw [zeroPs, size_pg]) (one_pg b _) ?_; simp only [Act.put, List.setIfInBounds_toArray, List.set_cons_succ, List.set_cons_zero]))
  try any_goals exact undef
  refine Any.E_nil ?_
  intro w9 hE9
  replace hv : Mem w0 w9 ([(b7, (pg b q)), (b6, #[.int .i64 st, .int .i64 pc', (.slice sa sn sc), (.slice pa pn pcp), .int .u64 (wk : Nat), .int .i64 sk, .int .i64 er])] ++ L) ((1, .slice pa pn pcp, cellsN C') :: (R2 ++ R)) := hE9.memr hv [1001, 1002] (by decide)
  clear hE9
  simp only [List.cons_append, List.nil_append] at hv
  go_wp2
  refine ret_cell21 Tryz.results6 rfl (read_row _ _ 28 #[.int .i64 st, .int .i64 pc', (.slice sa sn sc), (.slice pa pn pcp), .int .u64 (wk : Nat), .int .i64 sk, .int .i64 er] (hv.vars.row (.tail _ (.head _))) 7 _ Tryz.underlying28 rfl infoT (by decide) rfl) rfl (read_row _ _ 32 (pg b q) (hv.vars.row (.head _)) 144 _ Tryz.underlying32 rfl infoPs (by decide) (size_pg _ _)) rfl rfl ⟨_, _, rfl, hv.drop.drop.keepR (mem_two (Mem.s (List.mem_append_right _ hs)) Mem.z (fun y hy => Mem.s (List.mem_append_right _ hy)))⟩
set_option maxRecDepth 100000 in
set_option maxHeartbeats 1000000 in
theorem Do_restE (st pc sk er : Int) (wk : Nat) (S : List Nat) (C : List Int) (sa ca la : Option Addr) (sn sc cn cc ln lcap : Nat) (l : List Cd.Inst) (b : Nat → Bool) (q : Nat → Nat → Nat) (w0 w : World) (L : List (Nat × Array Value)) (R : List (Nat × Value × List Value)) (hv : Mem w0 w L R) (hl : (2, .slice la ln lcap, cellsI l) ∈ R) (hs : (1, .slice sa sn sc, cellsU S) ∈ R) (hc : (1, .slice ca cn cc, cellsN C) ∈ R) (op : Int) (arg : Nat) (err : Int) (he : err ≠ 0) (kB : ∀ w', Rd w' 2 (.slice la ln lcap) (cellsI l) → Rd w' 1 (.slice sa sn sc) (cellsU S) → Rd w' 1 (.slice ca cn cc) (cellsN C) → Calls Tryz.prog 14 #[.slice la ln lcap, .agg #[.int .i64 st, .int .i64 pc, (.slice sa sn sc), (.slice ca cn cc), .int .u64 (wk : Nat), .int .i64 sk, .int .i64 er], .agg (pg b q)] w' (BegunA Tryz.prog w' #[.int .i64 st, .int .i64 pc, (.slice sa sn sc), (.slice ca cn cc), .int .u64 (wk : Nat), .int .i64 sk, .int .i64 er] (pg b q) op arg)) (kM : ∀ (w' : World) (bD : Nat) (two one : Value) (L' : List (Nat × Array Value)) (R' : List (Nat × Value × List Value)), (∀ z ∈ R, z ∈ R') → Mem w0 w' ((bD, (deed #[.int .i64 st, .int .i64 pc, (.slice sa sn sc), (.slice ca cn cc), .int .u64 (wk : Nat), .int .i64 sk, .int .i64 er] (pg b q) #[.int .i64 op, .int .u64 (arg : Nat), .slice none 0 0, two, one])) :: L') R' → Calls Tryz.prog 15 #[.pointer (some ⟨bD, 0, none⟩)] w' fun e w2 => e = .returned (.tuple #[.int .i64 0, .bool false]) ∧ w' = w2) (kD : ∀ (w' : World) (bD : Nat) (two one : Value) (L' : List (Nat × Array Value)) (R' R2 : List (Nat × Value × List Value)), (∀ z ∈ R, z ∈ R') → (∀ z ∈ R2, z ∈ R') → Fns Tryz.prog op two one R2 → Mem w0 w' ((bD, (deed #[.int .i64 st, .int .i64 pc, (.slice sa sn sc), (.slice ca cn cc), .int .u64 (wk : Nat), .int .i64 sk, .int .i64 er] (pg b q) #[.int .i64 op, .int .u64 (arg : Nat), .slice none 0 0, two, one])) :: L') R' → Calls Tryz.prog 16 #[.pointer (some ⟨bD, 0, none⟩)] w' fun e w2 => e = .returned (.int .i64 err) ∧ Mem w0 w2 L' R') :
    Calls Tryz.prog 6 #[.slice la ln lcap, .agg #[.int .i64 st, .int .i64 pc, (.slice sa sn sc), (.slice ca cn cc), .int .u64 (wk : Nat), .int .i64 sk, .int .i64 er], .agg (pg b q)] w (DoA w0 L R b (⟨st, pc, S, C, wk, sk, er⟩, q, err)) := by
  have he2 : (err == 0) = false := by rw [beq_eq_false_iff_ne]; exact he
  clear he
  go_enter Tryz.func6, Tryz.ntmps6
  go_wp2_with (first
    | ((with_reducible refine at_box (T := 28) (dst := some 4) ?_); refine wl_newb rfl #[.int .i64 st, .int .i64 pc, (.slice sa sn sc), (.slice ca cn cc), .int .u64 (wk : Nat), .int .i64 sk, .int .i64 er] 28 (fun _ => rfl) ?_; intro b4 w2 hm2; replace hv := hv.madeAt hm2; clear hm2)
    | ((with_reducible refine at_box (T := 32) (dst := some 5) ?_); refine wl_newb rfl (pg b q) 32 (fun _ => rfl) ?_; intro b5 w2 hm2; replace hv := hv.madeAt hm2; clear hm2)
    | ((with_reducible refine at_alloc (T := 28) (dst := some 6) ?_); refine wl_newb rfl #[.int .i64 0, .int .i64 0, .slice none 0 0, .slice none 0 0, .int .u64 0, .int .i64 0, .int .i64 0] 28 (fun _ => rfl) ?_; intro b6 w2 hm2; replace hv := hv.madeAt hm2; clear hm2)
    | ((with_reducible refine at_alloc (T := 32) (dst := some 7) ?_); refine wl_newb rfl Tryz.zeroCells32 32 (fun _ => rfl) ?_; intro b7 w2 hm2; replace hv := hv.madeAt hm2; clear hm2)
    | ((with_reducible refine at_load (T := 28) ?_); refine wl_ldv rfl b4 rfl _ (hv.vars.row (by first | exact .head _ | exact .tail _ (.head _) | exact .tail _ (.tail _ (.head _)) | exact .tail _ (.tail _ (.tail _ (.head _))) | exact .tail _ (.tail _ (.tail _ (.tail _ (.head _)))) | exact .tail _ (.tail _ (.tail _ (.tail _ (.tail _ (.head _))))) | exact .tail _ (.tail _ (.tail _ (.tail _ (.tail _ (.tail _ (.head _)))))) | exact .tail _ (.tail _ (.tail _ (.tail _ (.tail _ (.tail _ (.tail _ (.head _))))))))) 7 _ Tryz.underlying28 rfl infoT (by decide) rfl ?_)
    | ((with_reducible refine at_load (T := 32) ?_); refine wl_ldv rfl b5 rfl _ (hv.vars.row (by first | exact .head _ | exact .tail _ (.head _) | exact .tail _ (.tail _ (.head _)) | exact .tail _ (.tail _ (.tail _ (.head _))) | exact .tail _ (.tail _ (.tail _ (.tail _ (.head _)))) | exact .tail _ (.tail _ (.tail _ (.tail _ (.tail _ (.head _))))) | exact .tail _ (.tail _ (.tail _ (.tail _ (.tail _ (.tail _ (.head _)))))) | exact .tail _ (.tail _ (.tail _ (.tail _ (.tail _ (.tail _ (.tail _ (.head _))))))))) 144 _ Tryz.underlying32 rfl infoPs (by decide) (size_pg b q) ?_)
    | (go_at_call 14; (with_reducible refine (kB _ (hv.rd hl) (hv.rd hs) (hv.rd hc)).mono ?_); rintro e w1 ⟨two, one, R2, ⟨bD, rfl, hn1, hb1, hr1, hs1⟩, hz1, fns⟩; replace hv := begun_mem hv hn1 hb1 hr1 hs1 rfl rfl hz1; replace fns := Lib.hid fns; clear hn1 hb1 hr1 hs1 hz1)
    | (go_at_call 15; (with_reducible refine (kM _ _ _ _ _ _ (fun z hz => List.mem_append_right _ hz) hv).mono ?_); rintro e w1 ⟨rfl, rfl⟩)
    | (go_at_call 16; (with_reducible refine (kD _ _ _ _ _ _ _ (fun z hz => List.mem_append_right _ hz) (fun z hz => List.mem_append_left _ hz) fns.out hv).mono ?_); rintro e w1 ⟨rfl, hv1⟩; replace hv := hv1; clear hv1))
  refine Any.wp_region_walk [⟨[1003], none⟩, ⟨[1002], none⟩, ⟨[], none⟩, ⟨[1001], some 1001⟩, ⟨[1000], some 1000⟩, ⟨[], none⟩] [.val, .val, .val, .put, .put, .val] (by kernel_rfl) (by kernel_rfl) (hv.vars.keep (List.sublist_append_left [(b7, Tryz.zeroCells32), (b6, #[.int .i64 0, .int .i64 0, .slice none 0 0, .slice none 0 0, .int .u64 0, .int .i64 0, .int .i64 0]), (b5, pg b q), (b4, #[.int .i64 st, .int .i64 pc, (.slice sa sn sc), (.slice ca cn cc), .int .u64 (wk : Nat), .int .i64 sk, .int .i64 er])] L)) ?_
  simp only [List.length_cons, List.length_nil, Nat.zero_add, Any.someVals]
  iterate 6 apply Exists.intro
  repeat (first
    | (refine Any.E_off rfl ?_; simp only [Act.put, List.setIfInBounds_toArray, List.set_cons_succ, List.set_cons_zero])
    | (apply Any.E_pureq rfl rfl rfl
       case h => intro K hK; go_big_quiet_op; (refine hK _ ?_; rfl)
       case hr => exact fun _ => rfl
       simp only [Act.put, List.setIfInBounds_toArray, List.set_cons_succ, List.set_cons_zero])
    | (apply Any.E_val rfl rfl rfl rfl
       case h =>
         intro E' hA K hK
         first
           | ((with_reducible refine Any.at_qload (T := 28) ?_); refine Any.q_ldv 1003 hA (by decide) rfl rfl 7 _ Tryz.underlying28 rfl infoT (by decide) rfl ?_; refine hK _ ?_; rfl)
           | ((with_reducible refine Any.at_qload (T := 32) ?_); refine Any.q_ldv 1002 hA (by decide) rfl rfl 144 _ Tryz.underlying32 rfl infoPs (by decide) (size_pg b q) ?_; refine hK _ ?_; rfl)
           | (go_big_quiet_op; first
             | (refine hK _ ?_; rfl)
             | (refine ⟨_, fun _ _ => rfl, ?_⟩; refine hK _ ?_; rfl)
             | (apply Exists.intro; refine ⟨fun w1 hw1 => ?_, ?_⟩; · (first
                 | fail)
                refine hK _ ?_; rfl))
       case hD => rfl
       simp only [Act.put, List.setIfInBounds_toArray, List.set_cons_succ, List.set_cons_zero])
    | ((with_reducible refine Any.at_ealloc ?_); refine Any.E_lay rfl rfl rfl (fun _ => rfl) ?_; intro B; simp only [Act.put, List.setIfInBounds_toArray, List.set_cons_succ, List.set_cons_zero])
    | ((with_reducible refine Any.at_estore (T := 28) ?_); refine Any.E_putv (T := 28) rfl rfl rfl rfl rfl rfl 7 infoT rfl rfl (by simp [Value.oneCell']) ?_; simp only [Act.put, List.setIfInBounds_toArray, List.set_cons_succ, List.set_cons_zero])
    | ((with_reducible refine Any.at_estore (T := 32) ?_); refine Any.E_putv (T := 32) rfl rfl rfl rfl rfl rfl 144 infoPs (size_pg b q) (by rw [zeroPs, size_pg]) (one_pg b q) ?_; simp only [Act.put, List.setIfInBounds_toArray, List.set_cons_succ, List.set_cons_zero]))
  try any_goals exact undef
  refine Any.E_nil ?_
  intro w9 hE9
  replace hv : Mem w0 w9 ([(b7, pg b q), (b6, #[.int .i64 st, .int .i64 pc, (.slice sa sn sc), (.slice ca cn cc), .int .u64 (wk : Nat), .int .i64 sk, .int .i64 er])] ++ L) (R2 ++ R) := hE9.memr hv [1000, 1001] (by decide)
  clear hE9
  simp only [List.cons_append, List.nil_append] at hv
  go_wp2
  refine ret_cell21 Tryz.results6 rfl (read_row _ _ 28 #[.int .i64 st, .int .i64 pc, (.slice sa sn sc), (.slice ca cn cc), .int .u64 (wk : Nat), .int .i64 sk, .int .i64 er] (hv.vars.row (.tail _ (.head _))) 7 _ Tryz.underlying28 rfl infoT (by decide) rfl) rfl (read_row _ _ 32 (pg b q) (hv.vars.row (.head _)) 144 _ Tryz.underlying32 rfl infoPs (by decide) (size_pg _ _)) rfl rfl ⟨_, _, rfl, hv.drop.drop.keepR (mem_two (List.mem_append_right _ hs) (List.mem_append_right _ hc) (fun y hy => List.mem_append_right _ hy))⟩
set_option maxRecDepth 100000 in
set_option maxHeartbeats 1000000 in
theorem Do_restO (st pc sk er : Int) (wk : Nat) (S : List Nat) (C : List Int) (sa ca la : Option Addr) (sn sc cn cc ln lcap : Nat) (l : List Cd.Inst) (b : Nat → Bool) (q : Nat → Nat → Nat) (w0 w : World) (L : List (Nat × Array Value)) (R : List (Nat × Value × List Value)) (hv : Mem w0 w L R) (hl : (2, .slice la ln lcap, cellsI l) ∈ R) (hs : (1, .slice sa sn sc, cellsU S) ∈ R) (hc : (1, .slice ca cn cc, cellsN C) ∈ R) (op : Int) (arg : Nat) (pc' : Int) (S' : List Nat) (q' : Nat → Nat → Nat) (kB : ∀ w', Rd w' 2 (.slice la ln lcap) (cellsI l) → Rd w' 1 (.slice sa sn sc) (cellsU S) → Rd w' 1 (.slice ca cn cc) (cellsN C) → Calls Tryz.prog 14 #[.slice la ln lcap, .agg #[.int .i64 st, .int .i64 pc, (.slice sa sn sc), (.slice ca cn cc), .int .u64 (wk : Nat), .int .i64 sk, .int .i64 er], .agg (pg b q)] w' (BegunA Tryz.prog w' #[.int .i64 st, .int .i64 pc, (.slice sa sn sc), (.slice ca cn cc), .int .u64 (wk : Nat), .int .i64 sk, .int .i64 er] (pg b q) op arg)) (kM : ∀ (w' : World) (bD : Nat) (two one : Value) (L' : List (Nat × Array Value)) (R' : List (Nat × Value × List Value)), (∀ z ∈ R, z ∈ R') → Mem w0 w' ((bD, (deed #[.int .i64 st, .int .i64 pc, (.slice sa sn sc), (.slice ca cn cc), .int .u64 (wk : Nat), .int .i64 sk, .int .i64 er] (pg b q) #[.int .i64 op, .int .u64 (arg : Nat), .slice none 0 0, two, one])) :: L') R' → Calls Tryz.prog 15 #[.pointer (some ⟨bD, 0, none⟩)] w' fun e w2 => e = .returned (.tuple #[.int .i64 0, .bool false]) ∧ w' = w2) (kD : ∀ (w' : World) (bD : Nat) (two one : Value) (L' : List (Nat × Array Value)) (R' R2 : List (Nat × Value × List Value)), (∀ z ∈ R, z ∈ R') → (∀ z ∈ R2, z ∈ R') → Fns Tryz.prog op two one R2 → Mem w0 w' ((bD, (deed #[.int .i64 st, .int .i64 pc, (.slice sa sn sc), (.slice ca cn cc), .int .u64 (wk : Nat), .int .i64 sk, .int .i64 er] (pg b q) #[.int .i64 op, .int .u64 (arg : Nat), .slice none 0 0, two, one])) :: L') R' → Calls Tryz.prog 16 #[.pointer (some ⟨bD, 0, none⟩)] w' fun e w2 => ∃ pa pn pcp X9, e = .returned (.int .i64 0) ∧ Mem w0 w2 ((bD, (deed #[.int .i64 st, .int .i64 pc', (.slice pa pn pcp), (.slice ca cn cc), .int .u64 (wk : Nat), .int .i64 sk, .int .i64 er] (pg b q') X9)) :: L') ((1, .slice pa pn pcp, cellsU S') :: R')) :
    Calls Tryz.prog 6 #[.slice la ln lcap, .agg #[.int .i64 st, .int .i64 pc, (.slice sa sn sc), (.slice ca cn cc), .int .u64 (wk : Nat), .int .i64 sk, .int .i64 er], .agg (pg b q)] w (DoA w0 L R b (⟨st, pc', S', C, wk, sk, er⟩, q', 0)) := by
  go_enter Tryz.func6, Tryz.ntmps6
  go_wp2_with (first
    | ((with_reducible refine at_box (T := 28) (dst := some 4) ?_); refine wl_newb rfl #[.int .i64 st, .int .i64 pc, (.slice sa sn sc), (.slice ca cn cc), .int .u64 (wk : Nat), .int .i64 sk, .int .i64 er] 28 (fun _ => rfl) ?_; intro b4 w2 hm2; replace hv := hv.madeAt hm2; clear hm2)
    | ((with_reducible refine at_box (T := 32) (dst := some 5) ?_); refine wl_newb rfl (pg b q) 32 (fun _ => rfl) ?_; intro b5 w2 hm2; replace hv := hv.madeAt hm2; clear hm2)
    | ((with_reducible refine at_alloc (T := 28) (dst := some 6) ?_); refine wl_newb rfl #[.int .i64 0, .int .i64 0, .slice none 0 0, .slice none 0 0, .int .u64 0, .int .i64 0, .int .i64 0] 28 (fun _ => rfl) ?_; intro b6 w2 hm2; replace hv := hv.madeAt hm2; clear hm2)
    | ((with_reducible refine at_alloc (T := 32) (dst := some 7) ?_); refine wl_newb rfl Tryz.zeroCells32 32 (fun _ => rfl) ?_; intro b7 w2 hm2; replace hv := hv.madeAt hm2; clear hm2)
    | ((with_reducible refine at_load (T := 28) ?_); refine wl_ldv rfl b4 rfl _ (hv.vars.row (by first | exact .head _ | exact .tail _ (.head _) | exact .tail _ (.tail _ (.head _)) | exact .tail _ (.tail _ (.tail _ (.head _))) | exact .tail _ (.tail _ (.tail _ (.tail _ (.head _)))) | exact .tail _ (.tail _ (.tail _ (.tail _ (.tail _ (.head _))))) | exact .tail _ (.tail _ (.tail _ (.tail _ (.tail _ (.tail _ (.head _)))))) | exact .tail _ (.tail _ (.tail _ (.tail _ (.tail _ (.tail _ (.tail _ (.head _))))))))) 7 _ Tryz.underlying28 rfl infoT (by decide) rfl ?_)
    | ((with_reducible refine at_load (T := 32) ?_); refine wl_ldv rfl b5 rfl _ (hv.vars.row (by first | exact .head _ | exact .tail _ (.head _) | exact .tail _ (.tail _ (.head _)) | exact .tail _ (.tail _ (.tail _ (.head _))) | exact .tail _ (.tail _ (.tail _ (.tail _ (.head _)))) | exact .tail _ (.tail _ (.tail _ (.tail _ (.tail _ (.head _))))) | exact .tail _ (.tail _ (.tail _ (.tail _ (.tail _ (.tail _ (.head _)))))) | exact .tail _ (.tail _ (.tail _ (.tail _ (.tail _ (.tail _ (.tail _ (.head _))))))))) 144 _ Tryz.underlying32 rfl infoPs (by decide) (size_pg b q) ?_)
    | (go_at_call 14; (with_reducible refine (kB _ (hv.rd hl) (hv.rd hs) (hv.rd hc)).mono ?_); rintro e w1 ⟨two, one, R2, ⟨bD, rfl, hn1, hb1, hr1, hs1⟩, hz1, fns⟩; replace hv := begun_mem hv hn1 hb1 hr1 hs1 rfl rfl hz1; replace fns := Lib.hid fns; clear hn1 hb1 hr1 hs1 hz1)
    | (go_at_call 15; (with_reducible refine (kM _ _ _ _ _ _ (fun z hz => List.mem_append_right _ hz) hv).mono ?_); rintro e w1 ⟨rfl, rfl⟩)
    | (go_at_call 16; (with_reducible refine (kD _ _ _ _ _ _ _ (fun z hz => List.mem_append_right _ hz) (fun z hz => List.mem_append_left _ hz) fns.out hv).mono ?_); rintro e w1 ⟨pa, pn, pcp, X9, rfl, hv1⟩; replace hv := hv1; clear hv1))
  refine Any.wp_region_walk [⟨[], none⟩, ⟨[], none⟩, ⟨[], none⟩, ⟨[1000], none⟩, ⟨[], none⟩, ⟨[], none⟩, ⟨[], none⟩, ⟨[1000], none⟩, ⟨[1002], some 1002⟩, ⟨[1001], some 1001⟩, ⟨[], none⟩] [.val, .val, .val, .val, .val, .val, .val, .val, .put, .put, .val] (by kernel_rfl) (by kernel_rfl) (hv.vars.keep (List.sublist_append_left [(bD, (deed #[.int .i64 st, .int .i64 pc', (.slice pa pn pcp), (.slice ca cn cc), .int .u64 (wk : Nat), .int .i64 sk, .int .i64 er] (pg b q') X9)), (b7, Tryz.zeroCells32), (b6, #[.int .i64 0, .int .i64 0, .slice none 0 0, .slice none 0 0, .int .u64 0, .int .i64 0, .int .i64 0]), (b5, pg b q), (b4, #[.int .i64 st, .int .i64 pc, (.slice sa sn sc), (.slice ca cn cc), .int .u64 (wk : Nat), .int .i64 sk, .int .i64 er])] L)) ?_
  simp only [List.length_cons, List.length_nil, Nat.zero_add, Any.someVals]
  iterate 11 apply Exists.intro
  repeat (first
    | (refine Any.E_off rfl ?_; simp only [Act.put, List.setIfInBounds_toArray, List.set_cons_succ, List.set_cons_zero])
    | (apply Any.E_pureq rfl rfl rfl
       case h => intro K hK; go_big_quiet_op; (refine hK _ ?_; rfl)
       case hr => exact fun _ => rfl
       simp only [Act.put, List.setIfInBounds_toArray, List.set_cons_succ, List.set_cons_zero])
    | (apply Any.E_val rfl rfl rfl rfl
       case h =>
         intro E' hA K hK
         first
           | ((with_reducible refine Any.at_qload (T := 28) ?_); refine Any.q_ldp 1000 hA (by decide) rfl rfl 7 _ Tryz.underlying28 rfl infoT (by decide) (deed_lo7 rfl) #[.int .i64 st, .int .i64 pc', (.slice pa pn pcp), (.slice ca cn cc), .int .u64 (wk : Nat), .int .i64 sk, .int .i64 er] (deed_thread rfl) ?_; refine hK _ ?_; rfl)
           | ((with_reducible refine Any.at_qload (T := 32) ?_); refine Any.q_ldp 1000 hA (by decide) rfl rfl 144 _ Tryz.underlying32 rfl infoPs (by decide) (by rw [deed_size rfl (size_pg b _)]; omega) (pg b q') (deed_pages rfl (size_pg b _)) ?_; refine hK _ ?_; rfl)
           | (go_big_quiet_op; first
             | (refine hK _ ?_; rfl)
             | (refine ⟨_, fun _ _ => rfl, ?_⟩; refine hK _ ?_; rfl)
             | (apply Exists.intro; refine ⟨fun w1 hw1 => ?_, ?_⟩; · (first
                 | fail)
                refine hK _ ?_; rfl))
       case hD => rfl
       simp only [Act.put, List.setIfInBounds_toArray, List.set_cons_succ, List.set_cons_zero])
    | ((with_reducible refine Any.at_ealloc ?_); refine Any.E_lay rfl rfl rfl (fun _ => rfl) ?_; intro B; simp only [Act.put, List.setIfInBounds_toArray, List.set_cons_succ, List.set_cons_zero])
    | ((with_reducible refine Any.at_estore (T := 28) ?_); refine Any.E_putv (T := 28) rfl rfl rfl rfl rfl rfl 7 infoT rfl rfl (by simp [Value.oneCell']) ?_; simp only [Act.put, List.setIfInBounds_toArray, List.set_cons_succ, List.set_cons_zero])
    | ((with_reducible refine Any.at_estore (T := 32) ?_); refine Any.E_putv (T := 32) rfl rfl rfl rfl rfl rfl 144 infoPs (size_pg b _) (by rw [zeroPs, size_pg]) (one_pg b _) ?_; simp only [Act.put, List.setIfInBounds_toArray, List.set_cons_succ, List.set_cons_zero]))
  try any_goals exact undef
  refine Any.E_nil ?_
  intro w9 hE9
  replace hv : Mem w0 w9 ([(b7, (pg b q')), (b6, #[.int .i64 st, .int .i64 pc', (.slice pa pn pcp), (.slice ca cn cc), .int .u64 (wk : Nat), .int .i64 sk, .int .i64 er])] ++ L) ((1, .slice pa pn pcp, cellsU S') :: (R2 ++ R)) := hE9.memr hv [1001, 1002] (by decide)
  clear hE9
  simp only [List.cons_append, List.nil_append] at hv
  go_wp2
  refine ret_cell21 Tryz.results6 rfl (read_row _ _ 28 #[.int .i64 st, .int .i64 pc', (.slice pa pn pcp), (.slice ca cn cc), .int .u64 (wk : Nat), .int .i64 sk, .int .i64 er] (hv.vars.row (.tail _ (.head _))) 7 _ Tryz.underlying28 rfl infoT (by decide) rfl) rfl (read_row _ _ 32 (pg b q') (hv.vars.row (.head _)) 144 _ Tryz.underlying32 rfl infoPs (by decide) (size_pg _ _)) rfl rfl ⟨_, _, rfl, hv.drop.drop.keepR (mem_two Mem.z (Mem.s (List.mem_append_right _ hc)) (fun y hy => Mem.s (List.mem_append_right _ hy)))⟩
end Go.Proofs.YthpodinbbmgfoaaGreat
