/-
  The walk of interp.begun.
-/
import Derived.Test.YthpodinbbmgfoaaGreatIpPlain
import Derived.Test.YthpodinbbmgfoaaGreatKit3
set_option linter.unusedVariables false
set_option linter.unusedSimpArgs false
namespace Go.Proofs.Ip
open Go Go.RowKit
theorem deed_set3 {T p X : Array Value} (hT : T.size = 7) (hp : p.size = 144) (v : Value) : (deed T p X).setIfInBounds 154 v = deed T p (X.setIfInBounds 3 v) := deed_set_hi hT hp 3 v
theorem deed_set4 {T p X : Array Value} (hT : T.size = 7) (hp : p.size = 144) (v : Value) : (deed T p X).setIfInBounds 155 v = deed T p (X.setIfInBounds 4 v) := deed_set_hi hT hp 4 v
/-- What begun answers where it begins. -/
def BegunR (w : World) (T p : Array Value) (op : Int) (arg : Nat) (two one : Value) (e : Ending) (w' : World) : Prop :=
  ∃ b', e = .returned (.tuple #[.pointer (some ⟨b', 0, none⟩), .bool true]) ∧ New w w' ∧ w.heap.size ≤ b' ∧ w'.rowD b' = deed T p #[.int .i64 op, .int .u64 (arg : Nat), .slice none 0 0, two, one] ∧ w'.soft b' = true
/-- .. where the function is a told one. -/
def BegunT (w : World) (T p : Array Value) (op : Int) (arg : Nat) (f g : FuncId) (one : Value) (e : Ending) (w' : World) : Prop :=
  ∃ B, BegunR w T p op arg (.func (.func f) #[] #[.pointer (some ⟨B, 0, none⟩)]) one e w' ∧ FR w w' 1 (.slice (some ⟨B, 0, none⟩) 1 1) [.func (.func g) #[] #[]]
theorem fr_row {w0 w : World} {L : List (Nat × Array Value)} (h : Vars w0 w L) {B : Nat} {v : Value} (hm : (B, #[v]) ∈ L) : FR w0 w 1 (.slice (some ⟨B, 0, none⟩) 1 1) [v] := by
  have h1 := h.row hm
  have h2 := h.sft hm
  refine ⟨⟨some ⟨B, 0, none⟩, 1, 1, rfl, rfl, Nat.le_refl _, by unfold maxLen; omega, fun h => (by cases h), fun i hi => ⟨B, 0, rfl, soft_lt h2, ?_⟩⟩, fun _ => ⟨B, 0, 1, 1, rfl, (h.rows _ hm).2.2⟩⟩
  rw [cell_rowD, h1, Nat.zero_add]; simp
end Go.Proofs.Ip
namespace Go.Proofs.YthpodinbbmgfoaaGreat
open Go.Proofs.Ip Go.Proofs.Pt Go.Proofs.Pg Go.Proofs.Cd Go.RowKit Go.Shelf
theorem infoI2 : (Tryz.prog.info? 48).map (·.size) = some 2 := by kernel_rfl
set_option maxRecDepth 100000 in
set_option maxHeartbeats 1000000 in
theorem begun_A1 (st sk er : Int) (wk k : Nat) (S : List Nat) (C : List Int) (sv cv lv : Value) (l : List Cd.Inst) (b : Nat → Bool) (q : Nat → Nat → Nat) (op : Int) (arg : Nat) (w : World) (hl : Rd w 2 lv (cellsI l)) (hg : ∀ x ∈ l, goodI x) (hs : Rd w 1 sv (cellsU S)) (hc : Rd w 1 cv (cellsN C)) (hk : k < l.length) (hS : S.length ≤ 32) (hC : C.length ≤ 16) (hck : Cd.chk l = true) (hx : l[k] = (op, arg)) (f : FuncId) (fv1 : Value) (ho1 : fv1.oneCell' = true) (hW : ∀ w, Calls Tryz.prog 24 #[.int .i64 op] w fun e w' => e = .returned (.func (.func f) #[] #[]) ∧ w = w') (hI : ∀ w, Calls Tryz.prog 25 #[.int .i64 op] w fun e w' => e = .returned fv1 ∧ w = w') :
    Calls Tryz.prog 14 #[lv, .agg (thC st (k : Int) sv cv wk sk er), .agg (pg b q)] w (BegunR w (thC st (k : Int) sv cv wk sk er) (pg b q) op arg (.func (.func f) #[] #[]) fv1) := by
  have hn : l.length ≤ 128 := by
    have := hck; unfold Cd.chk at this; simp only [Bool.and_eq_true, decide_eq_true_eq] at this; omega
  have kC : ∀ w', Rd w' 2 lv (cellsI l) → Calls Tryz.prog 23 #[lv] w' fun e w2 => e = .returned (.bool true) ∧ New w' w2 := fun w' h => by
    have := Check_any lv l w' h hg
    rwa [hck] at this
  obtain ⟨lb, lo, ln, lcap, rfl, l1, l2, l3, l4, l5⟩ := hl.some (by rw [len_cellsI]; omega)
  have c0 : w.cell? ⟨lb, lo + k * 2, none⟩ = some (.int .i64 op) := by rw [l5 _ (by rw [len_cellsI]; omega), get_op l hk, hx]
  have c1 : w.cell? ⟨lb, lo + k * 2 + 1, none⟩ = some (.int .u64 (arg : Nat)) := by rw [Nat.add_assoc, l5 _ (by rw [len_cellsI]; omega), get_arg l hk, hx]
  have HL := Lib.hid hl
  have hln : ln = l.length := by rw [len_cellsI] at l1; omega
  have b0 : decide ((k : Int) < 0) = false := decide_eq_false (by omega)
  have b1 : decide (ln ≤ k) = false := decide_eq_false (by omega)
  have b1' : (k : Int) < (ln : Int) := by omega
  have b2 : (ln : Int) ≤ 128 := by omega
  obtain ⟨sa, sn, sc, rfl, s1, s2⟩ := id hs
  obtain ⟨ca, cn, cc, rfl, r1, r2⟩ := id hc
  rw [cellsU_len, Nat.mul_one] at s1
  rw [cellsN_len, Nat.mul_one] at r1
  have b3 : decide ((32 : Int) < (sn : Int)) = false := decide_eq_false (by omega)
  have b4 : decide ((16 : Int) < (cn : Int)) = false := decide_eq_false (by omega)
  have HC0 := Lib.hid c0
  have HC1 := Lib.hid c1
  have HLB := Lib.hid l4
  clear s2 r2 l1 l2 l3 l4 l5 c0 c1 hl hs hc hg hck hS hC hx hn hln s1 r1 hk
  have hv := Vars.nil w
  have q1 : ∀ w (f : FuncId) (a b : Array Value), (binOp .eql 55 (.func (.func f) a b) .nilFunc).run Tryz.prog w = .ok (.bool false) w := fun w f a b => run_eql_func w _ _ _ _ _ _ _ Tryz.underlying55
  have q2 : ∀ w, (binOp .eql 55 .nilFunc .nilFunc).run Tryz.prog w = .ok (.bool true) w := fun w => run_eql_nofunc w _ _ _ _ Tryz.underlying55
  have HO1 := Lib.hid ho1
  clear ho1
  show Calls Tryz.prog 14 #[.slice (some ⟨lb, lo, none⟩) ln lcap, .agg #[.int .i64 st, .int .i64 (k : Int), .slice sa sn sc, .slice ca cn cc, .int .u64 (wk : Nat), .int .i64 sk, .int .i64 er], .agg (pg b q)] w _
  go_enter Tryz.func14, Tryz.ntmps14
  go_wp2_with (first
    | ((with_reducible refine at_box (T := 28) (dst := some 4) ?_); refine wl_newb rfl #[.int .i64 st, .int .i64 (k : Int), .slice sa sn sc, .slice ca cn cc, .int .u64 (wk : Nat), .int .i64 sk, .int .i64 er] 28 (fun _ => rfl) ?_; intro b4 w2 hm2; replace hv := hv.madeAt hm2; clear hm2)
    | ((with_reducible refine at_box (T := 32) (dst := some 5) ?_); refine wl_newb rfl (pg b q) 32 (fun _ => rfl) ?_; intro b5 w2 hm2; replace hv := hv.madeAt hm2; clear hm2)
    | ((with_reducible refine at_load (T := 3) ?_); refine wl_ldc rfl _ _ rfl _ (hv.row (by first | exact .head _ | exact .tail _ (.head _) | exact .tail _ (.tail _ (.head _)) | exact .tail _ (.tail _ (.tail _ (.head _))) | exact .tail _ (.tail _ (.tail _ (.tail _ (.head _)))) | exact .tail _ (.tail _ (.tail _ (.tail _ (.tail _ (.head _))))) | exact .tail _ (.tail _ (.tail _ (.tail _ (.tail _ (.tail _ (.head _)))))) | exact .tail _ (.tail _ (.tail _ (.tail _ (.tail _ (.tail _ (.tail _ (.head _))))))))) _ Tryz.underlying3 rfl _ rfl ?_)
    | ((with_reducible refine at_load (T := 23) ?_); refine wl_ldc rfl _ _ rfl _ (hv.row (by first | exact .head _ | exact .tail _ (.head _) | exact .tail _ (.tail _ (.head _)) | exact .tail _ (.tail _ (.tail _ (.head _))) | exact .tail _ (.tail _ (.tail _ (.tail _ (.head _)))) | exact .tail _ (.tail _ (.tail _ (.tail _ (.tail _ (.head _))))) | exact .tail _ (.tail _ (.tail _ (.tail _ (.tail _ (.tail _ (.head _)))))) | exact .tail _ (.tail _ (.tail _ (.tail _ (.tail _ (.tail _ (.tail _ (.head _))))))))) _ Tryz.underlying23 rfl _ rfl ?_)
    | ((with_reducible refine at_load (T := 24) ?_); refine wl_ldc rfl _ _ rfl _ (hv.row (by first | exact .head _ | exact .tail _ (.head _) | exact .tail _ (.tail _ (.head _)) | exact .tail _ (.tail _ (.tail _ (.head _))) | exact .tail _ (.tail _ (.tail _ (.tail _ (.head _)))) | exact .tail _ (.tail _ (.tail _ (.tail _ (.tail _ (.head _))))) | exact .tail _ (.tail _ (.tail _ (.tail _ (.tail _ (.tail _ (.head _)))))) | exact .tail _ (.tail _ (.tail _ (.tail _ (.tail _ (.tail _ (.tail _ (.head _))))))))) _ Tryz.underlying24 rfl _ rfl ?_)
    | (go_at_call 23; (with_reducible refine (kC _ (HL.out.below hv.below)).mono ?_); rintro e w1 ⟨rfl, hn1⟩; replace hv := hv.new hn1; clear hn1))
  refine Any.wp_region_walk [⟨[1001], none⟩, ⟨[1000], none⟩, ⟨[], none⟩, ⟨[], none⟩, ⟨[1001], none⟩, ⟨[], none⟩, ⟨[], none⟩, ⟨[], none⟩, ⟨[], some 1⟩, ⟨[], none⟩] [.val, .val, .val, .val, .val, .val, .val, .val, .lay (deed #[.int .i64 st, .int .i64 (k : Int), .slice sa sn sc, .slice ca cn cc, .int .u64 (wk : Nat), .int .i64 sk, .int .i64 er] (pg b q) #[.int .i64 op, .int .u64 (arg : Nat), .slice none 0 0, .nilFunc, .nilFunc]), .pure] (by kernel_rfl) (by kernel_rfl) hv ?_
  simp only [List.length_cons, List.length_nil, Nat.zero_add, Any.someVals]
  iterate 10 apply Exists.intro
  repeat (first
    | (refine Any.E_off rfl ?_; simp only [Act.put, List.setIfInBounds_toArray, List.set_cons_succ, List.set_cons_zero])
    | (apply Any.E_pureq rfl rfl rfl
       case h => intro K hK; go_big_quiet_op; (refine hK _ ?_; rfl)
       case hr => exact fun _ => rfl
       simp only [Act.put, List.setIfInBounds_toArray, List.set_cons_succ, List.set_cons_zero])
    | (apply Any.E_val rfl rfl rfl rfl
       case h =>
         intro E' hA K hK
         first
           | ((with_reducible refine Any.at_qload (T := 28) ?_); refine Any.q_ldv 1001 hA (by decide) rfl rfl 7 _ Tryz.underlying28 rfl infoT (by decide) rfl ?_; refine hK _ ?_; rfl)
           | ((with_reducible refine Any.at_qload (T := 32) ?_); refine Any.q_ldv 1000 hA (by decide) rfl rfl 144 _ Tryz.underlying32 rfl infoPs (by decide) (size_pg b q) ?_; refine hK _ ?_; rfl)
           | ((with_reducible refine Any.at_qload (T := 3) ?_); refine Any.q_ldc 1001 hA (by decide) rfl rfl _ Tryz.underlying3 rfl _ rfl ?_; refine hK _ ?_; rfl)
           | ((with_reducible refine Any.at_qload (T := 48) ?_); refine Any.q_old2 rfl HLB.out _ Tryz.underlying48 rfl infoI2 _ _ HC0.out HC1.out ?_; refine hK _ ?_; rfl)
           | ((with_reducible refine Any.at_qbuild (T := 58) ?_); refine Any.q_build [(0, .agg #[.int .i64 st, .int .i64 (k : Int), .slice sa sn sc, .slice ca cn cc, .int .u64 (wk : Nat), .int .i64 sk, .int .i64 er]), (1, .agg (pg b q)), (2, .agg #[.int .i64 op, .int .u64 (arg : Nat)])] rfl (built_deed #[.int .i64 st, .int .i64 (k : Int), .slice sa sn sc, .slice ca cn cc, .int .u64 (wk : Nat), .int .i64 sk, .int .i64 er] (pg b q) rfl (size_pg b q) op arg) ?_; refine hK _ ?_; rfl)
           | (go_big_quiet_op; first
             | (refine hK _ ?_; rfl)
             | (refine ⟨_, fun _ _ => rfl, ?_⟩; refine hK _ ?_; rfl)
             | (apply Exists.intro; refine ⟨fun w1 hw1 => ?_, ?_⟩; · (first
                 | fail)
                refine hK _ ?_; rfl))
       case hD => rfl
       simp only [Act.put, List.setIfInBounds_toArray, List.set_cons_succ, List.set_cons_zero])
    | ((with_reducible refine Any.at_ealloc ?_); refine Any.E_lay rfl rfl rfl (fun _ => rfl) ?_; intro B; simp only [Act.put, List.setIfInBounds_toArray, List.set_cons_succ, List.set_cons_zero])
    | ((with_reducible refine Any.at_ebox ?_); refine Any.E_lay rfl rfl rfl (fun _ => rfl) ?_; intro B; simp only [Act.put, List.setIfInBounds_toArray, List.set_cons_succ, List.set_cons_zero]))
  try any_goals exact undef
  refine Any.E_nil ?_
  intro w9 hE9
  replace hv : Vars w w9 [(B, (deed #[.int .i64 st, .int .i64 (k : Int), .slice sa sn sc, .slice ca cn cc, .int .u64 (wk : Nat), .int .i64 sk, .int .i64 er] (pg b q) #[.int .i64 op, .int .u64 (arg : Nat), .slice none 0 0, .nilFunc, .nilFunc])), (b5, pg b q), (b4, #[.int .i64 st, .int .i64 (k : Int), .slice sa sn sc, .slice ca cn cc, .int .u64 (wk : Nat), .int .i64 sk, .int .i64 er])] := hE9.vars [1, 1000, 1001] (by decide)
  clear hE9
  go_wp2
  refine Any.wp_region_walk [⟨[], none⟩, ⟨[], none⟩, ⟨[], none⟩, ⟨[], none⟩, ⟨[], none⟩, ⟨[], none⟩, ⟨[1000], none⟩, ⟨[], none⟩, ⟨[], none⟩, ⟨[], none⟩, ⟨[], none⟩, ⟨[], none⟩, ⟨[1000], none⟩, ⟨[], none⟩, ⟨[], none⟩, ⟨[], none⟩, ⟨[1000], some 1000⟩, ⟨[], none⟩, ⟨[], none⟩, ⟨[1000], some 1000⟩] [.val, .val, .val, .val, .val, .val, .val, .val, .val, .val, .val, .val, .val, .val, .val, .val, .put, .val, .val, .put] (by kernel_rfl) (by kernel_rfl) hv ?_
  simp only [List.length_cons, List.length_nil, Nat.zero_add, Any.someVals]
  iterate 20 apply Exists.intro
  repeat (first
    | (refine Any.E_off rfl ?_; simp only [Act.put, List.setIfInBounds_toArray, List.set_cons_succ, List.set_cons_zero])
    | (apply Any.E_pureq rfl rfl rfl
       case h => intro K hK; go_big_quiet_op; (refine hK _ ?_; rfl)
       case hr => exact fun _ => rfl
       simp only [Act.put, List.setIfInBounds_toArray, List.set_cons_succ, List.set_cons_zero])
    | (apply Any.E_val rfl rfl rfl rfl
       case h =>
         intro E' hA K hK
         first
           | ((with_reducible refine Any.at_qload (T := 3) ?_); refine Any.q_ldc 1000 hA (by decide) rfl rfl _ Tryz.underlying3 rfl (.int .i64 op) (deed_hi rfl (size_pg b q) 0) ?_; refine hK _ ?_; rfl)
           | (go_big_quiet_op; first
             | (refine hK _ ?_; rfl)
             | (refine ⟨_, fun _ _ => rfl, ?_⟩; refine hK _ ?_; rfl)
             | (apply Exists.intro; refine ⟨fun w1 hw1 => ?_, ?_⟩; · (first
                 | (go_at_call 25; exact Any.calls_VEq (hI _) hw1)
                 | (go_at_call 24; exact Any.calls_VEq (hW _) hw1))
                refine hK _ ?_; rfl))
       case hD => rfl
       simp only [Act.put, List.setIfInBounds_toArray, List.set_cons_succ, List.set_cons_zero])
    | ((with_reducible refine Any.at_ealloc ?_); refine Any.E_lay rfl rfl rfl (fun _ => rfl) ?_; intro B; simp only [Act.put, List.setIfInBounds_toArray, List.set_cons_succ, List.set_cons_zero])
    | ((with_reducible refine Any.at_estore (T := 55) ?_); refine Any.E_putc (T := 55) rfl rfl rfl rfl rfl rfl (by kernel_rfl) rfl (by rw [deed_size rfl (size_pg b q)]; simp) ?_; simp only [Act.put, List.setIfInBounds_toArray, List.set_cons_succ, List.set_cons_zero])
    | ((with_reducible refine Any.at_estore (T := 56) ?_); refine Any.E_putc (T := 56) rfl rfl rfl rfl rfl rfl (by kernel_rfl) HO1.out (by rw [Array.size_setIfInBounds, deed_size rfl (size_pg b q)]; simp) ?_; simp only [Act.put, List.setIfInBounds_toArray, List.set_cons_succ, List.set_cons_zero]))
  try any_goals exact undef
  refine Any.E_nil ?_
  intro w9 hE9
  replace hv : Vars w w9 [(B, ((deed #[.int .i64 st, .int .i64 (k : Int), .slice sa sn sc, .slice ca cn cc, .int .u64 (wk : Nat), .int .i64 sk, .int .i64 er] (pg b q) #[.int .i64 op, .int .u64 (arg : Nat), .slice none 0 0, .nilFunc, .nilFunc]).setIfInBounds 154 (.func (.func f) #[] #[])).setIfInBounds 155 fv1), (b5, pg b q), (b4, #[.int .i64 st, .int .i64 (k : Int), .slice sa sn sc, .slice ca cn cc, .int .u64 (wk : Nat), .int .i64 sk, .int .i64 er])] := hE9.vars [1000, 1001, 1002] (by decide)
  clear hE9
  rw [deed_set3 rfl (size_pg b q), deed_set4 rfl (size_pg b q)] at hv
  simp only [List.setIfInBounds_toArray, List.set_cons_succ, List.set_cons_zero] at hv
  go_wp2_with (first
    | ((with_reducible refine at_load (T := 55) ?_); refine wl_ldc rfl _ _ rfl _ (hv.row (by first | exact .head _ | exact .tail _ (.head _) | exact .tail _ (.tail _ (.head _)) | exact .tail _ (.tail _ (.tail _ (.head _))) | exact .tail _ (.tail _ (.tail _ (.tail _ (.head _)))) | exact .tail _ (.tail _ (.tail _ (.tail _ (.tail _ (.head _))))) | exact .tail _ (.tail _ (.tail _ (.tail _ (.tail _ (.tail _ (.head _)))))) | exact .tail _ (.tail _ (.tail _ (.tail _ (.tail _ (.tail _ (.tail _ (.head _))))))))) _ Tryz.underlying55 rfl (.func (.func f) #[] #[]) (deed_hi rfl (size_pg b q) 3) ?_))
  go_ret2
  exact ⟨_, rfl, hv.below, (hv.rows _ (by first | exact .head _ | exact .tail _ (.head _))).2.2, hv.row (by first | exact .head _ | exact .tail _ (.head _)), hv.sft (by first | exact .head _ | exact .tail _ (.head _))⟩
set_option maxRecDepth 100000 in
set_option maxHeartbeats 1000000 in
theorem begun_A2 (st sk er : Int) (wk k : Nat) (S : List Nat) (C : List Int) (sv cv lv : Value) (l : List Cd.Inst) (b : Nat → Bool) (q : Nat → Nat → Nat) (op : Int) (arg : Nat) (w : World) (hl : Rd w 2 lv (cellsI l)) (hg : ∀ x ∈ l, goodI x) (hs : Rd w 1 sv (cellsU S)) (hc : Rd w 1 cv (cellsN C)) (hk : k < l.length) (hS : S.length ≤ 32) (hC : C.length ≤ 16) (hck : Cd.chk l = true) (hx : l[k] = (op, arg)) (f : FuncId) (fv1 : Value) (ho1 : fv1.oneCell' = true) (hW : ∀ w, Calls Tryz.prog 24 #[.int .i64 op] w fun e w' => e = .returned (.func (.func 76) #[] #[.pointer (some ⟨w.heap.size, 0, none⟩)]) ∧ w' = w.alloc (.cells #[.func (.func f) #[] #[]] 82)) (hI : ∀ w, Calls Tryz.prog 25 #[.int .i64 op] w fun e w' => e = .returned fv1 ∧ w = w') :
    Calls Tryz.prog 14 #[lv, .agg (thC st (k : Int) sv cv wk sk er), .agg (pg b q)] w (BegunT w (thC st (k : Int) sv cv wk sk er) (pg b q) op arg 76 f fv1) := by
  have hn : l.length ≤ 128 := by
    have := hck; unfold Cd.chk at this; simp only [Bool.and_eq_true, decide_eq_true_eq] at this; omega
  have kC : ∀ w', Rd w' 2 lv (cellsI l) → Calls Tryz.prog 23 #[lv] w' fun e w2 => e = .returned (.bool true) ∧ New w' w2 := fun w' h => by
    have := Check_any lv l w' h hg
    rwa [hck] at this
  obtain ⟨lb, lo, ln, lcap, rfl, l1, l2, l3, l4, l5⟩ := hl.some (by rw [len_cellsI]; omega)
  have c0 : w.cell? ⟨lb, lo + k * 2, none⟩ = some (.int .i64 op) := by rw [l5 _ (by rw [len_cellsI]; omega), get_op l hk, hx]
  have c1 : w.cell? ⟨lb, lo + k * 2 + 1, none⟩ = some (.int .u64 (arg : Nat)) := by rw [Nat.add_assoc, l5 _ (by rw [len_cellsI]; omega), get_arg l hk, hx]
  have HL := Lib.hid hl
  have hln : ln = l.length := by rw [len_cellsI] at l1; omega
  have b0 : decide ((k : Int) < 0) = false := decide_eq_false (by omega)
  have b1 : decide (ln ≤ k) = false := decide_eq_false (by omega)
  have b1' : (k : Int) < (ln : Int) := by omega
  have b2 : (ln : Int) ≤ 128 := by omega
  obtain ⟨sa, sn, sc, rfl, s1, s2⟩ := id hs
  obtain ⟨ca, cn, cc, rfl, r1, r2⟩ := id hc
  rw [cellsU_len, Nat.mul_one] at s1
  rw [cellsN_len, Nat.mul_one] at r1
  have b3 : decide ((32 : Int) < (sn : Int)) = false := decide_eq_false (by omega)
  have b4 : decide ((16 : Int) < (cn : Int)) = false := decide_eq_false (by omega)
  have HC0 := Lib.hid c0
  have HC1 := Lib.hid c1
  have HLB := Lib.hid l4
  clear s2 r2 l1 l2 l3 l4 l5 c0 c1 hl hs hc hg hck hS hC hx hn hln s1 r1 hk
  have hv := Vars.nil w
  have q1 : ∀ w (f : FuncId) (a b : Array Value), (binOp .eql 55 (.func (.func f) a b) .nilFunc).run Tryz.prog w = .ok (.bool false) w := fun w f a b => run_eql_func w _ _ _ _ _ _ _ Tryz.underlying55
  have q2 : ∀ w, (binOp .eql 55 .nilFunc .nilFunc).run Tryz.prog w = .ok (.bool true) w := fun w => run_eql_nofunc w _ _ _ _ Tryz.underlying55
  have HO1 := Lib.hid ho1
  clear ho1
  show Calls Tryz.prog 14 #[.slice (some ⟨lb, lo, none⟩) ln lcap, .agg #[.int .i64 st, .int .i64 (k : Int), .slice sa sn sc, .slice ca cn cc, .int .u64 (wk : Nat), .int .i64 sk, .int .i64 er], .agg (pg b q)] w _
  go_enter Tryz.func14, Tryz.ntmps14
  go_wp2_with (first
    | ((with_reducible refine at_box (T := 28) (dst := some 4) ?_); refine wl_newb rfl #[.int .i64 st, .int .i64 (k : Int), .slice sa sn sc, .slice ca cn cc, .int .u64 (wk : Nat), .int .i64 sk, .int .i64 er] 28 (fun _ => rfl) ?_; intro b4 w2 hm2; replace hv := hv.madeAt hm2; clear hm2)
    | ((with_reducible refine at_box (T := 32) (dst := some 5) ?_); refine wl_newb rfl (pg b q) 32 (fun _ => rfl) ?_; intro b5 w2 hm2; replace hv := hv.madeAt hm2; clear hm2)
    | ((with_reducible refine at_load (T := 3) ?_); refine wl_ldc rfl _ _ rfl _ (hv.row (by first | exact .head _ | exact .tail _ (.head _) | exact .tail _ (.tail _ (.head _)) | exact .tail _ (.tail _ (.tail _ (.head _))) | exact .tail _ (.tail _ (.tail _ (.tail _ (.head _)))) | exact .tail _ (.tail _ (.tail _ (.tail _ (.tail _ (.head _))))) | exact .tail _ (.tail _ (.tail _ (.tail _ (.tail _ (.tail _ (.head _)))))) | exact .tail _ (.tail _ (.tail _ (.tail _ (.tail _ (.tail _ (.tail _ (.head _))))))))) _ Tryz.underlying3 rfl _ rfl ?_)
    | ((with_reducible refine at_load (T := 23) ?_); refine wl_ldc rfl _ _ rfl _ (hv.row (by first | exact .head _ | exact .tail _ (.head _) | exact .tail _ (.tail _ (.head _)) | exact .tail _ (.tail _ (.tail _ (.head _))) | exact .tail _ (.tail _ (.tail _ (.tail _ (.head _)))) | exact .tail _ (.tail _ (.tail _ (.tail _ (.tail _ (.head _))))) | exact .tail _ (.tail _ (.tail _ (.tail _ (.tail _ (.tail _ (.head _)))))) | exact .tail _ (.tail _ (.tail _ (.tail _ (.tail _ (.tail _ (.tail _ (.head _))))))))) _ Tryz.underlying23 rfl _ rfl ?_)
    | ((with_reducible refine at_load (T := 24) ?_); refine wl_ldc rfl _ _ rfl _ (hv.row (by first | exact .head _ | exact .tail _ (.head _) | exact .tail _ (.tail _ (.head _)) | exact .tail _ (.tail _ (.tail _ (.head _))) | exact .tail _ (.tail _ (.tail _ (.tail _ (.head _)))) | exact .tail _ (.tail _ (.tail _ (.tail _ (.tail _ (.head _))))) | exact .tail _ (.tail _ (.tail _ (.tail _ (.tail _ (.tail _ (.head _)))))) | exact .tail _ (.tail _ (.tail _ (.tail _ (.tail _ (.tail _ (.tail _ (.head _))))))))) _ Tryz.underlying24 rfl _ rfl ?_)
    | (go_at_call 23; (with_reducible refine (kC _ (HL.out.below hv.below)).mono ?_); rintro e w1 ⟨rfl, hn1⟩; replace hv := hv.new hn1; clear hn1))
  refine Any.wp_region_walk [⟨[1001], none⟩, ⟨[1000], none⟩, ⟨[], none⟩, ⟨[], none⟩, ⟨[1001], none⟩, ⟨[], none⟩, ⟨[], none⟩, ⟨[], none⟩, ⟨[], some 1⟩, ⟨[], none⟩] [.val, .val, .val, .val, .val, .val, .val, .val, .lay (deed #[.int .i64 st, .int .i64 (k : Int), .slice sa sn sc, .slice ca cn cc, .int .u64 (wk : Nat), .int .i64 sk, .int .i64 er] (pg b q) #[.int .i64 op, .int .u64 (arg : Nat), .slice none 0 0, .nilFunc, .nilFunc]), .pure] (by kernel_rfl) (by kernel_rfl) hv ?_
  simp only [List.length_cons, List.length_nil, Nat.zero_add, Any.someVals]
  iterate 10 apply Exists.intro
  repeat (first
    | (refine Any.E_off rfl ?_; simp only [Act.put, List.setIfInBounds_toArray, List.set_cons_succ, List.set_cons_zero])
    | (apply Any.E_pureq rfl rfl rfl
       case h => intro K hK; go_big_quiet_op; (refine hK _ ?_; rfl)
       case hr => exact fun _ => rfl
       simp only [Act.put, List.setIfInBounds_toArray, List.set_cons_succ, List.set_cons_zero])
    | (apply Any.E_val rfl rfl rfl rfl
       case h =>
         intro E' hA K hK
         first
           | ((with_reducible refine Any.at_qload (T := 28) ?_); refine Any.q_ldv 1001 hA (by decide) rfl rfl 7 _ Tryz.underlying28 rfl infoT (by decide) rfl ?_; refine hK _ ?_; rfl)
           | ((with_reducible refine Any.at_qload (T := 32) ?_); refine Any.q_ldv 1000 hA (by decide) rfl rfl 144 _ Tryz.underlying32 rfl infoPs (by decide) (size_pg b q) ?_; refine hK _ ?_; rfl)
           | ((with_reducible refine Any.at_qload (T := 3) ?_); refine Any.q_ldc 1001 hA (by decide) rfl rfl _ Tryz.underlying3 rfl _ rfl ?_; refine hK _ ?_; rfl)
           | ((with_reducible refine Any.at_qload (T := 48) ?_); refine Any.q_old2 rfl HLB.out _ Tryz.underlying48 rfl infoI2 _ _ HC0.out HC1.out ?_; refine hK _ ?_; rfl)
           | ((with_reducible refine Any.at_qbuild (T := 58) ?_); refine Any.q_build [(0, .agg #[.int .i64 st, .int .i64 (k : Int), .slice sa sn sc, .slice ca cn cc, .int .u64 (wk : Nat), .int .i64 sk, .int .i64 er]), (1, .agg (pg b q)), (2, .agg #[.int .i64 op, .int .u64 (arg : Nat)])] rfl (built_deed #[.int .i64 st, .int .i64 (k : Int), .slice sa sn sc, .slice ca cn cc, .int .u64 (wk : Nat), .int .i64 sk, .int .i64 er] (pg b q) rfl (size_pg b q) op arg) ?_; refine hK _ ?_; rfl)
           | (go_big_quiet_op; first
             | (refine hK _ ?_; rfl)
             | (refine ⟨_, fun _ _ => rfl, ?_⟩; refine hK _ ?_; rfl)
             | (apply Exists.intro; refine ⟨fun w1 hw1 => ?_, ?_⟩; · (first
                 | fail)
                refine hK _ ?_; rfl))
       case hD => rfl
       simp only [Act.put, List.setIfInBounds_toArray, List.set_cons_succ, List.set_cons_zero])
    | ((with_reducible refine Any.at_ealloc ?_); refine Any.E_lay rfl rfl rfl (fun _ => rfl) ?_; intro B; simp only [Act.put, List.setIfInBounds_toArray, List.set_cons_succ, List.set_cons_zero])
    | ((with_reducible refine Any.at_ebox ?_); refine Any.E_lay rfl rfl rfl (fun _ => rfl) ?_; intro B; simp only [Act.put, List.setIfInBounds_toArray, List.set_cons_succ, List.set_cons_zero]))
  try any_goals exact undef
  refine Any.E_nil ?_
  intro w9 hE9
  replace hv : Vars w w9 [(B, (deed #[.int .i64 st, .int .i64 (k : Int), .slice sa sn sc, .slice ca cn cc, .int .u64 (wk : Nat), .int .i64 sk, .int .i64 er] (pg b q) #[.int .i64 op, .int .u64 (arg : Nat), .slice none 0 0, .nilFunc, .nilFunc])), (b5, pg b q), (b4, #[.int .i64 st, .int .i64 (k : Int), .slice sa sn sc, .slice ca cn cc, .int .u64 (wk : Nat), .int .i64 sk, .int .i64 er])] := hE9.vars [1, 1000, 1001] (by decide)
  clear hE9
  go_wp2
  refine Any.wp_region_walk [⟨[], none⟩, ⟨[], none⟩, ⟨[], none⟩, ⟨[], none⟩, ⟨[], none⟩, ⟨[], none⟩, ⟨[1000], none⟩, ⟨[], some 2⟩, ⟨[], none⟩, ⟨[], none⟩, ⟨[], none⟩, ⟨[], none⟩, ⟨[1000], none⟩, ⟨[], none⟩, ⟨[], none⟩, ⟨[], none⟩, ⟨[1000], some 1000⟩, ⟨[], none⟩, ⟨[], none⟩, ⟨[1000], some 1000⟩] [.val, .val, .val, .val, .val, .val, .val, .own (Any.laid (fun B => .func (.func 76) #[] #[.pointer (some ⟨B, 0, none⟩)]) #[.func (.func f) #[] #[]]), .val, .val, .val, .val, .val, .val, .val, .val, .put, .val, .val, .put] (by kernel_rfl) (by kernel_rfl) hv ?_
  simp only [List.length_cons, List.length_nil, Nat.zero_add, Any.someVals]
  iterate 20 apply Exists.intro
  repeat (first
    | (refine Any.E_off rfl ?_; simp only [Act.put, List.setIfInBounds_toArray, List.set_cons_succ, List.set_cons_zero])
    | (apply Any.E_pureq rfl rfl rfl
       case h => intro K hK; go_big_quiet_op; (refine hK _ ?_; rfl)
       case hr => exact fun _ => rfl
       simp only [Act.put, List.setIfInBounds_toArray, List.set_cons_succ, List.set_cons_zero])
    | (apply Any.E_val rfl rfl rfl rfl
       case h =>
         intro E' hA K hK
         first
           | ((with_reducible refine Any.at_qload (T := 3) ?_); refine Any.q_ldc 1000 hA (by decide) rfl rfl _ Tryz.underlying3 rfl (.int .i64 op) (deed_hi rfl (size_pg b q) 0) ?_; refine hK _ ?_; rfl)
           | (go_big_quiet_op; first
             | (refine hK _ ?_; rfl)
             | (refine ⟨_, fun _ _ => rfl, ?_⟩; refine hK _ ?_; rfl)
             | (apply Exists.intro; refine ⟨fun w1 hw1 => ?_, ?_⟩; · (first
                 | (go_at_call 25; exact Any.calls_VEq (hI _) hw1))
                refine hK _ ?_; rfl))
       case hD => rfl
       simp only [Act.put, List.setIfInBounds_toArray, List.set_cons_succ, List.set_cons_zero])
    | ((with_reducible refine Any.at_ealloc ?_); refine Any.E_lay rfl rfl rfl (fun _ => rfl) ?_; intro B; simp only [Act.put, List.setIfInBounds_toArray, List.set_cons_succ, List.set_cons_zero])
    | ((with_reducible refine Any.at_estore (T := 55) ?_); refine Any.E_putc (T := 55) rfl rfl rfl rfl rfl rfl (by kernel_rfl) rfl (by rw [deed_size rfl (size_pg b q)]; simp) ?_; simp only [Act.put, List.setIfInBounds_toArray, List.set_cons_succ, List.set_cons_zero])
    | ((with_reducible refine Any.at_estore (T := 56) ?_); refine Any.E_putc (T := 56) rfl rfl rfl rfl rfl rfl (by kernel_rfl) HO1.out (by rw [Array.size_setIfInBounds, deed_size rfl (size_pg b q)]; simp) ?_; simp only [Act.put, List.setIfInBounds_toArray, List.set_cons_succ, List.set_cons_zero])
    | ((with_reducible refine Any.at_ecall ?_); refine Any.E_calllaid rfl rfl rfl (enters_of Tryz.func24 (by kernel_rfl) rfl) rfl [.int .i64 op] rfl hW ?_; intro B2; simp only [Act.put, List.setIfInBounds_toArray, List.set_cons_succ, List.set_cons_zero]))
  try any_goals exact undef
  refine Any.E_nil ?_
  intro w9 hE9
  replace hv : Vars w w9 [(B, ((deed #[.int .i64 st, .int .i64 (k : Int), .slice sa sn sc, .slice ca cn cc, .int .u64 (wk : Nat), .int .i64 sk, .int .i64 er] (pg b q) #[.int .i64 op, .int .u64 (arg : Nat), .slice none 0 0, .nilFunc, .nilFunc]).setIfInBounds 154 (.func (.func 76) #[] #[.pointer (some ⟨B2, 0, none⟩)])).setIfInBounds 155 fv1), (b5, pg b q), (b4, #[.int .i64 st, .int .i64 (k : Int), .slice sa sn sc, .slice ca cn cc, .int .u64 (wk : Nat), .int .i64 sk, .int .i64 er]), (B2, #[.func (.func f) #[] #[]])] := hE9.vars [1000, 1001, 1002, 2] (by decide)
  clear hE9
  rw [deed_set3 rfl (size_pg b q), deed_set4 rfl (size_pg b q)] at hv
  simp only [List.setIfInBounds_toArray, List.set_cons_succ, List.set_cons_zero] at hv
  go_wp2_with (first
    | ((with_reducible refine at_load (T := 55) ?_); refine wl_ldc rfl _ _ rfl _ (hv.row (by first | exact .head _ | exact .tail _ (.head _) | exact .tail _ (.tail _ (.head _)) | exact .tail _ (.tail _ (.tail _ (.head _))) | exact .tail _ (.tail _ (.tail _ (.tail _ (.head _)))) | exact .tail _ (.tail _ (.tail _ (.tail _ (.tail _ (.head _))))) | exact .tail _ (.tail _ (.tail _ (.tail _ (.tail _ (.tail _ (.head _)))))) | exact .tail _ (.tail _ (.tail _ (.tail _ (.tail _ (.tail _ (.tail _ (.head _))))))))) _ Tryz.underlying55 rfl (.func (.func 76) #[] #[.pointer (some ⟨B2, 0, none⟩)]) (deed_hi rfl (size_pg b q) 3) ?_))
  go_ret2
  exact ⟨_, ⟨_, rfl, hv.below, (hv.rows _ (by first | exact .head _ | exact .tail _ (.head _))).2.2, hv.row (by first | exact .head _ | exact .tail _ (.head _)), hv.sft (by first | exact .head _ | exact .tail _ (.head _))⟩, fr_row hv (by first | exact .head _ | exact .tail _ (.head _) | exact .tail _ (.tail _ (.head _)) | exact .tail _ (.tail _ (.tail _ (.head _))) | exact .tail _ (.tail _ (.tail _ (.tail _ (.head _)))))⟩
set_option maxRecDepth 100000 in
set_option maxHeartbeats 1000000 in
theorem begun_B1 (st sk er : Int) (wk k : Nat) (S : List Nat) (C : List Int) (sv cv lv : Value) (l : List Cd.Inst) (b : Nat → Bool) (q : Nat → Nat → Nat) (op : Int) (arg : Nat) (w : World) (hl : Rd w 2 lv (cellsI l)) (hg : ∀ x ∈ l, goodI x) (hs : Rd w 1 sv (cellsU S)) (hc : Rd w 1 cv (cellsN C)) (hk : k < l.length) (hS : S.length ≤ 32) (hC : C.length ≤ 16) (hck : Cd.chk l = true) (hx : l[k] = (op, arg)) (fv1 fv2 : Value) (ho1 : fv1.oneCell' = true) (ho2 : fv2.oneCell' = true) (hW : ∀ w, Calls Tryz.prog 24 #[.int .i64 op] w fun e w' => e = .returned .nilFunc ∧ w = w') (hI : ∀ w, Calls Tryz.prog 25 #[.int .i64 op] w fun e w' => e = .returned fv1 ∧ w = w') (hP : ∀ w, Calls Tryz.prog 26 #[.int .i64 op] w fun e w' => e = .returned fv2 ∧ w = w') :
    Calls Tryz.prog 14 #[lv, .agg (thC st (k : Int) sv cv wk sk er), .agg (pg b q)] w (BegunR w (thC st (k : Int) sv cv wk sk er) (pg b q) op arg fv2 fv1) := by
  have hn : l.length ≤ 128 := by
    have := hck; unfold Cd.chk at this; simp only [Bool.and_eq_true, decide_eq_true_eq] at this; omega
  have kC : ∀ w', Rd w' 2 lv (cellsI l) → Calls Tryz.prog 23 #[lv] w' fun e w2 => e = .returned (.bool true) ∧ New w' w2 := fun w' h => by
    have := Check_any lv l w' h hg
    rwa [hck] at this
  obtain ⟨lb, lo, ln, lcap, rfl, l1, l2, l3, l4, l5⟩ := hl.some (by rw [len_cellsI]; omega)
  have c0 : w.cell? ⟨lb, lo + k * 2, none⟩ = some (.int .i64 op) := by rw [l5 _ (by rw [len_cellsI]; omega), get_op l hk, hx]
  have c1 : w.cell? ⟨lb, lo + k * 2 + 1, none⟩ = some (.int .u64 (arg : Nat)) := by rw [Nat.add_assoc, l5 _ (by rw [len_cellsI]; omega), get_arg l hk, hx]
  have HL := Lib.hid hl
  have hln : ln = l.length := by rw [len_cellsI] at l1; omega
  have b0 : decide ((k : Int) < 0) = false := decide_eq_false (by omega)
  have b1 : decide (ln ≤ k) = false := decide_eq_false (by omega)
  have b1' : (k : Int) < (ln : Int) := by omega
  have b2 : (ln : Int) ≤ 128 := by omega
  obtain ⟨sa, sn, sc, rfl, s1, s2⟩ := id hs
  obtain ⟨ca, cn, cc, rfl, r1, r2⟩ := id hc
  rw [cellsU_len, Nat.mul_one] at s1
  rw [cellsN_len, Nat.mul_one] at r1
  have b3 : decide ((32 : Int) < (sn : Int)) = false := decide_eq_false (by omega)
  have b4 : decide ((16 : Int) < (cn : Int)) = false := decide_eq_false (by omega)
  have HC0 := Lib.hid c0
  have HC1 := Lib.hid c1
  have HLB := Lib.hid l4
  clear s2 r2 l1 l2 l3 l4 l5 c0 c1 hl hs hc hg hck hS hC hx hn hln s1 r1 hk
  have hv := Vars.nil w
  have q1 : ∀ w (f : FuncId) (a b : Array Value), (binOp .eql 55 (.func (.func f) a b) .nilFunc).run Tryz.prog w = .ok (.bool false) w := fun w f a b => run_eql_func w _ _ _ _ _ _ _ Tryz.underlying55
  have q2 : ∀ w, (binOp .eql 55 .nilFunc .nilFunc).run Tryz.prog w = .ok (.bool true) w := fun w => run_eql_nofunc w _ _ _ _ Tryz.underlying55
  have HO1 := Lib.hid ho1
  clear ho1
  have HO2 := Lib.hid ho2
  clear ho2
  show Calls Tryz.prog 14 #[.slice (some ⟨lb, lo, none⟩) ln lcap, .agg #[.int .i64 st, .int .i64 (k : Int), .slice sa sn sc, .slice ca cn cc, .int .u64 (wk : Nat), .int .i64 sk, .int .i64 er], .agg (pg b q)] w _
  go_enter Tryz.func14, Tryz.ntmps14
  go_wp2_with (first
    | ((with_reducible refine at_box (T := 28) (dst := some 4) ?_); refine wl_newb rfl #[.int .i64 st, .int .i64 (k : Int), .slice sa sn sc, .slice ca cn cc, .int .u64 (wk : Nat), .int .i64 sk, .int .i64 er] 28 (fun _ => rfl) ?_; intro b4 w2 hm2; replace hv := hv.madeAt hm2; clear hm2)
    | ((with_reducible refine at_box (T := 32) (dst := some 5) ?_); refine wl_newb rfl (pg b q) 32 (fun _ => rfl) ?_; intro b5 w2 hm2; replace hv := hv.madeAt hm2; clear hm2)
    | ((with_reducible refine at_load (T := 3) ?_); refine wl_ldc rfl _ _ rfl _ (hv.row (by first | exact .head _ | exact .tail _ (.head _) | exact .tail _ (.tail _ (.head _)) | exact .tail _ (.tail _ (.tail _ (.head _))) | exact .tail _ (.tail _ (.tail _ (.tail _ (.head _)))) | exact .tail _ (.tail _ (.tail _ (.tail _ (.tail _ (.head _))))) | exact .tail _ (.tail _ (.tail _ (.tail _ (.tail _ (.tail _ (.head _)))))) | exact .tail _ (.tail _ (.tail _ (.tail _ (.tail _ (.tail _ (.tail _ (.head _))))))))) _ Tryz.underlying3 rfl _ rfl ?_)
    | ((with_reducible refine at_load (T := 23) ?_); refine wl_ldc rfl _ _ rfl _ (hv.row (by first | exact .head _ | exact .tail _ (.head _) | exact .tail _ (.tail _ (.head _)) | exact .tail _ (.tail _ (.tail _ (.head _))) | exact .tail _ (.tail _ (.tail _ (.tail _ (.head _)))) | exact .tail _ (.tail _ (.tail _ (.tail _ (.tail _ (.head _))))) | exact .tail _ (.tail _ (.tail _ (.tail _ (.tail _ (.tail _ (.head _)))))) | exact .tail _ (.tail _ (.tail _ (.tail _ (.tail _ (.tail _ (.tail _ (.head _))))))))) _ Tryz.underlying23 rfl _ rfl ?_)
    | ((with_reducible refine at_load (T := 24) ?_); refine wl_ldc rfl _ _ rfl _ (hv.row (by first | exact .head _ | exact .tail _ (.head _) | exact .tail _ (.tail _ (.head _)) | exact .tail _ (.tail _ (.tail _ (.head _))) | exact .tail _ (.tail _ (.tail _ (.tail _ (.head _)))) | exact .tail _ (.tail _ (.tail _ (.tail _ (.tail _ (.head _))))) | exact .tail _ (.tail _ (.tail _ (.tail _ (.tail _ (.tail _ (.head _)))))) | exact .tail _ (.tail _ (.tail _ (.tail _ (.tail _ (.tail _ (.tail _ (.head _))))))))) _ Tryz.underlying24 rfl _ rfl ?_)
    | (go_at_call 23; (with_reducible refine (kC _ (HL.out.below hv.below)).mono ?_); rintro e w1 ⟨rfl, hn1⟩; replace hv := hv.new hn1; clear hn1))
  refine Any.wp_region_walk [⟨[1001], none⟩, ⟨[1000], none⟩, ⟨[], none⟩, ⟨[], none⟩, ⟨[1001], none⟩, ⟨[], none⟩, ⟨[], none⟩, ⟨[], none⟩, ⟨[], some 1⟩, ⟨[], none⟩] [.val, .val, .val, .val, .val, .val, .val, .val, .lay (deed #[.int .i64 st, .int .i64 (k : Int), .slice sa sn sc, .slice ca cn cc, .int .u64 (wk : Nat), .int .i64 sk, .int .i64 er] (pg b q) #[.int .i64 op, .int .u64 (arg : Nat), .slice none 0 0, .nilFunc, .nilFunc]), .pure] (by kernel_rfl) (by kernel_rfl) hv ?_
  simp only [List.length_cons, List.length_nil, Nat.zero_add, Any.someVals]
  iterate 10 apply Exists.intro
  repeat (first
    | (refine Any.E_off rfl ?_; simp only [Act.put, List.setIfInBounds_toArray, List.set_cons_succ, List.set_cons_zero])
    | (apply Any.E_pureq rfl rfl rfl
       case h => intro K hK; go_big_quiet_op; (refine hK _ ?_; rfl)
       case hr => exact fun _ => rfl
       simp only [Act.put, List.setIfInBounds_toArray, List.set_cons_succ, List.set_cons_zero])
    | (apply Any.E_val rfl rfl rfl rfl
       case h =>
         intro E' hA K hK
         first
           | ((with_reducible refine Any.at_qload (T := 28) ?_); refine Any.q_ldv 1001 hA (by decide) rfl rfl 7 _ Tryz.underlying28 rfl infoT (by decide) rfl ?_; refine hK _ ?_; rfl)
           | ((with_reducible refine Any.at_qload (T := 32) ?_); refine Any.q_ldv 1000 hA (by decide) rfl rfl 144 _ Tryz.underlying32 rfl infoPs (by decide) (size_pg b q) ?_; refine hK _ ?_; rfl)
           | ((with_reducible refine Any.at_qload (T := 3) ?_); refine Any.q_ldc 1001 hA (by decide) rfl rfl _ Tryz.underlying3 rfl _ rfl ?_; refine hK _ ?_; rfl)
           | ((with_reducible refine Any.at_qload (T := 48) ?_); refine Any.q_old2 rfl HLB.out _ Tryz.underlying48 rfl infoI2 _ _ HC0.out HC1.out ?_; refine hK _ ?_; rfl)
           | ((with_reducible refine Any.at_qbuild (T := 58) ?_); refine Any.q_build [(0, .agg #[.int .i64 st, .int .i64 (k : Int), .slice sa sn sc, .slice ca cn cc, .int .u64 (wk : Nat), .int .i64 sk, .int .i64 er]), (1, .agg (pg b q)), (2, .agg #[.int .i64 op, .int .u64 (arg : Nat)])] rfl (built_deed #[.int .i64 st, .int .i64 (k : Int), .slice sa sn sc, .slice ca cn cc, .int .u64 (wk : Nat), .int .i64 sk, .int .i64 er] (pg b q) rfl (size_pg b q) op arg) ?_; refine hK _ ?_; rfl)
           | (go_big_quiet_op; first
             | (refine hK _ ?_; rfl)
             | (refine ⟨_, fun _ _ => rfl, ?_⟩; refine hK _ ?_; rfl)
             | (apply Exists.intro; refine ⟨fun w1 hw1 => ?_, ?_⟩; · (first
                 | fail)
                refine hK _ ?_; rfl))
       case hD => rfl
       simp only [Act.put, List.setIfInBounds_toArray, List.set_cons_succ, List.set_cons_zero])
    | ((with_reducible refine Any.at_ealloc ?_); refine Any.E_lay rfl rfl rfl (fun _ => rfl) ?_; intro B; simp only [Act.put, List.setIfInBounds_toArray, List.set_cons_succ, List.set_cons_zero])
    | ((with_reducible refine Any.at_ebox ?_); refine Any.E_lay rfl rfl rfl (fun _ => rfl) ?_; intro B; simp only [Act.put, List.setIfInBounds_toArray, List.set_cons_succ, List.set_cons_zero]))
  try any_goals exact undef
  refine Any.E_nil ?_
  intro w9 hE9
  replace hv : Vars w w9 [(B, (deed #[.int .i64 st, .int .i64 (k : Int), .slice sa sn sc, .slice ca cn cc, .int .u64 (wk : Nat), .int .i64 sk, .int .i64 er] (pg b q) #[.int .i64 op, .int .u64 (arg : Nat), .slice none 0 0, .nilFunc, .nilFunc])), (b5, pg b q), (b4, #[.int .i64 st, .int .i64 (k : Int), .slice sa sn sc, .slice ca cn cc, .int .u64 (wk : Nat), .int .i64 sk, .int .i64 er])] := hE9.vars [1, 1000, 1001] (by decide)
  clear hE9
  go_wp2
  refine Any.wp_region_walk [⟨[], none⟩, ⟨[], none⟩, ⟨[], none⟩, ⟨[], none⟩, ⟨[], none⟩, ⟨[], none⟩, ⟨[1000], none⟩, ⟨[], none⟩, ⟨[], none⟩, ⟨[], none⟩, ⟨[], none⟩, ⟨[], none⟩, ⟨[1000], none⟩, ⟨[], none⟩, ⟨[], none⟩, ⟨[], none⟩, ⟨[1000], some 1000⟩, ⟨[], none⟩, ⟨[], none⟩, ⟨[1000], some 1000⟩] [.val, .val, .val, .val, .val, .val, .val, .val, .val, .val, .val, .val, .val, .val, .val, .val, .put, .val, .val, .put] (by kernel_rfl) (by kernel_rfl) hv ?_
  simp only [List.length_cons, List.length_nil, Nat.zero_add, Any.someVals]
  iterate 20 apply Exists.intro
  repeat (first
    | (refine Any.E_off rfl ?_; simp only [Act.put, List.setIfInBounds_toArray, List.set_cons_succ, List.set_cons_zero])
    | (apply Any.E_pureq rfl rfl rfl
       case h => intro K hK; go_big_quiet_op; (refine hK _ ?_; rfl)
       case hr => exact fun _ => rfl
       simp only [Act.put, List.setIfInBounds_toArray, List.set_cons_succ, List.set_cons_zero])
    | (apply Any.E_val rfl rfl rfl rfl
       case h =>
         intro E' hA K hK
         first
           | ((with_reducible refine Any.at_qload (T := 3) ?_); refine Any.q_ldc 1000 hA (by decide) rfl rfl _ Tryz.underlying3 rfl (.int .i64 op) (deed_hi rfl (size_pg b q) 0) ?_; refine hK _ ?_; rfl)
           | (go_big_quiet_op; first
             | (refine hK _ ?_; rfl)
             | (refine ⟨_, fun _ _ => rfl, ?_⟩; refine hK _ ?_; rfl)
             | (apply Exists.intro; refine ⟨fun w1 hw1 => ?_, ?_⟩; · (first
                 | (go_at_call 25; exact Any.calls_VEq (hI _) hw1)
                 | (go_at_call 24; exact Any.calls_VEq (hW _) hw1))
                refine hK _ ?_; rfl))
       case hD => rfl
       simp only [Act.put, List.setIfInBounds_toArray, List.set_cons_succ, List.set_cons_zero])
    | ((with_reducible refine Any.at_ealloc ?_); refine Any.E_lay rfl rfl rfl (fun _ => rfl) ?_; intro B; simp only [Act.put, List.setIfInBounds_toArray, List.set_cons_succ, List.set_cons_zero])
    | ((with_reducible refine Any.at_estore (T := 55) ?_); refine Any.E_putc (T := 55) rfl rfl rfl rfl rfl rfl (by kernel_rfl) rfl (by rw [deed_size rfl (size_pg b q)]; simp) ?_; simp only [Act.put, List.setIfInBounds_toArray, List.set_cons_succ, List.set_cons_zero])
    | ((with_reducible refine Any.at_estore (T := 56) ?_); refine Any.E_putc (T := 56) rfl rfl rfl rfl rfl rfl (by kernel_rfl) HO1.out (by rw [Array.size_setIfInBounds, deed_size rfl (size_pg b q)]; simp) ?_; simp only [Act.put, List.setIfInBounds_toArray, List.set_cons_succ, List.set_cons_zero]))
  try any_goals exact undef
  refine Any.E_nil ?_
  intro w9 hE9
  replace hv : Vars w w9 [(B, ((deed #[.int .i64 st, .int .i64 (k : Int), .slice sa sn sc, .slice ca cn cc, .int .u64 (wk : Nat), .int .i64 sk, .int .i64 er] (pg b q) #[.int .i64 op, .int .u64 (arg : Nat), .slice none 0 0, .nilFunc, .nilFunc]).setIfInBounds 154 (.nilFunc)).setIfInBounds 155 fv1), (b5, pg b q), (b4, #[.int .i64 st, .int .i64 (k : Int), .slice sa sn sc, .slice ca cn cc, .int .u64 (wk : Nat), .int .i64 sk, .int .i64 er])] := hE9.vars [1000, 1001, 1002] (by decide)
  clear hE9
  rw [deed_set3 rfl (size_pg b q), deed_set4 rfl (size_pg b q)] at hv
  simp only [List.setIfInBounds_toArray, List.set_cons_succ, List.set_cons_zero] at hv
  go_wp2_with (first
    | ((with_reducible refine at_load (T := 55) ?_); refine wl_ldc rfl _ _ rfl _ (hv.row (by first | exact .head _ | exact .tail _ (.head _) | exact .tail _ (.tail _ (.head _)) | exact .tail _ (.tail _ (.tail _ (.head _))) | exact .tail _ (.tail _ (.tail _ (.tail _ (.head _)))) | exact .tail _ (.tail _ (.tail _ (.tail _ (.tail _ (.head _))))) | exact .tail _ (.tail _ (.tail _ (.tail _ (.tail _ (.tail _ (.head _)))))) | exact .tail _ (.tail _ (.tail _ (.tail _ (.tail _ (.tail _ (.tail _ (.head _))))))))) _ Tryz.underlying55 rfl (.nilFunc) (deed_hi rfl (size_pg b q) 3) ?_)
    | ((with_reducible refine at_load (T := 3) ?_); refine wl_ldc rfl _ _ rfl _ (hv.row (by first | exact .head _ | exact .tail _ (.head _) | exact .tail _ (.tail _ (.head _)) | exact .tail _ (.tail _ (.tail _ (.head _))) | exact .tail _ (.tail _ (.tail _ (.tail _ (.head _)))) | exact .tail _ (.tail _ (.tail _ (.tail _ (.tail _ (.head _))))) | exact .tail _ (.tail _ (.tail _ (.tail _ (.tail _ (.tail _ (.head _)))))) | exact .tail _ (.tail _ (.tail _ (.tail _ (.tail _ (.tail _ (.tail _ (.head _))))))))) _ Tryz.underlying3 rfl (.int .i64 op) (deed_hi rfl (size_pg b q) 0) ?_)
    | (go_at_call 26; (with_reducible refine (hP _).mono ?_); rintro e w1 ⟨rfl, rfl⟩)
    | ((with_reducible refine at_store (T := 55) ?_); refine wl_stc rfl _ _ rfl fv2 rfl _ (hv.row (by first | exact .head _ | exact .tail _ (.head _) | exact .tail _ (.tail _ (.head _)) | exact .tail _ (.tail _ (.tail _ (.head _))) | exact .tail _ (.tail _ (.tail _ (.tail _ (.head _)))) | exact .tail _ (.tail _ (.tail _ (.tail _ (.tail _ (.head _))))) | exact .tail _ (.tail _ (.tail _ (.tail _ (.tail _ (.tail _ (.head _)))))) | exact .tail _ (.tail _ (.tail _ (.tail _ (.tail _ (.tail _ (.tail _ (.head _))))))))) (hv.sft (by first | exact .head _ | exact .tail _ (.head _) | exact .tail _ (.tail _ (.head _)) | exact .tail _ (.tail _ (.tail _ (.head _))) | exact .tail _ (.tail _ (.tail _ (.tail _ (.head _)))) | exact .tail _ (.tail _ (.tail _ (.tail _ (.tail _ (.head _))))) | exact .tail _ (.tail _ (.tail _ (.tail _ (.tail _ (.tail _ (.head _)))))) | exact .tail _ (.tail _ (.tail _ (.tail _ (.tail _ (.tail _ (.tail _ (.head _))))))))) (by kernel_rfl) HO2.out (by rw [deed_size rfl (size_pg b q)]; simp) ?_; intro w2 hw2; (first | (replace hv := hv.set 0 rfl hw2) | (replace hv := hv.set 1 rfl hw2) | (replace hv := hv.set 2 rfl hw2) | (replace hv := hv.set 3 rfl hw2)); clear hw2; simp only [List.set] at hv; rw [deed_set3 rfl (size_pg b q)] at hv; simp only [List.setIfInBounds_toArray, List.set_cons_succ, List.set_cons_zero] at hv))
  go_ret2
  exact ⟨_, rfl, hv.below, (hv.rows _ (by first | exact .head _ | exact .tail _ (.head _))).2.2, hv.row (by first | exact .head _ | exact .tail _ (.head _)), hv.sft (by first | exact .head _ | exact .tail _ (.head _))⟩
set_option maxRecDepth 100000 in
set_option maxHeartbeats 1000000 in
theorem begun_B2 (st sk er : Int) (wk k : Nat) (S : List Nat) (C : List Int) (sv cv lv : Value) (l : List Cd.Inst) (b : Nat → Bool) (q : Nat → Nat → Nat) (op : Int) (arg : Nat) (w : World) (hl : Rd w 2 lv (cellsI l)) (hg : ∀ x ∈ l, goodI x) (hs : Rd w 1 sv (cellsU S)) (hc : Rd w 1 cv (cellsN C)) (hk : k < l.length) (hS : S.length ≤ 32) (hC : C.length ≤ 16) (hck : Cd.chk l = true) (hx : l[k] = (op, arg)) (f : FuncId) (fv1 : Value) (ho1 : fv1.oneCell' = true) (hW : ∀ w, Calls Tryz.prog 24 #[.int .i64 op] w fun e w' => e = .returned .nilFunc ∧ w = w') (hI : ∀ w, Calls Tryz.prog 25 #[.int .i64 op] w fun e w' => e = .returned fv1 ∧ w = w') (hP : ∀ w, Calls Tryz.prog 26 #[.int .i64 op] w fun e w' => e = .returned (.func (.func 76) #[] #[.pointer (some ⟨w.heap.size, 0, none⟩)]) ∧ w' = w.alloc (.cells #[.func (.func f) #[] #[]] 82)) :
    Calls Tryz.prog 14 #[lv, .agg (thC st (k : Int) sv cv wk sk er), .agg (pg b q)] w (BegunT w (thC st (k : Int) sv cv wk sk er) (pg b q) op arg 76 f fv1) := by
  have hn : l.length ≤ 128 := by
    have := hck; unfold Cd.chk at this; simp only [Bool.and_eq_true, decide_eq_true_eq] at this; omega
  have kC : ∀ w', Rd w' 2 lv (cellsI l) → Calls Tryz.prog 23 #[lv] w' fun e w2 => e = .returned (.bool true) ∧ New w' w2 := fun w' h => by
    have := Check_any lv l w' h hg
    rwa [hck] at this
  obtain ⟨lb, lo, ln, lcap, rfl, l1, l2, l3, l4, l5⟩ := hl.some (by rw [len_cellsI]; omega)
  have c0 : w.cell? ⟨lb, lo + k * 2, none⟩ = some (.int .i64 op) := by rw [l5 _ (by rw [len_cellsI]; omega), get_op l hk, hx]
  have c1 : w.cell? ⟨lb, lo + k * 2 + 1, none⟩ = some (.int .u64 (arg : Nat)) := by rw [Nat.add_assoc, l5 _ (by rw [len_cellsI]; omega), get_arg l hk, hx]
  have HL := Lib.hid hl
  have hln : ln = l.length := by rw [len_cellsI] at l1; omega
  have b0 : decide ((k : Int) < 0) = false := decide_eq_false (by omega)
  have b1 : decide (ln ≤ k) = false := decide_eq_false (by omega)
  have b1' : (k : Int) < (ln : Int) := by omega
  have b2 : (ln : Int) ≤ 128 := by omega
  obtain ⟨sa, sn, sc, rfl, s1, s2⟩ := id hs
  obtain ⟨ca, cn, cc, rfl, r1, r2⟩ := id hc
  rw [cellsU_len, Nat.mul_one] at s1
  rw [cellsN_len, Nat.mul_one] at r1
  have b3 : decide ((32 : Int) < (sn : Int)) = false := decide_eq_false (by omega)
  have b4 : decide ((16 : Int) < (cn : Int)) = false := decide_eq_false (by omega)
  have HC0 := Lib.hid c0
  have HC1 := Lib.hid c1
  have HLB := Lib.hid l4
  clear s2 r2 l1 l2 l3 l4 l5 c0 c1 hl hs hc hg hck hS hC hx hn hln s1 r1 hk
  have hv := Vars.nil w
  have q1 : ∀ w (f : FuncId) (a b : Array Value), (binOp .eql 55 (.func (.func f) a b) .nilFunc).run Tryz.prog w = .ok (.bool false) w := fun w f a b => run_eql_func w _ _ _ _ _ _ _ Tryz.underlying55
  have q2 : ∀ w, (binOp .eql 55 .nilFunc .nilFunc).run Tryz.prog w = .ok (.bool true) w := fun w => run_eql_nofunc w _ _ _ _ Tryz.underlying55
  have HO1 := Lib.hid ho1
  clear ho1
  show Calls Tryz.prog 14 #[.slice (some ⟨lb, lo, none⟩) ln lcap, .agg #[.int .i64 st, .int .i64 (k : Int), .slice sa sn sc, .slice ca cn cc, .int .u64 (wk : Nat), .int .i64 sk, .int .i64 er], .agg (pg b q)] w _
  go_enter Tryz.func14, Tryz.ntmps14
  go_wp2_with (first
    | ((with_reducible refine at_box (T := 28) (dst := some 4) ?_); refine wl_newb rfl #[.int .i64 st, .int .i64 (k : Int), .slice sa sn sc, .slice ca cn cc, .int .u64 (wk : Nat), .int .i64 sk, .int .i64 er] 28 (fun _ => rfl) ?_; intro b4 w2 hm2; replace hv := hv.madeAt hm2; clear hm2)
    | ((with_reducible refine at_box (T := 32) (dst := some 5) ?_); refine wl_newb rfl (pg b q) 32 (fun _ => rfl) ?_; intro b5 w2 hm2; replace hv := hv.madeAt hm2; clear hm2)
    | ((with_reducible refine at_load (T := 3) ?_); refine wl_ldc rfl _ _ rfl _ (hv.row (by first | exact .head _ | exact .tail _ (.head _) | exact .tail _ (.tail _ (.head _)) | exact .tail _ (.tail _ (.tail _ (.head _))) | exact .tail _ (.tail _ (.tail _ (.tail _ (.head _)))) | exact .tail _ (.tail _ (.tail _ (.tail _ (.tail _ (.head _))))) | exact .tail _ (.tail _ (.tail _ (.tail _ (.tail _ (.tail _ (.head _)))))) | exact .tail _ (.tail _ (.tail _ (.tail _ (.tail _ (.tail _ (.tail _ (.head _))))))))) _ Tryz.underlying3 rfl _ rfl ?_)
    | ((with_reducible refine at_load (T := 23) ?_); refine wl_ldc rfl _ _ rfl _ (hv.row (by first | exact .head _ | exact .tail _ (.head _) | exact .tail _ (.tail _ (.head _)) | exact .tail _ (.tail _ (.tail _ (.head _))) | exact .tail _ (.tail _ (.tail _ (.tail _ (.head _)))) | exact .tail _ (.tail _ (.tail _ (.tail _ (.tail _ (.head _))))) | exact .tail _ (.tail _ (.tail _ (.tail _ (.tail _ (.tail _ (.head _)))))) | exact .tail _ (.tail _ (.tail _ (.tail _ (.tail _ (.tail _ (.tail _ (.head _))))))))) _ Tryz.underlying23 rfl _ rfl ?_)
    | ((with_reducible refine at_load (T := 24) ?_); refine wl_ldc rfl _ _ rfl _ (hv.row (by first | exact .head _ | exact .tail _ (.head _) | exact .tail _ (.tail _ (.head _)) | exact .tail _ (.tail _ (.tail _ (.head _))) | exact .tail _ (.tail _ (.tail _ (.tail _ (.head _)))) | exact .tail _ (.tail _ (.tail _ (.tail _ (.tail _ (.head _))))) | exact .tail _ (.tail _ (.tail _ (.tail _ (.tail _ (.tail _ (.head _)))))) | exact .tail _ (.tail _ (.tail _ (.tail _ (.tail _ (.tail _ (.tail _ (.head _))))))))) _ Tryz.underlying24 rfl _ rfl ?_)
    | (go_at_call 23; (with_reducible refine (kC _ (HL.out.below hv.below)).mono ?_); rintro e w1 ⟨rfl, hn1⟩; replace hv := hv.new hn1; clear hn1))
  refine Any.wp_region_walk [⟨[1001], none⟩, ⟨[1000], none⟩, ⟨[], none⟩, ⟨[], none⟩, ⟨[1001], none⟩, ⟨[], none⟩, ⟨[], none⟩, ⟨[], none⟩, ⟨[], some 1⟩, ⟨[], none⟩] [.val, .val, .val, .val, .val, .val, .val, .val, .lay (deed #[.int .i64 st, .int .i64 (k : Int), .slice sa sn sc, .slice ca cn cc, .int .u64 (wk : Nat), .int .i64 sk, .int .i64 er] (pg b q) #[.int .i64 op, .int .u64 (arg : Nat), .slice none 0 0, .nilFunc, .nilFunc]), .pure] (by kernel_rfl) (by kernel_rfl) hv ?_
  simp only [List.length_cons, List.length_nil, Nat.zero_add, Any.someVals]
  iterate 10 apply Exists.intro
  repeat (first
    | (refine Any.E_off rfl ?_; simp only [Act.put, List.setIfInBounds_toArray, List.set_cons_succ, List.set_cons_zero])
    | (apply Any.E_pureq rfl rfl rfl
       case h => intro K hK; go_big_quiet_op; (refine hK _ ?_; rfl)
       case hr => exact fun _ => rfl
       simp only [Act.put, List.setIfInBounds_toArray, List.set_cons_succ, List.set_cons_zero])
    | (apply Any.E_val rfl rfl rfl rfl
       case h =>
         intro E' hA K hK
         first
           | ((with_reducible refine Any.at_qload (T := 28) ?_); refine Any.q_ldv 1001 hA (by decide) rfl rfl 7 _ Tryz.underlying28 rfl infoT (by decide) rfl ?_; refine hK _ ?_; rfl)
           | ((with_reducible refine Any.at_qload (T := 32) ?_); refine Any.q_ldv 1000 hA (by decide) rfl rfl 144 _ Tryz.underlying32 rfl infoPs (by decide) (size_pg b q) ?_; refine hK _ ?_; rfl)
           | ((with_reducible refine Any.at_qload (T := 3) ?_); refine Any.q_ldc 1001 hA (by decide) rfl rfl _ Tryz.underlying3 rfl _ rfl ?_; refine hK _ ?_; rfl)
           | ((with_reducible refine Any.at_qload (T := 48) ?_); refine Any.q_old2 rfl HLB.out _ Tryz.underlying48 rfl infoI2 _ _ HC0.out HC1.out ?_; refine hK _ ?_; rfl)
           | ((with_reducible refine Any.at_qbuild (T := 58) ?_); refine Any.q_build [(0, .agg #[.int .i64 st, .int .i64 (k : Int), .slice sa sn sc, .slice ca cn cc, .int .u64 (wk : Nat), .int .i64 sk, .int .i64 er]), (1, .agg (pg b q)), (2, .agg #[.int .i64 op, .int .u64 (arg : Nat)])] rfl (built_deed #[.int .i64 st, .int .i64 (k : Int), .slice sa sn sc, .slice ca cn cc, .int .u64 (wk : Nat), .int .i64 sk, .int .i64 er] (pg b q) rfl (size_pg b q) op arg) ?_; refine hK _ ?_; rfl)
           | (go_big_quiet_op; first
             | (refine hK _ ?_; rfl)
             | (refine ⟨_, fun _ _ => rfl, ?_⟩; refine hK _ ?_; rfl)
             | (apply Exists.intro; refine ⟨fun w1 hw1 => ?_, ?_⟩; · (first
                 | fail)
                refine hK _ ?_; rfl))
       case hD => rfl
       simp only [Act.put, List.setIfInBounds_toArray, List.set_cons_succ, List.set_cons_zero])
    | ((with_reducible refine Any.at_ealloc ?_); refine Any.E_lay rfl rfl rfl (fun _ => rfl) ?_; intro B; simp only [Act.put, List.setIfInBounds_toArray, List.set_cons_succ, List.set_cons_zero])
    | ((with_reducible refine Any.at_ebox ?_); refine Any.E_lay rfl rfl rfl (fun _ => rfl) ?_; intro B; simp only [Act.put, List.setIfInBounds_toArray, List.set_cons_succ, List.set_cons_zero]))
  try any_goals exact undef
  refine Any.E_nil ?_
  intro w9 hE9
  replace hv : Vars w w9 [(B, (deed #[.int .i64 st, .int .i64 (k : Int), .slice sa sn sc, .slice ca cn cc, .int .u64 (wk : Nat), .int .i64 sk, .int .i64 er] (pg b q) #[.int .i64 op, .int .u64 (arg : Nat), .slice none 0 0, .nilFunc, .nilFunc])), (b5, pg b q), (b4, #[.int .i64 st, .int .i64 (k : Int), .slice sa sn sc, .slice ca cn cc, .int .u64 (wk : Nat), .int .i64 sk, .int .i64 er])] := hE9.vars [1, 1000, 1001] (by decide)
  clear hE9
  go_wp2
  refine Any.wp_region_walk [⟨[], none⟩, ⟨[], none⟩, ⟨[], none⟩, ⟨[], none⟩, ⟨[], none⟩, ⟨[], none⟩, ⟨[1000], none⟩, ⟨[], none⟩, ⟨[], none⟩, ⟨[], none⟩, ⟨[], none⟩, ⟨[], none⟩, ⟨[1000], none⟩, ⟨[], none⟩, ⟨[], none⟩, ⟨[], none⟩, ⟨[1000], some 1000⟩, ⟨[], none⟩, ⟨[], none⟩, ⟨[1000], some 1000⟩] [.val, .val, .val, .val, .val, .val, .val, .val, .val, .val, .val, .val, .val, .val, .val, .val, .put, .val, .val, .put] (by kernel_rfl) (by kernel_rfl) hv ?_
  simp only [List.length_cons, List.length_nil, Nat.zero_add, Any.someVals]
  iterate 20 apply Exists.intro
  repeat (first
    | (refine Any.E_off rfl ?_; simp only [Act.put, List.setIfInBounds_toArray, List.set_cons_succ, List.set_cons_zero])
    | (apply Any.E_pureq rfl rfl rfl
       case h => intro K hK; go_big_quiet_op; (refine hK _ ?_; rfl)
       case hr => exact fun _ => rfl
       simp only [Act.put, List.setIfInBounds_toArray, List.set_cons_succ, List.set_cons_zero])
    | (apply Any.E_val rfl rfl rfl rfl
       case h =>
         intro E' hA K hK
         first
           | ((with_reducible refine Any.at_qload (T := 3) ?_); refine Any.q_ldc 1000 hA (by decide) rfl rfl _ Tryz.underlying3 rfl (.int .i64 op) (deed_hi rfl (size_pg b q) 0) ?_; refine hK _ ?_; rfl)
           | (go_big_quiet_op; first
             | (refine hK _ ?_; rfl)
             | (refine ⟨_, fun _ _ => rfl, ?_⟩; refine hK _ ?_; rfl)
             | (apply Exists.intro; refine ⟨fun w1 hw1 => ?_, ?_⟩; · (first
                 | (go_at_call 25; exact Any.calls_VEq (hI _) hw1)
                 | (go_at_call 24; exact Any.calls_VEq (hW _) hw1))
                refine hK _ ?_; rfl))
       case hD => rfl
       simp only [Act.put, List.setIfInBounds_toArray, List.set_cons_succ, List.set_cons_zero])
    | ((with_reducible refine Any.at_ealloc ?_); refine Any.E_lay rfl rfl rfl (fun _ => rfl) ?_; intro B; simp only [Act.put, List.setIfInBounds_toArray, List.set_cons_succ, List.set_cons_zero])
    | ((with_reducible refine Any.at_estore (T := 55) ?_); refine Any.E_putc (T := 55) rfl rfl rfl rfl rfl rfl (by kernel_rfl) rfl (by rw [deed_size rfl (size_pg b q)]; simp) ?_; simp only [Act.put, List.setIfInBounds_toArray, List.set_cons_succ, List.set_cons_zero])
    | ((with_reducible refine Any.at_estore (T := 56) ?_); refine Any.E_putc (T := 56) rfl rfl rfl rfl rfl rfl (by kernel_rfl) HO1.out (by rw [Array.size_setIfInBounds, deed_size rfl (size_pg b q)]; simp) ?_; simp only [Act.put, List.setIfInBounds_toArray, List.set_cons_succ, List.set_cons_zero]))
  try any_goals exact undef
  refine Any.E_nil ?_
  intro w9 hE9
  replace hv : Vars w w9 [(B, ((deed #[.int .i64 st, .int .i64 (k : Int), .slice sa sn sc, .slice ca cn cc, .int .u64 (wk : Nat), .int .i64 sk, .int .i64 er] (pg b q) #[.int .i64 op, .int .u64 (arg : Nat), .slice none 0 0, .nilFunc, .nilFunc]).setIfInBounds 154 (.nilFunc)).setIfInBounds 155 fv1), (b5, pg b q), (b4, #[.int .i64 st, .int .i64 (k : Int), .slice sa sn sc, .slice ca cn cc, .int .u64 (wk : Nat), .int .i64 sk, .int .i64 er])] := hE9.vars [1000, 1001, 1002] (by decide)
  clear hE9
  rw [deed_set3 rfl (size_pg b q), deed_set4 rfl (size_pg b q)] at hv
  simp only [List.setIfInBounds_toArray, List.set_cons_succ, List.set_cons_zero] at hv
  go_wp2_with (first
    | ((with_reducible refine at_load (T := 55) ?_); refine wl_ldc rfl _ _ rfl _ (hv.row (by first | exact .head _ | exact .tail _ (.head _) | exact .tail _ (.tail _ (.head _)) | exact .tail _ (.tail _ (.tail _ (.head _))) | exact .tail _ (.tail _ (.tail _ (.tail _ (.head _)))) | exact .tail _ (.tail _ (.tail _ (.tail _ (.tail _ (.head _))))) | exact .tail _ (.tail _ (.tail _ (.tail _ (.tail _ (.tail _ (.head _)))))) | exact .tail _ (.tail _ (.tail _ (.tail _ (.tail _ (.tail _ (.tail _ (.head _))))))))) _ Tryz.underlying55 rfl (.nilFunc) (deed_hi rfl (size_pg b q) 3) ?_)
    | ((with_reducible refine at_load (T := 3) ?_); refine wl_ldc rfl _ _ rfl _ (hv.row (by first | exact .head _ | exact .tail _ (.head _) | exact .tail _ (.tail _ (.head _)) | exact .tail _ (.tail _ (.tail _ (.head _))) | exact .tail _ (.tail _ (.tail _ (.tail _ (.head _)))) | exact .tail _ (.tail _ (.tail _ (.tail _ (.tail _ (.head _))))) | exact .tail _ (.tail _ (.tail _ (.tail _ (.tail _ (.tail _ (.head _)))))) | exact .tail _ (.tail _ (.tail _ (.tail _ (.tail _ (.tail _ (.tail _ (.head _))))))))) _ Tryz.underlying3 rfl (.int .i64 op) (deed_hi rfl (size_pg b q) 0) ?_)
    | (go_at_call 26; (with_reducible refine (hP _).mono ?_); rintro e w1 ⟨rfl, rfl⟩; have hm2 := made_alloc w9 #[.func (.func f) #[] #[]] 82; replace hv := hv.made hm2; clear hm2)
    | ((with_reducible refine at_store (T := 55) ?_); refine wl_stc rfl _ _ rfl (.func (.func 76) #[] #[.pointer (some ⟨w9.heap.size, 0, none⟩)]) rfl _ (hv.row (by first | exact .head _ | exact .tail _ (.head _) | exact .tail _ (.tail _ (.head _)) | exact .tail _ (.tail _ (.tail _ (.head _))) | exact .tail _ (.tail _ (.tail _ (.tail _ (.head _)))) | exact .tail _ (.tail _ (.tail _ (.tail _ (.tail _ (.head _))))) | exact .tail _ (.tail _ (.tail _ (.tail _ (.tail _ (.tail _ (.head _)))))) | exact .tail _ (.tail _ (.tail _ (.tail _ (.tail _ (.tail _ (.tail _ (.head _))))))))) (hv.sft (by first | exact .head _ | exact .tail _ (.head _) | exact .tail _ (.tail _ (.head _)) | exact .tail _ (.tail _ (.tail _ (.head _))) | exact .tail _ (.tail _ (.tail _ (.tail _ (.head _)))) | exact .tail _ (.tail _ (.tail _ (.tail _ (.tail _ (.head _))))) | exact .tail _ (.tail _ (.tail _ (.tail _ (.tail _ (.tail _ (.head _)))))) | exact .tail _ (.tail _ (.tail _ (.tail _ (.tail _ (.tail _ (.tail _ (.head _))))))))) (by kernel_rfl) rfl (by rw [deed_size rfl (size_pg b q)]; simp) ?_; intro w2 hw2; (first | (replace hv := hv.set 0 rfl hw2) | (replace hv := hv.set 1 rfl hw2) | (replace hv := hv.set 2 rfl hw2) | (replace hv := hv.set 3 rfl hw2)); clear hw2; simp only [List.set] at hv; rw [deed_set3 rfl (size_pg b q)] at hv; simp only [List.setIfInBounds_toArray, List.set_cons_succ, List.set_cons_zero] at hv))
  go_ret2
  exact ⟨_, ⟨_, rfl, hv.below, (hv.rows _ (.tail _ (.head _))).2.2, hv.row (.tail _ (.head _)), hv.sft (.tail _ (.head _))⟩, fr_row hv (by first | exact .head _ | exact .tail _ (.head _) | exact .tail _ (.tail _ (.head _)) | exact .tail _ (.tail _ (.tail _ (.head _))) | exact .tail _ (.tail _ (.tail _ (.tail _ (.head _)))))⟩
end Go.Proofs.YthpodinbbmgfoaaGreat
