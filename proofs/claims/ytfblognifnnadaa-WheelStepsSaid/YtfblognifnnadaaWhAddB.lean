/-
  A timer that comes last in its slot is added; one is taken away: Add, Cancel.
-/
import Derived.Test.YtfblognifnnadaaWhAdd
import Derived.Test.YtfblognifnnadaaWhAdv
import Derived.Test.YtfblognifnnadaaAnyD
import Derived.Deep.DeepMust
set_option linter.unusedVariables false
set_option linter.unusedSimpArgs false
namespace Go
open Go.RowKit
section
variable {P : Program} {ops : Array Oper} {rest : List Oper} {a : Act} {w w' : World} {Q : Exit → Act → World → Prop}
variable {dst : Option Tmp} {ty t : TypeId} {pos : String} {after : Array Edge} {g : Option (Nat × Bool)} {x y : Operand}
theorem wl_apprun (hgd : Region.wanted (⟨dst, .call { callee := .builtin .append, args := #[x, y], argTypes := #[t, t] }, ty, pos, after, g⟩ : Oper) (yielded ops a.tmps) = true) {v u v' : Value} (hx : a.eval x = v) (hy : a.eval y = u) (hr : (Builtin.append_ #[t, t] ty #[v, u]).run P w = .ok v' w')
    (hk : wpList P ops Q rest (a.put dst v') w') : wpList P ops Q (⟨dst, .call { callee := .builtin .append, args := #[x, y], argTypes := #[t, t] }, ty, pos, after, g⟩ :: rest) a w := by
  refine wpList_want hgd fun K hK => ?_
  unfold Oper.wp execOp
  simp only [resolve, invoke, builtin, Sem.run_bind, Sem.run_pure, Result.andThen_ok, List.map_toArray, List.map_cons, List.map_nil, hx, hy, hr]
  exact hK _ _ hk
end
namespace Any
section
variable {P : Program} {ops : Array Oper} {β : Base} {S : Nat → Stat} {D : Nat → Kind} {Q : Act → Env → Prop} {k : Nat} {rest : List Oper} {a : Act} {E : Env}
variable {dst : Option Tmp} {ty : TypeId} {pos : String} {after : Array Edge} {g : Option (Nat × Bool)} {x : Operand} {xs : Array Operand} {ts : Array TypeId}
/-- A call that lets a row grow: in place, or anew. -/
theorem E_callgrow {f : FuncId} {cap : Array Value} {W : Value → Nat × Array Value → Prop} (i : Nat) (hw : Region.wanted (⟨dst, .call { callee := .value x, args := xs, argTypes := ts }, ty, pos, after, g⟩ : Oper) (yielded ops a.tmps) = true)
    (hD : D k = .own W) (hS : (S k).write = some i) (hf : Go.Proofs.Enters P f) (hx : a.eval x = .func (.func f) #[] cap) (vs : List Value) (hv : xs.toList.map a.eval = vs) (hs : ∃ v x, W v x)
    (hc : ∀ E' w, (∀ j ∈ (S k).keys, E' j = E j) → VE β E' w → Calls P f (vs.toArray ++ cap) w fun e w' => ∃ v x, e = .returned v ∧ W v x ∧ ((∃ c0, E' i = some (x.1, c0) ∧ Wrote w w' x.1 x.2) ∨ (w.heap.size ≤ x.1 ∧ New w w' ∧ w'.rowD x.1 = x.2 ∧ w'.soft x.1 = true)))
    (hk : ∀ v x, W v x → wpE P ops β S D Q (k + 1) rest (a.put dst v) (E.put i x)) : wpE P ops β S D Q k (⟨dst, .call { callee := .value x, args := xs, argTypes := ts }, ty, pos, after, g⟩ :: rest) a E := by
  refine E_own hw hD hS hs (fun E' he w hv' => ?_) hk
  unfold res
  rw [run_callv hf hx vs hv w]
  refine (hc E' w (fun j hj => he j hj) hv').mono fun e w' ⟨v, x, h1, h2, h3⟩ => ⟨v, h1, x, h2, ?_⟩
  rcases h3 with ⟨c0, hE, hW⟩ | ⟨hB, hn, hr, hs'⟩
  · exact hv'.fill hE hW
  · exact hv'.lay hB hn hr hs'
end
end Any
end Go
namespace Go.Proofs.Wh
open Go Go.RowKit
/-- A wheel handed back: new, or read already. -/
def WheelR (now : Nat) (S' : List (List Tm)) (R : List (Nat × Value × List Value)) (w w' : World) (sv' : List Value) (R' : List (Nat × Value × List Value)) : Prop :=
  New w w' ∧ (∀ x ∈ R', Rd w' x.1 x.2.1 x.2.2) ∧ AllF w R' ∧ InW (R' ++ R) sv' S'
theorem perm3 {α : Type} (O : List α) (a b c : α) : (O ++ [a, b, c]).Perm (a :: b :: c :: O) := List.perm_append_comm
theorem _root_.Go.OwnL.rdm {w0 w : World} {L O : List (Nat × Array Value)} {R : List (Nat × Value × List Value)} {k : Nat} {v : Value} {c : List Value} (h : OwnL k v c O) (hv : Mem w0 w L R) (hs : ∀ p ∈ O, p ∈ L) : Rd w k v c := by
  rcases h with ⟨rfl, rfl, rfl⟩ | ⟨x, hx, rfl⟩
  · exact Rd.nil _ _
  · have := hv.vars.rows x (hs x (List.mem_singleton.2 rfl))
    exact hx.rd this.1 this.2.1
/-- A slice of the call's own that is none of the region's variables. -/
theorem own_start {w0 w : World} {L1 L2 O : List (Nat × Array Value)} {R : List (Nat × Value × List Value)} {k : Nat} {v : Value} {c : List Value} (h : OwnL k v c O) (hv : Mem w0 w (L1 ++ L2) R) (hs : ∀ p ∈ O, p ∈ L2) :
    Rd (Any.Base.mk w0 (w.drewN 1) (L1.map (·.1))).W k v c ∧ (c ≠ [] → ∀ b o n cap, v = .slice (some ⟨b, o, none⟩) n cap → b ∉ (Any.Base.mk w0 (w.drewN 1) (L1.map (·.1))).X) := by
  refine ⟨(h.rdm hv fun p hp => List.mem_append_right _ (hs p hp)).new ⟨rfl, rfl, rfl, Nat.le_refl _, fun _ _ => rfl⟩, fun hc b o n cap e hX => ?_⟩
  rcases h with ⟨rfl, rfl, rfl⟩ | ⟨x, ⟨n', cap', e', _⟩, rfl⟩
  · exact hc rfl
  · rw [e] at e'
    cases e'
    obtain ⟨p, hp, he⟩ := List.mem_map.1 hX
    have ha := hv.vars.apart
    rw [List.map_append, List.nodup_append] at ha
    exact ha.2.2 p.1 (List.mem_map_of_mem hp) x.1 (List.mem_map_of_mem (hs x (List.mem_singleton.2 rfl))) he
theorem rowW_own {now : Nat} {R : List (Nat × Value × List Value)} {sv : List Value} {S : List (List Tm)} {F : List Tm → List Tm} {Os : List (List (Nat × Array Value))} (h : OwnW R sv S F 8 Os) : (rowW now sv).all (·.oneCell') = true := by
  rw [Array.all_eq_true_iff_forall_mem]
  intro x hx
  unfold rowW at hx
  rw [List.mem_toArray] at hx
  rcases List.mem_cons.1 hx with rfl | hx
  · rfl
  · obtain ⟨j, hj, rfl⟩ := List.mem_iff_getElem.1 hx
    have hj8 : j < 8 := by rw [h.lv] at hj; exact hj
    have hjS : j < S.length := by rw [h.lS]; exact hj8
    have hjO : j < Os.length := by rw [h.lO]; exact hj8
    obtain ⟨_, _, _, e, _⟩ := (h.own j _ _ _ (List.getElem?_eq_getElem hj) (List.getElem?_eq_getElem hjS) (List.getElem?_eq_getElem hjO)).slice
    rw [e]; rfl
theorem inW_of {R : List (Nat × Value × List Value)} {sv : List Value} {S : List (List Tm)} {F : List Tm → List Tm} {j0 : Nat} {v0 : Value} {c0 : List Tm} (h1 : sv.length = 8) (h2 : S.length = 8) (hj : j0 < 8) (h3 : (2, v0, cellsT c0) ∈ R) (h4 : ∀ (j : Nat) (v : Value) (l : List Tm), j ≠ j0 → sv[j]? = some v → S[j]? = some l → (2, v, cellsT (F l)) ∈ R) : InW R (sv.set j0 v0) ((S.map F).set j0 c0) := by
  refine ⟨by rw [List.length_set]; exact h1, by rw [List.length_set, List.length_map]; exact h2, fun j v l k1 k2 => ?_⟩
  rw [List.getElem?_set] at k1 k2
  by_cases hjj : j0 = j
  · rw [if_pos hjj, if_pos (by rw [h1]; exact hj)] at k1
    rw [if_pos hjj, if_pos (by rw [List.length_map, h2]; exact hj)] at k2
    cases k1; cases k2
    exact h3
  · rw [if_neg hjj] at k1 k2
    rw [List.getElem?_map] at k2
    cases k3 : S[j]? with
    | none => rw [k3] at k2; simp at k2
    | some l' =>
      rw [k3] at k2
      simp only [Option.map_some, Option.some.injEq] at k2
      subst k2
      exact h4 j v l' (fun e => hjj e.symm) k1 k3
theorem set_same {α : Type} {l : List α} {i : Nat} {x : α} (h : l[i]? = some x) : l.set i x = l := by
  obtain ⟨h1, h2⟩ := List.getElem?_eq_some_iff.1 h
  rw [← h2]; exact List.set_getElem_self h1
end Go.Proofs.Wh
namespace Go.Proofs.Ytfblognifnnadaa
open Go.Proofs.Wh Go.RowKit Go.Proofs
theorem built_tm (x : Nat) (y : Int) : Try.prog.built 63 [(0, .int .u64 (x : Nat)), (1, .int .i64 y)] = some #[.int .u64 (x : Nat), .int .i64 y] := by kernel_rfl
set_option maxRecDepth 100000 in
set_option maxHeartbeats 4000000 in
theorem goesA_any (b3 : Nat) (id : Int) (y1 : Nat) (y2 : Int) (w : World) (hr : w.rowD b3 = #[.int .i64 id]) : Calls Try.prog 49 (#[.agg #[.int .u64 (y1 : Nat), .int .i64 y2]] ++ #[.pointer (some ⟨b3, 0, none⟩)]) w fun e w' => e = .returned (.bool (y2 == id)) ∧ New w w' := by
  have hv := Mem.nil w
  have HR : Hid (∀ w', New w w' → w'.rowD b3 = #[.int .i64 id]) := Lib.hid (fun w' hn => by
    have hsz : 0 < (w.rowD b3).size := by rw [hr]; exact Nat.succ_pos _
    obtain ⟨t, fr, ht⟩ := rowD_block hsz
    rw [hn.row (Array.getElem?_eq_some_iff.1 ht).1]; exact hr)
  clear hr
  show Calls Try.prog 49 #[.agg #[.int .u64 (y1 : Nat), .int .i64 y2], .pointer (some ⟨b3, 0, none⟩)] w _
  go_enter Try.func49, Try.ntmps49
  go_wp2_with (first
    | ((with_reducible refine at_box (T := 63) (dst := some 2) ?_); refine wl_newb rfl #[.int .u64 (y1 : Nat), .int .i64 y2] 63 (fun _ => rfl) ?_; intro b2 w2 hm2; replace hv := hv.madeAt hm2; clear hm2)
    | ((with_reducible refine at_load (T := 3) ?_); refine wl_ldc rfl b2 1 rfl _ (hv.vars.row (by first | exact .head _ | exact .tail _ (.head _) | exact .tail _ (.tail _ (.head _)) | exact .tail _ (.tail _ (.tail _ (.head _))) | exact .tail _ (.tail _ (.tail _ (.tail _ (.head _)))) | exact .tail _ (.tail _ (.tail _ (.tail _ (.tail _ (.head _))))) | exact .tail _ (.tail _ (.tail _ (.tail _ (.tail _ (.tail _ (.head _)))))) | exact .tail _ (.tail _ (.tail _ (.tail _ (.tail _ (.tail _ (.tail _ (.head _))))))))) _ Try.underlying3 rfl (.int .i64 y2) rfl ?_)
    | ((with_reducible refine at_load (T := 3) ?_); refine wl_ldc rfl b3 0 rfl _ (HR.out _ hv.below) _ Try.underlying3 rfl (.int .i64 id) rfl ?_))
  go_ret
  exact ⟨rfl, hv.below⟩
set_option maxRecDepth 100000 in
set_option maxHeartbeats 4000000 in
theorem goesC_any (b3 : Nat) (id : Int) (y1 : Nat) (y2 : Int) (w : World) (hr : w.rowD b3 = #[.int .i64 id]) : Calls Try.prog 53 (#[.agg #[.int .u64 (y1 : Nat), .int .i64 y2]] ++ #[.pointer (some ⟨b3, 0, none⟩)]) w fun e w' => e = .returned (.bool (y2 == id)) ∧ New w w' := by
  have hv := Mem.nil w
  have HR : Hid (∀ w', New w w' → w'.rowD b3 = #[.int .i64 id]) := Lib.hid (fun w' hn => by
    have hsz : 0 < (w.rowD b3).size := by rw [hr]; exact Nat.succ_pos _
    obtain ⟨t, fr, ht⟩ := rowD_block hsz
    rw [hn.row (Array.getElem?_eq_some_iff.1 ht).1]; exact hr)
  clear hr
  show Calls Try.prog 53 #[.agg #[.int .u64 (y1 : Nat), .int .i64 y2], .pointer (some ⟨b3, 0, none⟩)] w _
  go_enter Try.func53, Try.ntmps53
  go_wp2_with (first
    | ((with_reducible refine at_box (T := 63) (dst := some 2) ?_); refine wl_newb rfl #[.int .u64 (y1 : Nat), .int .i64 y2] 63 (fun _ => rfl) ?_; intro b2 w2 hm2; replace hv := hv.madeAt hm2; clear hm2)
    | ((with_reducible refine at_load (T := 3) ?_); refine wl_ldc rfl b2 1 rfl _ (hv.vars.row (by first | exact .head _ | exact .tail _ (.head _) | exact .tail _ (.tail _ (.head _)) | exact .tail _ (.tail _ (.tail _ (.head _))) | exact .tail _ (.tail _ (.tail _ (.tail _ (.head _)))) | exact .tail _ (.tail _ (.tail _ (.tail _ (.tail _ (.head _))))) | exact .tail _ (.tail _ (.tail _ (.tail _ (.tail _ (.tail _ (.head _)))))) | exact .tail _ (.tail _ (.tail _ (.tail _ (.tail _ (.tail _ (.tail _ (.head _))))))))) _ Try.underlying3 rfl (.int .i64 y2) rfl ?_)
    | ((with_reducible refine at_load (T := 3) ?_); refine wl_ldc rfl b3 0 rfl _ (HR.out _ hv.below) _ Try.underlying3 rfl (.int .i64 id) rfl ?_))
  go_ret
  exact ⟨rfl, hv.below⟩
set_option maxRecDepth 100000 in
set_option maxHeartbeats 4000000 in
theorem Cancel_any (now : Nat) (id : Int) (sv : List Value) (S : List (List Tm)) (hgd : ∀ l ∈ S, ∀ t ∈ l, (Lit.int .i64 t.2).wf = true) (hlen : ∀ l ∈ S, l.length ≤ 1000) (w : World) (R : List (Nat × Value × List Value)) (hr0 : ∀ x ∈ R, Rd w x.1 x.2.1 x.2.2) (hi : InW R sv S) (hc : chkW now S = true) :
    Calls Try.prog 24 #[.agg (rowW now sv), .int .i64 id] w fun e w' => ∃ sv' R', e = .returned (.agg (rowW now sv')) ∧ WheelR now (S.map fun l => l.filter fun t => !(t.2 == id)) R w w' sv' R' := by
  have hv := Mem.all hr0
  have HR0 := Lib.hid hr0
  have HI := Lib.hid hi
  have HLE := Lib.hid hlen
  have HSZ : Hid ((rowW now sv).size = 9) := Lib.hid (by unfold rowW; simp only [List.size_toArray, List.length_cons]; rw [hi.1])
  have KC : Hid (∀ w1, Below w.heap.size w w1 → Calls Try.prog 13 #[.agg (rowW now sv)] w1 fun e w' => e = .returned (.bool true) ∧ New w1 w') := Lib.hid (fun w1 hb => by
    have := Check_any now sv S hgd hlen w1 R (fun x hx => (hr0 x hx).below hb) hi
    rw [hc] at this; exact this)
  clear hi hr0 hc hlen hgd
  go_enter Try.func24, Try.ntmps24
  go_wp2_with (first
    | ((with_reducible refine at_box (T := 26) (dst := some 2) ?_); refine wl_newb rfl (rowW now sv) 26 (fun _ => rfl) ?_; intro b2 w2 hm2; replace hv := hv.madeAt hm2; clear hm2)
    | ((with_reducible refine at_box (T := 3) (dst := some 3) ?_); refine wl_newb rfl #[.int .i64 id] 3 (fun _ => rfl) ?_; intro b3 w2 hm2; replace hv := hv.madeAt hm2; clear hm2)
    | ((with_reducible refine at_alloc (T := 26) (dst := some 4) ?_); refine wl_newb rfl (rowW 0 (List.replicate 8 (.slice none 0 0))) 26 (fun _ => rfl) ?_; intro b4 w2 hm2; replace hv := hv.madeAt hm2; clear hm2)
    | ((with_reducible refine at_load (T := 26) ?_); refine wl_ldv rfl b2 rfl _ (hv.vars.row (by first | exact .head _ | exact .tail _ (.head _) | exact .tail _ (.tail _ (.head _)) | exact .tail _ (.tail _ (.tail _ (.head _))) | exact .tail _ (.tail _ (.tail _ (.tail _ (.head _)))) | exact .tail _ (.tail _ (.tail _ (.tail _ (.tail _ (.head _))))) | exact .tail _ (.tail _ (.tail _ (.tail _ (.tail _ (.tail _ (.head _)))))) | exact .tail _ (.tail _ (.tail _ (.tail _ (.tail _ (.tail _ (.tail _ (.head _))))))))) 9 _ Try.underlying26 rfl infoWh (by decide) HSZ.out ?_)
    | (go_at_call 13; (with_reducible refine (KC.out _ hv.below).mono ?_); rintro e w1 ⟨rfl, hn1⟩; replace hv := hv.new hn1; clear hn1)
    | (go_at_call 28; (refine (without_any now sv S (fun t => t.2 == id) 53 #[.pointer (some ⟨b3, 0, none⟩)] (enters_of Try.func53 (by kernel_rfl) rfl) HLE.out w _ _ R hv HI.out (fun w1 h1 y1 y2 => goesC_any b3 id y1 y2 w1 (h1.row (b := b3) (by first | exact .head _ | exact .tail _ (.head _) | exact .tail _ (.tail _ (.head _)) | exact .tail _ (.tail _ (.tail _ (.head _))) | exact .tail _ (.tail _ (.tail _ (.tail _ (.head _)))) | exact .tail _ (.tail _ (.tail _ (.tail _ (.tail _ (.head _))))) | exact .tail _ (.tail _ (.tail _ (.tail _ (.tail _ (.tail _ (.head _)))))) | exact .tail _ (.tail _ (.tail _ (.tail _ (.tail _ (.tail _ (.tail _ (.head _))))))))))).mono ?_); rintro e w1 ⟨sv2, R2, rfl, hv2, hf2, hi2⟩; replace hv := hv2; have HF2 := Lib.hid hf2; have HI2 := Lib.hid hi2; have HONE2 := Lib.hid (rowW_one (now := now) hv hi2); clear hv2 hf2 hi2)
    | ((with_reducible refine at_store (T := 26) ?_); refine wl_stv rfl b4 rfl _ rfl _ (hv.vars.row (by first | exact .head _ | exact .tail _ (.head _) | exact .tail _ (.tail _ (.head _)) | exact .tail _ (.tail _ (.tail _ (.head _))) | exact .tail _ (.tail _ (.tail _ (.tail _ (.head _)))) | exact .tail _ (.tail _ (.tail _ (.tail _ (.tail _ (.head _))))) | exact .tail _ (.tail _ (.tail _ (.tail _ (.tail _ (.tail _ (.head _)))))) | exact .tail _ (.tail _ (.tail _ (.tail _ (.tail _ (.tail _ (.tail _ (.head _))))))))) (hv.vars.sft (by first | exact .head _ | exact .tail _ (.head _) | exact .tail _ (.tail _ (.head _)) | exact .tail _ (.tail _ (.tail _ (.head _))) | exact .tail _ (.tail _ (.tail _ (.tail _ (.head _)))) | exact .tail _ (.tail _ (.tail _ (.tail _ (.tail _ (.head _))))) | exact .tail _ (.tail _ (.tail _ (.tail _ (.tail _ (.tail _ (.head _)))))) | exact .tail _ (.tail _ (.tail _ (.tail _ (.tail _ (.tail _ (.tail _ (.head _))))))))) 9 infoWh (rowW_size HI2.out.1) rfl HONE2.out ?_; intro w2 hw2; (first | (replace hv := hv.set 0 rfl hw2) | (replace hv := hv.set 1 rfl hw2) | (replace hv := hv.set 2 rfl hw2) | (replace hv := hv.set 3 rfl hw2)); clear hw2; simp only [List.set] at hv))
  try simp only [Exit.inBlock, Exit.then]
  refine ret_cell1 (v := .agg (rowW now sv2)) rfl rfl (read_row _ b4 26 _ (hv.vars.row (b := b4) (by first | exact .head _ | exact .tail _ (.head _) | exact .tail _ (.tail _ (.head _)) | exact .tail _ (.tail _ (.tail _ (.head _))) | exact .tail _ (.tail _ (.tail _ (.tail _ (.head _)))) | exact .tail _ (.tail _ (.tail _ (.tail _ (.tail _ (.head _))))) | exact .tail _ (.tail _ (.tail _ (.tail _ (.tail _ (.tail _ (.head _)))))) | exact .tail _ (.tail _ (.tail _ (.tail _ (.tail _ (.tail _ (.tail _ (.head _))))))))) 9 _ Try.underlying26 rfl infoWh (by decide) (rowW_size HI2.out.1)) rfl ?_
  exact ⟨sv2, R2, rfl, hv.below, fun x hx => (hv.rds x (List.mem_append_left _ hx)).1, HF2.out, HI2.out⟩
set_option maxRecDepth 100000 in
set_option maxHeartbeats 4000000 in
theorem Insert_nil (tm : Nat) (id : Int) (B : Nat) (w : World) (hu : Rd w 2 (.slice (some ⟨B, 0, none⟩) 1 1) [.int .u64 (tm : Nat), .int .i64 id]) :
    Calls Try.prog 52 #[.slice none 0 0, .int .i64 ((0 : Nat) : Int), .slice (some ⟨B, 0, none⟩) 1 1] w fun e w' => ∃ v x, e = .returned v ∧ AppRow v 2 [.int .u64 (tm : Nat), .int .i64 id] x ∧ w.heap.size ≤ x.1 ∧ New w w' ∧ w'.rowD x.1 = x.2 ∧ w'.soft x.1 = true := by
  obtain ⟨i0, hi1, hz, hsz, hb⟩ := info_parts infoTmz
  obtain ⟨v', w', r1, r2, r3⟩ := run_app_nil (P := Try.prog) (w := w) 23 23 i0 (.agg #[.int .u64 0, .int .i64 0]) 16 Try.underlying23 hi1 hz hsz hb rfl (by decide) hu (fun z hz => by
    rcases List.mem_cons.1 hz with rfl | hz
    · rfl
    · rw [List.mem_singleton.1 hz]; rfl) (by simp only [List.length_cons, List.length_nil]; unfold maxLen; omega) (by simp only [List.length_cons, List.length_nil]; omega)
  rcases r3 with ⟨_, h0⟩ | ⟨x', g1, g2, g3, g4⟩
  · cases h0
  have HR1 := Lib.hid r1
  have HG := Lib.hid (show ∃ v x, v' = v ∧ AppRow v 2 [.int .u64 (tm : Nat), .int .i64 id] x ∧ w.heap.size ≤ x.1 ∧ New w w' ∧ w'.rowD x.1 = x.2 ∧ w'.soft x.1 = true from ⟨v', x', rfl, g1, g2, r2, g3, g4⟩)
  clear hi1 hz hsz hb r1 r2 g1 g2 g3 g4 hu
  go_enter Try.func52, Try.ntmps52
  go_wp2_with ((with_reducible refine at_append (t := 23) ?_); refine wl_apprun rfl rfl rfl HR1.out ?_)
  all_goals
    go_ret
    obtain ⟨v, x, rfl, h⟩ := HG.out
    first | exact ⟨_, x, rfl, h⟩ | exact ⟨_, rfl, x.1, x.2, h⟩
set_option maxRecDepth 100000 in
set_option maxHeartbeats 4000000 in
theorem Insert_row (ob on oc : Nat) (oz : Array Value) (l : List Tm) (tm : Nat) (id : Int) (B : Nat) (w : World) (hrow : AppRow (.slice (some ⟨ob, 0, none⟩) on oc) 2 (cellsT l) (ob, oz)) (hlen : l.length ≤ 1000) (hr : w.rowD ob = oz) (hs : w.soft ob = true) (hu : Rd w 2 (.slice (some ⟨B, 0, none⟩) 1 1) [.int .u64 (tm : Nat), .int .i64 id]) :
    Calls Try.prog 52 #[.slice (some ⟨ob, 0, none⟩) on oc, .int .i64 (on : Nat), .slice (some ⟨B, 0, none⟩) 1 1] w fun e w' => ∃ v x, e = .returned v ∧ AppRow v 2 (cellsT l ++ [.int .u64 (tm : Nat), .int .i64 id]) x ∧ ((x.1 = ob ∧ Wrote w w' ob x.2) ∨ (w.heap.size ≤ x.1 ∧ New w w' ∧ w'.rowD x.1 = x.2 ∧ w'.soft x.1 = true)) := by
  obtain ⟨i0, hi1, hz, hsz, hb⟩ := info_parts infoTmz
  obtain ⟨v', w', x', r1, r2, r3⟩ := run_app_row (P := Try.prog) (w := w) 23 23 i0 (.agg #[.int .u64 0, .int .i64 0]) 16 Try.underlying23 hi1 hz hsz hb rfl (by decide) hrow hr hs hu (fun z hz => by
    rcases List.mem_cons.1 hz with rfl | hz
    · rfl
    · rw [List.mem_singleton.1 hz]; rfl) (by rw [cellsT_len]; simp only [List.length_cons, List.length_nil]; unfold maxLen; omega) (by rw [cellsT_len]; simp only [List.length_cons, List.length_nil]; omega)
  have HR1 := Lib.hid r1
  have HG := Lib.hid (show ∃ v x, v' = v ∧ AppRow v 2 (cellsT l ++ [.int .u64 (tm : Nat), .int .i64 id]) x ∧ ((x.1 = ob ∧ Wrote w w' ob x.2) ∨ (w.heap.size ≤ x.1 ∧ New w w' ∧ w'.rowD x.1 = x.2 ∧ w'.soft x.1 = true)) from ⟨v', x', rfl, r2, by
    rcases r3 with h | ⟨e1, h⟩
    · exact .inl h
    · exact .inr ⟨Nat.le_of_eq e1.symm, h⟩⟩)
  have hon : on ≤ 1000 := by obtain ⟨n, cap, e, g, _⟩ := hrow; cases e; rw [cellsT_len] at g; omega
  have y1 : ((on : Int) == (on : Int)) = true := by simp
  clear hi1 hz hsz hb r1 r2 r3 hu hrow hr hs hlen
  go_enter Try.func52, Try.ntmps52
  go_wp2_with (first
    | ((with_reducible refine at_slice ?_); refine wl_sliceVl rfl rfl Try.underlying23 infoTm on rfl (Nat.le_refl _) rfl ?_)
    | ((with_reducible refine at_append (t := 23) ?_); refine wl_apprun rfl rfl rfl HR1.out ?_))
  all_goals
    go_ret
    obtain ⟨v, x, rfl, h⟩ := HG.out
    first | exact ⟨_, x, rfl, h⟩ | exact ⟨_, rfl, x.1, x.2, h⟩
set_option maxRecDepth 100000 in
set_option maxHeartbeats 4000000 in
theorem Add_end (now tm j : Nat) (id : Int) (sv : List Value) (S : List (List Tm)) (hgd : ∀ l ∈ S, ∀ t ∈ l, (Lit.int .i64 t.2).wf = true) (hlen : ∀ l ∈ S, l.length ≤ 1000) (w : World) (R : List (Nat × Value × List Value)) (hr0 : ∀ x ∈ R, Rd w x.1 x.2.1 x.2.2) (hi : InW R sv S) (hc : chkW now S = true) (h1 : now < tm) (h2 : tm ≤ 1099511627776) (hj : tm % 8 = j) (l : List Tm) (hl : S[j]? = some l) (hlt : ∀ t ∈ l.filter (fun t => !(t.2 == id)), cmpT t (tm, id) < 0) (hn : (S.map (fun l : List Tm => l.filter fun t => !(t.2 == id))).flatten.length < 32) :
    Calls Try.prog 23 #[.agg (rowW now sv), .int .i64 id, .int .u64 (tm : Nat)] w fun e w' => ∃ sv' R', e = .returned (.tuple #[.agg (rowW now sv'), .int .i64 0]) ∧ WheelR now ((S.map (fun l : List Tm => l.filter fun t => !(t.2 == id))).set j (l.filter (fun t => !(t.2 == id)) ++ [(tm, id)])) R w w' sv' R' := by
  have hv := Mem.all hr0
  have HR0 := Lib.hid hr0
  have HI := Lib.hid hi
  have HLE := Lib.hid hlen
  have HSZ : Hid ((rowW now sv).size = 9) := Lib.hid (by unfold rowW; simp only [List.size_toArray, List.length_cons]; rw [hi.1])
  have KC : Hid (∀ w1, Below w.heap.size w w1 → Calls Try.prog 13 #[.agg (rowW now sv)] w1 fun e w' => e = .returned (.bool true) ∧ New w1 w') := Lib.hid (fun w1 hb => by
    have := Check_any now sv S hgd hlen w1 R (fun x hx => (hr0 x hx).below hb) hi
    rw [hc] at this; exact this)
  have HNW : Hid (((rowW now sv) : Array Value)[0]? = some (.int .u64 (now : Nat))) := Lib.hid rfl
  have HJ : Hid (j < 8) := Lib.hid (by omega)
  have HSL := Lib.hid hl
  have HLT := Lib.hid hlt
  have HLF : Hid (((fun l : List Tm => l.filter fun t => !(t.2 == id)) l).length ≤ 1000) := Lib.hid (Nat.le_trans (List.length_filter_le _ _) (hlen l (List.mem_of_getElem? hl)))
  have HLEF : Hid (∀ l' ∈ S.map (fun l : List Tm => l.filter fun t => !(t.2 == id)), l'.length ≤ 1000) := Lib.hid (fun l' hl' => by
    obtain ⟨l2, h2, rfl⟩ := List.mem_map.1 hl'
    exact Nat.le_trans (List.length_filter_le _ _) (hlen l2 h2))
  have HN8 : Hid ((S.map (fun l : List Tm => l.filter fun t => !(t.2 == id))).flatten.length ≤ 8000) := Lib.hid (by omega)
  have y1 : decide ((tm : Int) ≤ (now : Int)) = false := decide_eq_false (by omega)
  have z1 : decide (tm ≤ now) = false := decide_eq_false (by omega)
  have y2 : decide ((1099511627776 : Int) < (tm : Int)) = false := decide_eq_false (by omega)
  have y2n : ¬ (1099511627776 : Int) < (tm : Int) := by omega
  obtain ⟨N, hN⟩ : ∃ N, (S.map (fun l : List Tm => l.filter fun t => !(t.2 == id))).flatten.length = N := ⟨_, rfl⟩
  have y3 : decide ((32 : Int) ≤ (N : Int)) = false := decide_eq_false (by omega)
  have y3n : ¬ (32 : Int) ≤ (N : Int) := by omega
  have HN := Lib.hid hN
  have qj : (tm : Int) % 8 = (j : Int) := by omega
  have qj8 : (j : Int) < 8 := by omega
  clear hi hr0 hc hlen hgd h1 h2 hj hl hlt hn hN
  go_enter Try.func23, Try.ntmps23
  go_wp2_with (first
    | ((with_reducible refine at_box (T := 26) (dst := some 3) ?_); refine wl_newb rfl (rowW now sv) 26 (fun _ => rfl) ?_; intro b3 w2 hm2; replace hv := hv.madeAt hm2; clear hm2)
    | ((with_reducible refine at_box (T := 3) (dst := some 4) ?_); refine wl_newb rfl #[.int .i64 id] 3 (fun _ => rfl) ?_; intro b4 w2 hm2; replace hv := hv.madeAt hm2; clear hm2)
    | ((with_reducible refine at_alloc (T := 26) (dst := some 6) ?_); refine wl_newb rfl (rowW 0 (List.replicate 8 (.slice none 0 0))) 26 (fun _ => rfl) ?_; intro b6 w2 hm2; replace hv := hv.madeAt hm2; clear hm2)
    | ((with_reducible refine at_load (T := 26) ?_); refine wl_ldv rfl b3 rfl _ (hv.vars.row (by first | exact .head _ | exact .tail _ (.head _) | exact .tail _ (.tail _ (.head _)) | exact .tail _ (.tail _ (.tail _ (.head _))) | exact .tail _ (.tail _ (.tail _ (.tail _ (.head _)))) | exact .tail _ (.tail _ (.tail _ (.tail _ (.tail _ (.head _))))) | exact .tail _ (.tail _ (.tail _ (.tail _ (.tail _ (.tail _ (.head _)))))) | exact .tail _ (.tail _ (.tail _ (.tail _ (.tail _ (.tail _ (.tail _ (.head _))))))))) 9 _ Try.underlying26 rfl infoWh (by decide) HSZ.out ?_)
    | (go_at_call 13; (with_reducible refine (KC.out _ hv.below).mono ?_); rintro e w1 ⟨rfl, hn1⟩; replace hv := hv.new hn1; clear hn1)
    | ((with_reducible refine at_load (T := 22) ?_); refine wl_ldc rfl b3 0 rfl _ (hv.vars.row (by first | exact .head _ | exact .tail _ (.head _) | exact .tail _ (.tail _ (.head _)) | exact .tail _ (.tail _ (.tail _ (.head _))) | exact .tail _ (.tail _ (.tail _ (.tail _ (.head _)))) | exact .tail _ (.tail _ (.tail _ (.tail _ (.tail _ (.head _))))) | exact .tail _ (.tail _ (.tail _ (.tail _ (.tail _ (.tail _ (.head _)))))) | exact .tail _ (.tail _ (.tail _ (.tail _ (.tail _ (.tail _ (.tail _ (.head _))))))))) _ Try.underlying22 rfl (.int .u64 (now : Nat)) HNW.out ?_)
    | (go_at_call 28; go_must ((refine (without_own now sv S (fun t => t.2 == id) 49 #[.pointer (some ⟨b4, 0, none⟩)] (enters_of Try.func49 (by kernel_rfl) rfl) HLE.out w _ _ R hv HI.out (fun w1 h1 y1 y2 => goesA_any b4 id y1 y2 w1 (h1.row (b := b4) (by first | exact .head _ | exact .tail _ (.head _) | exact .tail _ (.tail _ (.head _)) | exact .tail _ (.tail _ (.tail _ (.head _))) | exact .tail _ (.tail _ (.tail _ (.tail _ (.head _)))) | exact .tail _ (.tail _ (.tail _ (.tail _ (.tail _ (.head _))))) | exact .tail _ (.tail _ (.tail _ (.tail _ (.tail _ (.tail _ (.head _)))))) | exact .tail _ (.tail _ (.tail _ (.tail _ (.tail _ (.tail _ (.tail _ (.head _))))))))))).mono ?_); rintro e w1 ⟨sv2, Os, rfl, hv2, how⟩; have hsp := OwnW.split how hv2 HJ.out HSL.out; obtain ⟨O, R2, v0, hsv, hO, hv3, hf2, hrest⟩ := hsp; have hsl := hO.slice; obtain ⟨oa, on, oc, rfl, hon⟩ := hsl; replace hv := hv3.perm (perm3 O _ _ _); have HO := Lib.hid hO; have HSV := Lib.hid hsv; have HF2 := Lib.hid hf2; have HREST := Lib.hid hrest; have HL2 := Lib.hid how.lv; have HLS := Lib.hid how.lS; have HON : Hid ((l.filter fun t => !(t.2 == id)).length = on) := Lib.hid (by rw [cellsT_len] at hon; exact Nat.eq_of_mul_eq_mul_right (by decide) hon); have HONE := Lib.hid (rowW_own (now := now) how); clear hv2 how hv3 hsv hO hf2 hrest hon))
    | ((with_reducible refine at_alloc (T := 26) (dst := some 8) ?_); refine wl_newb rfl (rowW 0 (List.replicate 8 (.slice none 0 0))) 26 (fun _ => rfl) ?_; intro b8 w2 hm2; replace hv := hv.madeAt hm2; clear hm2)
    | ((with_reducible refine at_store (T := 26) ?_); refine wl_stv rfl b8 rfl _ rfl _ (hv.vars.row (by first | exact .head _ | exact .tail _ (.head _) | exact .tail _ (.tail _ (.head _)) | exact .tail _ (.tail _ (.tail _ (.head _))) | exact .tail _ (.tail _ (.tail _ (.tail _ (.head _)))) | exact .tail _ (.tail _ (.tail _ (.tail _ (.tail _ (.head _))))) | exact .tail _ (.tail _ (.tail _ (.tail _ (.tail _ (.tail _ (.head _)))))) | exact .tail _ (.tail _ (.tail _ (.tail _ (.tail _ (.tail _ (.tail _ (.head _))))))))) (hv.vars.sft (by first | exact .head _ | exact .tail _ (.head _) | exact .tail _ (.tail _ (.head _)) | exact .tail _ (.tail _ (.tail _ (.head _))) | exact .tail _ (.tail _ (.tail _ (.tail _ (.head _)))) | exact .tail _ (.tail _ (.tail _ (.tail _ (.tail _ (.head _))))) | exact .tail _ (.tail _ (.tail _ (.tail _ (.tail _ (.tail _ (.head _)))))) | exact .tail _ (.tail _ (.tail _ (.tail _ (.tail _ (.tail _ (.tail _ (.head _))))))))) 9 infoWh (rowW_size HL2.out) rfl HONE.out ?_; intro w2 hw2; (first | (replace hv := hv.set 0 rfl hw2) | (replace hv := hv.set 1 rfl hw2) | (replace hv := hv.set 2 rfl hw2) | (replace hv := hv.set 3 rfl hw2)); clear hw2; simp only [List.set] at hv)
    | ((with_reducible refine at_load (T := 26) ?_); refine wl_ldv rfl b8 rfl _ (hv.vars.row (by first | exact .head _ | exact .tail _ (.head _) | exact .tail _ (.tail _ (.head _)) | exact .tail _ (.tail _ (.tail _ (.head _))) | exact .tail _ (.tail _ (.tail _ (.tail _ (.head _)))) | exact .tail _ (.tail _ (.tail _ (.tail _ (.tail _ (.head _))))) | exact .tail _ (.tail _ (.tail _ (.tail _ (.tail _ (.tail _ (.head _)))))) | exact .tail _ (.tail _ (.tail _ (.tail _ (.tail _ (.tail _ (.tail _ (.head _))))))))) 9 _ Try.underlying26 rfl infoWh (by decide) (rowW_size HL2.out) ?_)
    | (go_at_call 50; (refine (count_any now sv2 (S.map (fun l : List Tm => l.filter fun t => !(t.2 == id))) HLEF.out _ ((2, .slice oa on oc, cellsT ((fun l : List Tm => l.filter fun t => !(t.2 == id)) l)) :: (R2 ++ R)) (fun x hx => by rcases List.mem_cons.1 hx with rfl | hx; exact HO.out.rdm hv (fun p hp => by simp [hp]); exact (hv.rds x hx).1) (by have h9 := inW_of (F := (fun l : List Tm => l.filter fun t => !(t.2 == id))) HL2.out HLS.out HJ.out (List.mem_cons_self (a := (2, Value.slice oa on oc, cellsT ((fun l : List Tm => l.filter fun t => !(t.2 == id)) l))) (l := R2 ++ R)) (fun j v l' hne k1 k2 => List.mem_cons_of_mem _ (List.mem_append_left _ (HREST.out j v l' hne k1 k2))); rw [set_same HSV.out, set_same (by rw [List.getElem?_map, HSL.out]; rfl)] at h9; exact h9) HN8.out).mono ?_); rw [HN.out]; rintro e w1 ⟨rfl, hn1⟩; replace hv := hv.new hn1; clear hn1)
    | ((with_reducible refine at_load (T := 3) ?_); refine wl_ldc rfl b4 0 rfl _ (hv.vars.row (by first | exact .head _ | exact .tail _ (.head _) | exact .tail _ (.tail _ (.head _)) | exact .tail _ (.tail _ (.tail _ (.head _))) | exact .tail _ (.tail _ (.tail _ (.tail _ (.head _)))) | exact .tail _ (.tail _ (.tail _ (.tail _ (.tail _ (.head _))))) | exact .tail _ (.tail _ (.tail _ (.tail _ (.tail _ (.tail _ (.head _)))))) | exact .tail _ (.tail _ (.tail _ (.tail _ (.tail _ (.tail _ (.tail _ (.head _))))))))) _ Try.underlying3 rfl (.int .i64 id) rfl ?_)
    | ((with_reducible refine at_build ?_); refine wl_build rfl [(0, .int .u64 (tm : Nat)), (1, .int .i64 id)] rfl (built_tm tm id) ?_)
    | ((with_reducible refine at_alloc (T := 63) (dst := some 9) ?_); refine wl_newb rfl #[.int .u64 0, .int .i64 0] 63 (fun _ => rfl) ?_; intro b9 w2 hm2; replace hv := hv.madeAt hm2; clear hm2)
    | ((with_reducible refine at_store (T := 63) ?_); refine wl_stv rfl b9 rfl _ rfl _ (hv.vars.row (by first | exact .head _ | exact .tail _ (.head _) | exact .tail _ (.tail _ (.head _)) | exact .tail _ (.tail _ (.tail _ (.head _))) | exact .tail _ (.tail _ (.tail _ (.tail _ (.head _)))) | exact .tail _ (.tail _ (.tail _ (.tail _ (.tail _ (.head _))))) | exact .tail _ (.tail _ (.tail _ (.tail _ (.tail _ (.tail _ (.head _)))))) | exact .tail _ (.tail _ (.tail _ (.tail _ (.tail _ (.tail _ (.tail _ (.head _))))))))) (hv.vars.sft (by first | exact .head _ | exact .tail _ (.head _) | exact .tail _ (.tail _ (.head _)) | exact .tail _ (.tail _ (.tail _ (.head _))) | exact .tail _ (.tail _ (.tail _ (.tail _ (.head _)))) | exact .tail _ (.tail _ (.tail _ (.tail _ (.tail _ (.head _))))) | exact .tail _ (.tail _ (.tail _ (.tail _ (.tail _ (.tail _ (.head _)))))) | exact .tail _ (.tail _ (.tail _ (.tail _ (.tail _ (.tail _ (.tail _ (.head _))))))))) 2 infoTm rfl rfl (by simp [Value.oneCell']) ?_; intro w2 hw2; (first | (replace hv := hv.set 0 rfl hw2) | (replace hv := hv.set 1 rfl hw2) | (replace hv := hv.set 2 rfl hw2) | (replace hv := hv.set 3 rfl hw2)); clear hw2; simp only [List.set] at hv))
  have HG : Hid ((rowW now sv2)[1 + j]? = some (.slice oa on oc)) := Lib.hid (rowW_get HSV.out)
  have HI9 : Hid (1 + j < (rowW now sv2).size) := Lib.hid (by rw [rowW_size HL2.out]; have := HJ.out; omega)
  have HOS := Lib.hid (own_start (L1 := [(b9, #[.int .u64 (tm : Nat), .int .i64 id]), (b8, rowW now sv2)]) (L2 := [(b6, (rowW 0 (List.replicate 8 (.slice none 0 0)))), (b4, #[.int .i64 id]), (b3, (rowW now sv))] ++ O) HO.out hv (fun p hp => by simp [hp]))
  refine Any.wp_region_walk [⟨[], none⟩, ⟨[], none⟩, ⟨[1001], none⟩, ⟨[1000], none⟩, ⟨[], none⟩, ⟨[], none⟩, ⟨[], none⟩, ⟨[], none⟩, ⟨[], none⟩, ⟨[], none⟩] [.val, .val, .val, .val, .val, .val, .val, .val, .val, .val] (by kernel_rfl) (by kernel_rfl) (hv.vars.keep (List.sublist_append_left [(b9, #[.int .u64 (tm : Nat), .int .i64 id]), (b8, rowW now sv2)] ([(b6, (rowW 0 (List.replicate 8 (.slice none 0 0)))), (b4, #[.int .i64 id]), (b3, (rowW now sv))] ++ O))) ?_
  simp only [List.length_cons, List.length_nil, Nat.zero_add, Any.someVals]
  iterate 10 apply Exists.intro
  repeat (first
    | (refine Any.E_off rfl ?_; simp only [Act.put, List.setIfInBounds_toArray, List.set_cons_succ, List.set_cons_zero])
    | (apply Any.E_pureq rfl rfl rfl
       case h => intro K hK; go_big_quiet_op; (refine hK _ ?_; rfl)
       case hr => exact fun _ => rfl
       simp only [Act.put, List.setIfInBounds_toArray, List.set_cons_succ, List.set_cons_zero])
    | (apply Any.E_val rfl rfl rfl rfl
       case h =>
         intro E' hA K hK
         first
           | ((with_reducible refine Any.at_qload (T := 23) ?_); refine Any.q_ldc 1001 hA (by decide) rfl rfl _ Try.underlying23 rfl (.slice oa on oc) HG.out ?_; refine hK _ ?_; rfl)
           | ((with_reducible refine Any.at_qload (T := 63) ?_); refine Any.q_ldv 1000 hA (by decide) rfl rfl 2 _ Try.underlying63 rfl infoTm (by decide) rfl ?_; refine hK _ ?_; rfl)
           | (go_big_quiet_op; first
             | (refine hK _ ?_; rfl)
             | (refine ⟨_, fun _ _ => rfl, ?_⟩; refine hK _ ?_; rfl)
             | (apply Exists.intro; refine ⟨fun w1 hw1 => ?_, ?_⟩; · (first
                 | (go_at_call 51; exact Any.calls_VE (BSF_end oa on oc ((fun l : List Tm => l.filter fun t => !(t.2 == id)) l) tm id HLT.out HLF.out _ (hw1.rdold HOS.out.1 HOS.out.2)) hw1))
                refine hK _ ?_; rfl))
       case hD => rfl
       simp only [Act.put, List.setIfInBounds_toArray, List.set_cons_succ, List.set_cons_zero])
    | ((with_reducible refine Any.at_ealloc ?_); refine Any.E_lay rfl rfl rfl (fun _ => rfl) ?_; intro B; simp only [Act.put, List.setIfInBounds_toArray, List.set_cons_succ, List.set_cons_zero]))
  try any_goals exact undef
  refine Any.E_nil ?_
  intro w9 hE9
  replace hv : Mem w w9 ([(b9, #[.int .u64 (tm : Nat), .int .i64 id]), (b8, rowW now sv2)] ++ ([(b6, (rowW 0 (List.replicate 8 (.slice none 0 0)))), (b4, #[.int .i64 id]), (b3, (rowW now sv))] ++ O)) _ := hE9.memr hv [1000, 1001] (by decide)
  clear hE9
  simp only [List.cons_append, List.nil_append] at hv
  go_wp2
  have HW0 : Hid (∃ v x, AppRow v 2 (cellsT ((fun l : List Tm => l.filter fun t => !(t.2 == id)) l) ++ [.int .u64 (tm : Nat), .int .i64 id]) x) := Lib.hid (Any.AppRow.some (n := ((fun l : List Tm => l.filter fun t => !(t.2 == id)) l).length + 1) (by rw [List.length_append, cellsT_len, Nat.add_mul]; rfl) (Nat.le_trans (Nat.succ_le_succ HLF.out) (by unfold maxLen; omega)))
  rcases HO.out with ⟨hnil, hc0, hO0⟩ | ⟨⟨ob, oz⟩, hrow, hO0⟩
  · cases hnil
    subst hO0
    have HC0 : Hid (cellsT ((fun l : List Tm => l.filter fun t => !(t.2 == id)) l) = []) := Lib.hid hc0
    rw [HC0.out, List.nil_append] at HW0
    clear hc0
    refine Any.wp_region_walk [⟨[], none⟩, ⟨[], none⟩, ⟨[], none⟩, ⟨[1001], none⟩, ⟨[], none⟩, ⟨[1000], none⟩, ⟨[], some 6⟩, ⟨[6], some 5⟩, ⟨[], none⟩, ⟨[1001], some 1001⟩] [.val, .val, .val, .val, .val, .val, .bsl 1 #[.int .u64 (tm : Nat), .int .i64 id], .own (AppRow · 2 [.int .u64 (tm : Nat), .int .i64 id]), .val, .put] (by kernel_rfl) (by kernel_rfl) (hv.vars.keep (List.sublist_append_left [(b9, #[.int .u64 (tm : Nat), .int .i64 id]), (b8, rowW now sv2)] [(b6, (rowW 0 (List.replicate 8 (.slice none 0 0)))), (b4, #[.int .i64 id]), (b3, (rowW now sv))])) ?_
    simp only [List.length_cons, List.length_nil, Nat.zero_add, Any.someVals]
    iterate 10 apply Exists.intro
    repeat (first
      | (refine Any.E_off rfl ?_; simp only [Act.put, List.setIfInBounds_toArray, List.set_cons_succ, List.set_cons_zero])
      | (apply Any.E_pureq rfl rfl rfl
         case h => intro K hK; go_big_quiet_op; (refine hK _ ?_; rfl)
         case hr => exact fun _ => rfl
         simp only [Act.put, List.setIfInBounds_toArray, List.set_cons_succ, List.set_cons_zero])
      | (apply Any.E_val rfl rfl rfl rfl
         case h =>
           intro E' hA K hK
           first
             | ((with_reducible refine Any.at_qload (T := 23) ?_); refine Any.q_ldc 1001 hA (by decide) rfl rfl _ Try.underlying23 rfl (.slice none 0 0) HG.out ?_; refine hK _ ?_; rfl)
             | ((with_reducible refine Any.at_qload (T := 63) ?_); refine Any.q_ldv 1000 hA (by decide) rfl rfl 2 _ Try.underlying63 rfl infoTm (by decide) rfl ?_; refine hK _ ?_; rfl)
             | (go_big_quiet_op; first
               | (refine hK _ ?_; rfl)
               | (refine ⟨_, fun _ _ => rfl, ?_⟩; refine hK _ ?_; rfl)
               | (apply Exists.intro; refine ⟨fun w1 hw1 => ?_, ?_⟩; · (first
                   | fail)
                  refine hK _ ?_; rfl))
         case hD => rfl
         simp only [Act.put, List.setIfInBounds_toArray, List.set_cons_succ, List.set_cons_zero])
      | ((with_reducible refine Any.at_ealloc ?_); refine Any.E_lay rfl rfl rfl (fun _ => rfl) ?_; intro B; simp only [Act.put, List.setIfInBounds_toArray, List.set_cons_succ, List.set_cons_zero])
      | ((with_reducible refine Any.at_ebsl ?_); refine Any.E_bsl (t := 63) rfl rfl rfl (fun w' => (by unfold execOp; go_simp)) ?_; intro B; simp only [Act.put, List.setIfInBounds_toArray, List.set_cons_succ, List.set_cons_zero])
      | ((with_reducible refine Any.at_ecall ?_); go_must (refine Any.E_callgrow 5 rfl rfl rfl (enters_of Try.func52 (by kernel_rfl) rfl) rfl [.slice none 0 0, .int .i64 ((0 : Nat) : Int), .slice (some ⟨B, 0, none⟩) 1 1] rfl HW0.out (fun E' w1 he hw1 => by refine (Insert_nil tm id B w1 (hw1.rd ((he 6 (by decide)).trans rfl) 1 2 rfl (by unfold maxLen; omega))).mono ?_; rintro e w2 ⟨v, x, h1, h2, h3⟩; exact ⟨v, x, h1, h2, .inr h3⟩) ?_); intro v2 x2 hrow2; have hq2 := hrow2; obtain ⟨n2, cap2, rfl, hrw⟩ := hq2; clear hrw; simp only [Act.put, List.setIfInBounds_toArray, List.set_cons_succ, List.set_cons_zero])
      | ((with_reducible refine Any.at_estore (T := 23) ?_); refine Any.E_putc (T := 23) rfl rfl rfl rfl rfl rfl (by kernel_rfl) rfl HI9.out ?_; simp only [Act.put, List.setIfInBounds_toArray, List.set_cons_succ, List.set_cons_zero]))
    try any_goals exact undef
    refine Any.E_nil ?_
    intro w9 hE9
    replace hv : Mem w w9 ([x2, (b9, #[.int .u64 (tm : Nat), .int .i64 id]), (b8, rowW now (sv2.set j (.slice (some ⟨x2.1, 0, none⟩) n2 cap2)))] ++ [(b6, (rowW 0 (List.replicate 8 (.slice none 0 0)))), (b4, #[.int .i64 id]), (b3, (rowW now sv))]) _ := (by have h := hE9.memr (L1 := [(b9, #[.int .u64 (tm : Nat), .int .i64 id]), (b8, rowW now sv2)]) hv [5, 1000, 1001] (by decide); rw [← rowW_set]; exact h) --  [5, 1000, 1001] (by decide)
    clear hE9
    simp only [List.cons_append, List.nil_append] at hv
    replace hrow2 : AppRow (.slice (some ⟨x2.1, 0, none⟩) n2 cap2) 2 (cellsT ((fun l : List Tm => l.filter fun t => !(t.2 == id)) l) ++ [.int .u64 (tm : Nat), .int .i64 id]) x2 := by rw [HC0.out, List.nil_append]; exact hrow2
    have HSZ3 : Hid ((rowW now (sv2.set j (.slice (some ⟨x2.1, 0, none⟩) n2 cap2))).size = 9) := Lib.hid (rowW_size (by rw [List.length_set]; exact HL2.out))
    have HONE3 : Hid ((rowW now (sv2.set j (.slice (some ⟨x2.1, 0, none⟩) n2 cap2))).all (·.oneCell') = true) := Lib.hid (by
      have h := HONE.out
      rw [Array.all_eq_true_iff_forall_mem] at h ⊢
      intro x hx
      unfold rowW at hx
      rw [List.mem_toArray] at hx
      rcases List.mem_cons.1 hx with rfl | hx
      · rfl
      · rcases List.mem_or_eq_of_mem_set hx with hx | rfl
        · exact h x (by unfold rowW; rw [List.mem_toArray]; exact List.mem_cons_of_mem _ hx)
        · rfl)
    go_wp2_with (first
      | ((with_reducible refine at_load (T := 26) ?_); refine wl_ldv rfl b8 rfl _ (hv.vars.row (by first | exact .head _ | exact .tail _ (.head _) | exact .tail _ (.tail _ (.head _)) | exact .tail _ (.tail _ (.tail _ (.head _))) | exact .tail _ (.tail _ (.tail _ (.tail _ (.head _)))) | exact .tail _ (.tail _ (.tail _ (.tail _ (.tail _ (.head _))))) | exact .tail _ (.tail _ (.tail _ (.tail _ (.tail _ (.tail _ (.head _)))))) | exact .tail _ (.tail _ (.tail _ (.tail _ (.tail _ (.tail _ (.tail _ (.head _))))))))) 9 _ Try.underlying26 rfl infoWh (by decide) HSZ3.out ?_)
      | ((with_reducible refine at_store (T := 26) ?_); refine wl_stv rfl b6 rfl _ rfl _ (hv.vars.row (by first | exact .head _ | exact .tail _ (.head _) | exact .tail _ (.tail _ (.head _)) | exact .tail _ (.tail _ (.tail _ (.head _))) | exact .tail _ (.tail _ (.tail _ (.tail _ (.head _)))) | exact .tail _ (.tail _ (.tail _ (.tail _ (.tail _ (.head _))))) | exact .tail _ (.tail _ (.tail _ (.tail _ (.tail _ (.tail _ (.head _)))))) | exact .tail _ (.tail _ (.tail _ (.tail _ (.tail _ (.tail _ (.tail _ (.head _))))))))) (hv.vars.sft (by first | exact .head _ | exact .tail _ (.head _) | exact .tail _ (.tail _ (.head _)) | exact .tail _ (.tail _ (.tail _ (.head _))) | exact .tail _ (.tail _ (.tail _ (.tail _ (.head _)))) | exact .tail _ (.tail _ (.tail _ (.tail _ (.tail _ (.head _))))) | exact .tail _ (.tail _ (.tail _ (.tail _ (.tail _ (.tail _ (.head _)))))) | exact .tail _ (.tail _ (.tail _ (.tail _ (.tail _ (.tail _ (.tail _ (.head _))))))))) 9 infoWh HSZ3.out rfl HONE3.out ?_; intro w2 hw2; (first | (replace hv := hv.set 0 rfl hw2) | (replace hv := hv.set 1 rfl hw2) | (replace hv := hv.set 2 rfl hw2) | (replace hv := hv.set 3 rfl hw2)); clear hw2; simp only [List.set] at hv))
    try simp only [Exit.inBlock, Exit.then]
    have HCE : Hid (cellsT ((fun l : List Tm => l.filter fun t => !(t.2 == id)) l) ++ [.int .u64 (tm : Nat), .int .i64 id] = cellsT ((fun l : List Tm => l.filter fun t => !(t.2 == id)) l ++ [(tm, id)])) := Lib.hid (cellsT_snoc ((fun l : List Tm => l.filter fun t => !(t.2 == id)) l) (tm, id)).symm
    rw [HCE.out] at hrow2
    have hfr : FRb w (2, Value.slice (some ⟨x2.1, 0, none⟩) n2 cap2, cellsT ((fun l : List Tm => l.filter fun t => !(t.2 == id)) l ++ [(tm, id)])) := (OwnL.row hrow2).fr (A := []) (B := [(b9, #[.int .u64 (tm : Nat), .int .i64 id]), (b8, rowW now (sv2.set j (.slice (some ⟨x2.1, 0, none⟩) n2 cap2))), (b6, rowW now (sv2.set j (.slice (some ⟨x2.1, 0, none⟩) n2 cap2))), (b4, #[.int .i64 id]), (b3, (rowW now sv))]) (by simpa using hv)
    replace hv := Mem.yield (L1 := []) hv hrow2
    simp only [List.nil_append] at hv
    refine ret_cell2 (v := .agg (rowW now (sv2.set j (.slice (some ⟨x2.1, 0, none⟩) n2 cap2)))) (v1 := .int .i64 0) rfl rfl (read_row _ b6 26 _ (hv.vars.row (b := b6) (by first | exact .head _ | exact .tail _ (.head _) | exact .tail _ (.tail _ (.head _)) | exact .tail _ (.tail _ (.tail _ (.head _))) | exact .tail _ (.tail _ (.tail _ (.tail _ (.head _)))) | exact .tail _ (.tail _ (.tail _ (.tail _ (.tail _ (.head _))))) | exact .tail _ (.tail _ (.tail _ (.tail _ (.tail _ (.tail _ (.head _)))))) | exact .tail _ (.tail _ (.tail _ (.tail _ (.tail _ (.tail _ (.tail _ (.head _))))))))) 9 _ Try.underlying26 rfl infoWh (by decide) HSZ3.out) rfl rfl ?_
    refine ⟨(sv2.set j (.slice (some ⟨x2.1, 0, none⟩) n2 cap2)), rfl, (2, Value.slice (some ⟨x2.1, 0, none⟩) n2 cap2, cellsT ((fun l : List Tm => l.filter fun t => !(t.2 == id)) l ++ [(tm, id)])) :: R2, hv.below, fun x hx => (hv.rds x ?_).1, fun x hx => ?_, inW_of HL2.out HLS.out HJ.out (List.mem_cons_self ..) (fun j' v' l' hne k1 k2 => List.mem_cons_of_mem _ (List.mem_append_left _ (HREST.out j' v' l' hne k1 k2)))⟩
    · rcases List.mem_cons.1 hx with rfl | hx
      · exact List.mem_cons_self ..
      · exact List.mem_cons_of_mem _ (List.mem_append_left _ hx)
    · rcases List.mem_cons.1 hx with rfl | hx
      · exact hfr
      · exact HF2.out x hx
  · have hq := hrow
    obtain ⟨n0, c0, e0, g0⟩ := hq
    cases e0
    subst hO0
    clear g0
    have HROW := Lib.hid hrow
    clear hrow
    replace hv := hv.perm (show ([(b9, #[.int .u64 (tm : Nat), .int .i64 id]), (b8, rowW now sv2), (b6, (rowW 0 (List.replicate 8 (.slice none 0 0)))), (b4, #[.int .i64 id]), (b3, (rowW now sv)), (ob, oz)] : List (Nat × Array Value)).Perm [(b9, #[.int .u64 (tm : Nat), .int .i64 id]), (b8, rowW now sv2), (ob, oz), (b6, (rowW 0 (List.replicate 8 (.slice none 0 0)))), (b4, #[.int .i64 id]), (b3, (rowW now sv))] from .cons _ (.cons _ (List.perm_append_comm (l₁ := [(b6, (rowW 0 (List.replicate 8 (.slice none 0 0)))), (b4, #[.int .i64 id]), (b3, (rowW now sv))]) (l₂ := [(ob, oz)]))))
    refine Any.wp_region_walk [⟨[], none⟩, ⟨[], none⟩, ⟨[], none⟩, ⟨[1001], none⟩, ⟨[], none⟩, ⟨[1000], none⟩, ⟨[], some 6⟩, ⟨[6, 1002], some 1002⟩, ⟨[], none⟩, ⟨[1001], some 1001⟩] [.val, .val, .val, .val, .val, .val, .bsl 1 #[.int .u64 (tm : Nat), .int .i64 id], .own (AppRow · 2 (cellsT ((fun l : List Tm => l.filter fun t => !(t.2 == id)) l) ++ [.int .u64 (tm : Nat), .int .i64 id])), .val, .put] (by kernel_rfl) (by kernel_rfl) (hv.vars.keep (List.sublist_append_left [(b9, #[.int .u64 (tm : Nat), .int .i64 id]), (b8, rowW now sv2), (ob, oz)] [(b6, (rowW 0 (List.replicate 8 (.slice none 0 0)))), (b4, #[.int .i64 id]), (b3, (rowW now sv))])) ?_
    simp only [List.length_cons, List.length_nil, Nat.zero_add, Any.someVals]
    iterate 10 apply Exists.intro
    repeat (first
      | (refine Any.E_off rfl ?_; simp only [Act.put, List.setIfInBounds_toArray, List.set_cons_succ, List.set_cons_zero])
      | (apply Any.E_pureq rfl rfl rfl
         case h => intro K hK; go_big_quiet_op; (refine hK _ ?_; rfl)
         case hr => exact fun _ => rfl
         simp only [Act.put, List.setIfInBounds_toArray, List.set_cons_succ, List.set_cons_zero])
      | (apply Any.E_val rfl rfl rfl rfl
         case h =>
           intro E' hA K hK
           first
             | ((with_reducible refine Any.at_qload (T := 23) ?_); refine Any.q_ldc 1001 hA (by decide) rfl rfl _ Try.underlying23 rfl (.slice (some ⟨ob, 0, none⟩) on oc) HG.out ?_; refine hK _ ?_; rfl)
             | ((with_reducible refine Any.at_qload (T := 63) ?_); refine Any.q_ldv 1000 hA (by decide) rfl rfl 2 _ Try.underlying63 rfl infoTm (by decide) rfl ?_; refine hK _ ?_; rfl)
             | (go_big_quiet_op; first
               | (refine hK _ ?_; rfl)
               | (refine ⟨_, fun _ _ => rfl, ?_⟩; refine hK _ ?_; rfl)
               | (apply Exists.intro; refine ⟨fun w1 hw1 => ?_, ?_⟩; · (first
                   | fail)
                  refine hK _ ?_; rfl))
         case hD => rfl
         simp only [Act.put, List.setIfInBounds_toArray, List.set_cons_succ, List.set_cons_zero])
      | ((with_reducible refine Any.at_ealloc ?_); refine Any.E_lay rfl rfl rfl (fun _ => rfl) ?_; intro B; simp only [Act.put, List.setIfInBounds_toArray, List.set_cons_succ, List.set_cons_zero])
      | ((with_reducible refine Any.at_ebsl ?_); refine Any.E_bsl (t := 63) rfl rfl rfl (fun w' => (by unfold execOp; go_simp)) ?_; intro B; simp only [Act.put, List.setIfInBounds_toArray, List.set_cons_succ, List.set_cons_zero])
      | ((with_reducible refine Any.at_ecall ?_); go_must (refine Any.E_callgrow 1002 rfl rfl rfl (enters_of Try.func52 (by kernel_rfl) rfl) rfl [.slice (some ⟨ob, 0, none⟩) on oc, .int .i64 (on : Nat), .slice (some ⟨B, 0, none⟩) 1 1] rfl HW0.out (fun E' w1 he hw1 => by obtain ⟨q1, q2, _⟩ := hw1.own 1002 ob oz ((he 1002 (by decide)).trans rfl); refine (Insert_row ob on oc oz ((fun l : List Tm => l.filter fun t => !(t.2 == id)) l) tm id B w1 HROW.out HLF.out q1 q2 (hw1.rd ((he 6 (by decide)).trans rfl) 1 2 rfl (by unfold maxLen; omega))).mono ?_; rintro e w2 ⟨v, x, h1, h2, h3⟩; refine ⟨v, x, h1, h2, ?_⟩; rcases h3 with ⟨h4, h5⟩ | h4; exact .inl ⟨oz, by rw [h4]; exact (he 1002 (by decide)).trans rfl, by rw [h4]; exact h5⟩; exact .inr h4) ?_); intro v2 x2 hrow2; have hq2 := hrow2; obtain ⟨n2, cap2, rfl, hrw⟩ := hq2; clear hrw; simp only [Act.put, List.setIfInBounds_toArray, List.set_cons_succ, List.set_cons_zero])
      | ((with_reducible refine Any.at_estore (T := 23) ?_); refine Any.E_putc (T := 23) rfl rfl rfl rfl rfl rfl (by kernel_rfl) rfl HI9.out ?_; simp only [Act.put, List.setIfInBounds_toArray, List.set_cons_succ, List.set_cons_zero]))
    try any_goals exact undef
    refine Any.E_nil ?_
    intro w9 hE9
    replace hv : Mem w w9 ([x2, (b9, #[.int .u64 (tm : Nat), .int .i64 id]), (b8, rowW now (sv2.set j (.slice (some ⟨x2.1, 0, none⟩) n2 cap2)))] ++ [(b6, (rowW 0 (List.replicate 8 (.slice none 0 0)))), (b4, #[.int .i64 id]), (b3, (rowW now sv))]) _ := (by have h := hE9.memr (L1 := [(b9, #[.int .u64 (tm : Nat), .int .i64 id]), (b8, rowW now sv2), (ob, oz)]) hv [1002, 1000, 1001] (by decide); rw [← rowW_set]; exact h) --  [1002, 1000, 1001] (by decide)
    clear hE9
    simp only [List.cons_append, List.nil_append] at hv
    have HSZ3 : Hid ((rowW now (sv2.set j (.slice (some ⟨x2.1, 0, none⟩) n2 cap2))).size = 9) := Lib.hid (rowW_size (by rw [List.length_set]; exact HL2.out))
    have HONE3 : Hid ((rowW now (sv2.set j (.slice (some ⟨x2.1, 0, none⟩) n2 cap2))).all (·.oneCell') = true) := Lib.hid (by
      have h := HONE.out
      rw [Array.all_eq_true_iff_forall_mem] at h ⊢
      intro x hx
      unfold rowW at hx
      rw [List.mem_toArray] at hx
      rcases List.mem_cons.1 hx with rfl | hx
      · rfl
      · rcases List.mem_or_eq_of_mem_set hx with hx | rfl
        · exact h x (by unfold rowW; rw [List.mem_toArray]; exact List.mem_cons_of_mem _ hx)
        · rfl)
    go_wp2_with (first
      | ((with_reducible refine at_load (T := 26) ?_); refine wl_ldv rfl b8 rfl _ (hv.vars.row (by first | exact .head _ | exact .tail _ (.head _) | exact .tail _ (.tail _ (.head _)) | exact .tail _ (.tail _ (.tail _ (.head _))) | exact .tail _ (.tail _ (.tail _ (.tail _ (.head _)))) | exact .tail _ (.tail _ (.tail _ (.tail _ (.tail _ (.head _))))) | exact .tail _ (.tail _ (.tail _ (.tail _ (.tail _ (.tail _ (.head _)))))) | exact .tail _ (.tail _ (.tail _ (.tail _ (.tail _ (.tail _ (.tail _ (.head _))))))))) 9 _ Try.underlying26 rfl infoWh (by decide) HSZ3.out ?_)
      | ((with_reducible refine at_store (T := 26) ?_); refine wl_stv rfl b6 rfl _ rfl _ (hv.vars.row (by first | exact .head _ | exact .tail _ (.head _) | exact .tail _ (.tail _ (.head _)) | exact .tail _ (.tail _ (.tail _ (.head _))) | exact .tail _ (.tail _ (.tail _ (.tail _ (.head _)))) | exact .tail _ (.tail _ (.tail _ (.tail _ (.tail _ (.head _))))) | exact .tail _ (.tail _ (.tail _ (.tail _ (.tail _ (.tail _ (.head _)))))) | exact .tail _ (.tail _ (.tail _ (.tail _ (.tail _ (.tail _ (.tail _ (.head _))))))))) (hv.vars.sft (by first | exact .head _ | exact .tail _ (.head _) | exact .tail _ (.tail _ (.head _)) | exact .tail _ (.tail _ (.tail _ (.head _))) | exact .tail _ (.tail _ (.tail _ (.tail _ (.head _)))) | exact .tail _ (.tail _ (.tail _ (.tail _ (.tail _ (.head _))))) | exact .tail _ (.tail _ (.tail _ (.tail _ (.tail _ (.tail _ (.head _)))))) | exact .tail _ (.tail _ (.tail _ (.tail _ (.tail _ (.tail _ (.tail _ (.head _))))))))) 9 infoWh HSZ3.out rfl HONE3.out ?_; intro w2 hw2; (first | (replace hv := hv.set 0 rfl hw2) | (replace hv := hv.set 1 rfl hw2) | (replace hv := hv.set 2 rfl hw2) | (replace hv := hv.set 3 rfl hw2)); clear hw2; simp only [List.set] at hv))
    try simp only [Exit.inBlock, Exit.then]
    have HCE : Hid (cellsT ((fun l : List Tm => l.filter fun t => !(t.2 == id)) l) ++ [.int .u64 (tm : Nat), .int .i64 id] = cellsT ((fun l : List Tm => l.filter fun t => !(t.2 == id)) l ++ [(tm, id)])) := Lib.hid (cellsT_snoc ((fun l : List Tm => l.filter fun t => !(t.2 == id)) l) (tm, id)).symm
    rw [HCE.out] at hrow2
    have hfr : FRb w (2, Value.slice (some ⟨x2.1, 0, none⟩) n2 cap2, cellsT ((fun l : List Tm => l.filter fun t => !(t.2 == id)) l ++ [(tm, id)])) := (OwnL.row hrow2).fr (A := []) (B := [(b9, #[.int .u64 (tm : Nat), .int .i64 id]), (b8, rowW now (sv2.set j (.slice (some ⟨x2.1, 0, none⟩) n2 cap2))), (b6, rowW now (sv2.set j (.slice (some ⟨x2.1, 0, none⟩) n2 cap2))), (b4, #[.int .i64 id]), (b3, (rowW now sv))]) (by simpa using hv)
    replace hv := Mem.yield (L1 := []) hv hrow2
    simp only [List.nil_append] at hv
    refine ret_cell2 (v := .agg (rowW now (sv2.set j (.slice (some ⟨x2.1, 0, none⟩) n2 cap2)))) (v1 := .int .i64 0) rfl rfl (read_row _ b6 26 _ (hv.vars.row (b := b6) (by first | exact .head _ | exact .tail _ (.head _) | exact .tail _ (.tail _ (.head _)) | exact .tail _ (.tail _ (.tail _ (.head _))) | exact .tail _ (.tail _ (.tail _ (.tail _ (.head _)))) | exact .tail _ (.tail _ (.tail _ (.tail _ (.tail _ (.head _))))) | exact .tail _ (.tail _ (.tail _ (.tail _ (.tail _ (.tail _ (.head _)))))) | exact .tail _ (.tail _ (.tail _ (.tail _ (.tail _ (.tail _ (.tail _ (.head _))))))))) 9 _ Try.underlying26 rfl infoWh (by decide) HSZ3.out) rfl rfl ?_
    refine ⟨(sv2.set j (.slice (some ⟨x2.1, 0, none⟩) n2 cap2)), rfl, (2, Value.slice (some ⟨x2.1, 0, none⟩) n2 cap2, cellsT ((fun l : List Tm => l.filter fun t => !(t.2 == id)) l ++ [(tm, id)])) :: R2, hv.below, fun x hx => (hv.rds x ?_).1, fun x hx => ?_, inW_of HL2.out HLS.out HJ.out (List.mem_cons_self ..) (fun j' v' l' hne k1 k2 => List.mem_cons_of_mem _ (List.mem_append_left _ (HREST.out j' v' l' hne k1 k2)))⟩
    · rcases List.mem_cons.1 hx with rfl | hx
      · exact List.mem_cons_self ..
      · exact List.mem_cons_of_mem _ (List.mem_append_left _ hx)
    · rcases List.mem_cons.1 hx with rfl | hx
      · exact hfr
      · exact HF2.out x hx
end Go.Proofs.Ytfblognifnnadaa
