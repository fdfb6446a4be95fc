/-
  The walk of code's Get.
-/
import Derived.Test.YthpodinbbmgfoaaCdChunk
set_option linter.unusedVariables false
namespace Go
open Go.RowKit Go.Proofs.Nm
theorem below_between {B : Nat} {a w w' : World} (h : Below B a w) (h' : Below B a w') (hs : w.heap.size ≤ w'.heap.size) : Below B w w' :=
  ⟨h'.os.trans h.os.symm, h'.tape.trans h.tape.symm, h'.output.trans h.output.symm, hs, fun k hk => (h'.block k hk).trans (h.block k hk).symm⟩
theorem Rd.capped {w : World} {k n cap : Nat} {ao : Option Addr} {c : List Value} (h : Rd w k (.slice ao n cap) c) {cap' : Nat} (h1 : n ≤ cap') (h2 : cap' ≤ cap) : Rd w k (.slice ao n cap') c := by
  obtain ⟨ao', n', cap0, e, g1, g2, g3, g4, g5⟩ := h
  cases e
  exact ⟨ao, n, cap', rfl, g1, h1, by omega, fun h => ⟨(g4 h).1, by have := (g4 h).2; omega⟩, g5⟩
theorem vars_cell {w0 w : World} {L : List (Nat × Array Value)} (h : Vars w0 w L) {b : Nat} {v : Value} (hm : (b, #[v]) ∈ L) : w.cell? ⟨b, 0, none⟩ = some v := by
  rw [cell_rowD, h.row hm]; rfl
theorem vars_frozen {w0 w : World} {L : List (Nat × Array Value)} (h : Vars w0 w L) {b : Nat} {c : Array Value} (hm : (b, c) ∈ L) : w.frozen? ⟨b, 0, none⟩ = false := by
  obtain ⟨tt, ht⟩ := soft_heap (h.sft hm)
  exact frozen_of_row w b 0 _ tt ht
end Go
namespace Go.Proofs.Cd
open Go Go.RowKit
theorem getN_fin (l : List Nat) (N : Nat) : (List.finRange N).map (fun i => getI l i.1) = getN l N := by
  unfold getN
  apply List.ext_getElem
  · simp
  · intro i h1 h2
    simp
theorem ownFrom_own {β : Type} {w0 : World} {L : Value → List (Nat × Array Value)} {e : TypeId} {k : Nat} {c : β → List Value} {B : Nat} (hB : w0.heap.size ≤ B) : OwnFrom B (fun (s : β) W => ∃ v, OwnS w0 W (L v) e k v (c s)) :=
  fun s X Y row ⟨v, hs⟩ hg hr => ⟨v, hs.turn hg (fun r e => ⟨Nat.le_trans hB (hr r e).1, (hr r e).2⟩)⟩
theorem chK_of {w W w9 : World} {L L' : List (Nat × Array Value)} {bs bn : Nat} {s t : Value} (h : Vars w W L) (h' : Vars w w9 L') (hs : W.heap.size ≤ w9.heap.size) (m1 : (bs, #[s]) ∈ L) (m2 : (bn, #[t]) ∈ L) (m1' : (bs, #[s]) ∈ L') (m2' : (bn, #[t]) ∈ L') : ChK w.heap.size bs bn W w9 :=
  ⟨below_between h.below h'.below hs, (vars_cell h' m1').trans (vars_cell h m1).symm, (vars_cell h' m2').trans (vars_cell h m2).symm⟩
end Go.Proofs.Cd
namespace Go.Proofs.Ythpodinbbmgfoaa
open Go.Proofs.Cd Go.Proofs.Nm Go.RowKit Go.Shelf
attribute [local go_sem] Oper.semAt_some
set_option maxRecDepth 100000 in
set_option maxHeartbeats 8000000 in
theorem Get_ok (b o n cap : Nat) (l : List Nat) (w : World) (hrd : Rd w 1 (.slice (some ⟨b, o, none⟩) n cap) (cellsB l)) (hg : goodB l) (hf : formB l = true) : CallsIn Fence.wide 9 Try.prog 60 #[.slice (some ⟨b, o, none⟩) n cap] w (GetR w l) := by
  have HRD := Lib.hid hrd
  obtain ⟨ao, n', cap', e, h1, h2, h3, h4, h5⟩ := hrd
  cases e
  rw [cellsB_len, Nat.mul_one] at h1
  have HL := Lib.hid h1; clear h1
  have hm : n ≤ 9223372036854775807 := by unfold maxLen at h3; omega
  have HC := Lib.hid h5; clear h5
  have H2 := Lib.hid h2
  have H3 := Lib.hid h3
  clear h2 h3 h4
  have HG := Lib.hid hg; clear hg
  have hn : 9 ≤ n ∧ n ≤ 1152 ∧ n % 9 = 0 := by
    unfold formB at hf
    simp only [Bool.and_eq_true, decide_eq_true_eq] at hf
    have := HL.out; omega
  have HF := Lib.hid hf; clear hf
  obtain ⟨n1, n2, n3⟩ := hn
  have n1i : ¬ (n : Int) = 0 := by omega
  have n1b : ((n : Int) == 0) = false := by rw [beq_eq_false_iff_ne]; omega
  have n2b : ¬ (1152 : Int) < n := by omega
  have n3b : ((n : Int) % 9 != 0) = false := by rw [bne_eq_false_iff_eq]; omega
  have n3i : (n : Int) % 9 = 0 := by omega
  obtain ⟨N, hN⟩ : ∃ N, N = n / 9 := ⟨_, rfl⟩
  have hN9 : n = 9 * N := by omega
  have HN := Lib.hid hN; have HN9 := Lib.hid hN9; clear hN hN9
  obtain ⟨_, _, e, hb, _⟩ := HC.out 0 (by rw [cellsB_len, HL.out]; omega)
  cases e
  refine callsIn_of_wp_marks Try.func60 rfl trivial ?_ rfl
  simp only [Try.ntmps60, List.size_toArray, List.length_cons, List.length_nil, Nat.reduceAdd, Nat.reduceSub, Array.replicate_succ, Array.replicate_zero, List.push_toArray, List.append_toArray, List.nil_append, List.cons_append]
  gi_wp2_with (refine ⟨trivial, ?_⟩; gi_at_call 99; refine (chunk_in _ _ _ _ _).mono ?_; rintro e w' ⟨rfl, rfl⟩)
  have hv : Vars w (((w.alloc (.cells #[.slice none 0 0] 57)).alloc (.cells #[.slice (some ⟨b, o, none⟩) n cap] 58)).alloc (.cells #[.int .i64 9] 3)) [(w.heap.size + 2, #[.int .i64 9]), (w.heap.size + 1, #[.slice (some ⟨b, o, none⟩) n cap]), (w.heap.size, #[.slice none 0 0])] := by
    have h := (((Vars.nil w).madeAt ⟨rfl, made_alloc w #[.slice none 0 0] 57⟩).madeAt ⟨rfl, made_alloc _ #[.slice (some ⟨b, o, none⟩) n cap] 58⟩).madeAt ⟨rfl, made_alloc _ #[.int .i64 9] 3⟩
    simpa using h
  obtain ⟨W1, hW1⟩ : ∃ W1, (((w.alloc (.cells #[.slice none 0 0] 57)).alloc (.cells #[.slice (some ⟨b, o, none⟩) n cap] 58)).alloc (.cells #[.int .i64 9] 3)) = W1 := ⟨_, rfl⟩
  have hsz1 : W1.heap.size = w.heap.size + 3 := by rw [← hW1]; simp
  rw [hW1] at hv ⊢
  clear hW1

  have hcap : 9 * N ≤ cap := by have := HN9.out; have := H2.out; omega
  have hN128 : N ≤ 128 := by have := HN9.out; omega
  have c1 : W1.cell? ⟨w.heap.size + 1, 0, none⟩ = some (.slice (some ⟨b, o, none⟩) (9 * N) cap) := by rw [← HN9.out]; exact vars_cell hv (.tail _ (.head _))
  have c2 : W1.cell? ⟨w.heap.size + 2, 0, none⟩ = some (.int .i64 9) := vars_cell hv (.head _)
  refine wpIn_rangeFunc_ownG (by rfl) (by decide) (gf := 113) (lb := #[.pointer (some ⟨w.heap.size + 1, 0, none⟩), .pointer (some ⟨w.heap.size + 2, 0, none⟩)]) rfl trivial (enters_of Try.func113 (by kernel_rfl) rfl)
    (chunk_stops 8 (by decide) (w.heap.size + 1) (w.heap.size + 2) w.heap.size b o N cap hN128 hcap H3.out W1 (by omega) (by omega) c1 c2) ChK.trans (ChK.turn (by omega) (by omega) (by omega)) (Below.refl _ _) (fun _ => rfl)
    (fun pre W => ∃ v, OwnS w W [(w.heap.size + 2, #[.int .i64 9]), (w.heap.size + 1, #[.slice (some ⟨b, o, none⟩) n cap]), (w.heap.size, #[v])] 77 2 v (cellsI (pre.map fun i => getI l i.1)))
    (fun _ _ _ => False)
    (ownFrom_own (L := fun v => [(w.heap.size + 2, #[.int .i64 9]), (w.heap.size + 1, #[.slice (some ⟨b, o, none⟩) n cap]), (w.heap.size, #[v])]) (c := fun pre : List (Fin N) => cellsI (pre.map fun i => getI l i.1)) (by omega))
    (fun _ _ _ _ _ hs _ _ => hs)
    ⟨_, OwnS.nil hv⟩
    (fun x => { tmps := #[.slice (some ⟨b, o, none⟩) n cap, undef, .slice none 0 0, .int .i64 0, .pointer (some ⟨w.heap.size, 0, none⟩), .slice (some ⟨b, o + 9 * x.1, none⟩) 9 9, .slice (some ⟨b, o, none⟩) n cap, .int .i64 n, .bool false, .bool false, .slice (some ⟨b, o, none⟩) n cap, .int .i64 n, .bool false, .bool false, .bool false, .slice (some ⟨b, o, none⟩) n cap, .int .i64 n, .int .i64 0, .bool false, .bool false, .slice (some ⟨b, o, none⟩) n cap, .func (.func 113) #[] #[.pointer (some ⟨w.heap.size + 1, 0, none⟩), .pointer (some ⟨w.heap.size + 2, 0, none⟩)], .slice (some ⟨b, o + 9 * x.1, none⟩) 9 9, undef, undef, undef, undef, undef, undef, undef, undef, undef, undef, undef, undef, undef, undef, undef], defers := [] }) ?assign ?body ?done ?stop
  case assign =>
    intro l x W K hK
    gi_wp2
    exact hK
  case body =>
    rintro l0 pre x W ⟨v, ho⟩ hlt
    have hxN := x.2
    have hx9 : 9 * x.1 + 9 ≤ n := by have := HN9.out; omega
    obtain ⟨p, hp⟩ : ∃ p, o + 9 * x.1 = p := ⟨_, rfl⟩
    have hrd2 : Rd w 1 (.slice (some ⟨b, p + 1, none⟩) 8 8) (cellsB ((l.drop (9 * x.1 + 1)).take 8)) := by
      have := rd_sub HRD.out (lo := 9 * x.1 + 1) (hi := 9 * x.1 + 9) (by omega) (by omega)
      rw [show 9 * x.1 + 9 - (9 * x.1 + 1) = 8 from by omega] at this
      rw [← hp, Nat.add_assoc]
      exact this.capped (Nat.le_refl _) (by have := H2.out; omega)
    have D0 : Hid (w.cell? ⟨b, p, none⟩ = some (.int .u8 (l.getD (9 * x.1) 0 : Nat))) := Lib.hid (by
      obtain ⟨b', o', e', _, hc⟩ := HC.out (9 * x.1) (by rw [cellsB_len, HL.out]; omega)
      cases e'
      rw [← hp, hc]; unfold cellsB; rw [List.getElem?_map, List.getElem?_eq_getElem (by rw [HL.out]; omega)]; simp [List.getD, List.getElem?_eq_getElem (show 9 * x.1 < l.length by rw [HL.out]; omega)])
    have HR2 := Lib.hid hrd2; clear hrd2
    have kF : ∀ w', Below w.heap.size w w' → Calls Try.prog 100 #[.slice (some ⟨b, p + 1, none⟩) 8 8] w' fun e w2 => e = .returned (.int .u64 (getI l x.1).2) ∧ w' = w2 := fun w' h =>
      FromLe_any _ _ w' (HR2.out.below h) (goodB_sub HG.out _ _)
    have HI : Hid (cellsI ((pre ++ [x]).map fun i => getI l i.1) = cellsI (pre.map fun i => getI l i.1) ++ [.int .i64 (getI l x.1).1, .int .u64 (getI l x.1).2]) := Lib.hid (by rw [List.map_append, List.map_cons, List.map_nil, cellsI_snoc])
    have H1 : Hid ((getI l x.1).1 = (l.getD (9 * x.1) 0 : Nat)) := Lib.hid rfl
    have hx8 : l.getD (9 * x.1) 0 < 256 := goodB_at HG.out _
    have PL : Hid ((cellsI (pre.map fun i => getI l i.1)).length = pre.length * 2) := Lib.hid (by rw [len_cellsI, List.length_map])
    rw [hp]
    rw [H1.out] at HI
    generalize l.getD (9 * x.1) 0 = x0 at *
    generalize (getI l x.1).2 = y at *
    generalize cellsI (pre.map fun i => getI l i.1) = C at *
    clear H1 HR2 hp hxN hx9
    dsimp only
    have q10 : IntKind.i64.wrap (x0 : Int) = (x0 : Int) := IntWalk.i64_in _ (by omega)
    have hB0 : Hid (∀ u ∈ [Value.int .i64 (x0 : Nat), Value.int .u64 (y : Nat)], u.oneCell' = true) := Lib.hid (fun u hu => by
      simp only [List.mem_cons, List.not_mem_nil, or_false] at hu
      rcases hu with rfl | rfl <;> rfl)
    have hB3 : 1 ≤ maxLen := by unfold maxLen; omega
    rcases ho.row with ⟨rfl, rfl⟩ | ⟨x1, hrow, hvr⟩
    · have hv0 := ho.vars
      have hB1 : [Value.int .i64 (x0 : Nat), Value.int .u64 (y : Nat)].length / 2 ≤ maxLen := by simp only [List.length_cons, List.length_nil]; unfold maxLen; omega
      have hB2 : [Value.int .i64 (x0 : Nat), Value.int .u64 (y : Nat)].length / 2 * 16 ≤ 140737488355328 := by simp only [List.length_cons, List.length_nil]; omega
      rw [List.nil_append] at HI
      gi_wp2
      refine Any.wpIn_region_walk [⟨[1002], none⟩, ⟨[], none⟩, ⟨[], none⟩, ⟨[], none⟩, ⟨[], none⟩, ⟨[], none⟩, ⟨[], none⟩, ⟨[], none⟩, ⟨[], none⟩, ⟨[], some 6⟩, ⟨[6], some 5⟩, ⟨[], some 1002⟩] [.val, .val, .val, .val, .val, .val, .val, .val, .val, .bsl 1 #[.int .i64 (x0 : Nat), .int .u64 (y : Nat)], .own (AppRow · 2 [Value.int .i64 (x0 : Nat), Value.int .u64 (y : Nat)]), .put] (by kernel_rfl) (by kernel_rfl) hv0 ?_
      simp only [List.length_cons, List.length_nil, Nat.zero_add, Any.someVals]
      iterate 12 apply Exists.intro
      repeat (first
        | ((with_reducible refine Any.at_ebsl ?_); refine Any.E_bsl (t := 77) rfl rfl rfl (fun w' => (by unfold execOp; go_simp)) ?_; intro B; simp only [Act.put, List.setIfInBounds_toArray, List.set_cons_succ, List.set_cons_zero])
        | ((with_reducible refine Any.at_eapp ?_); refine Any.E_appnil (i := 5) (j := 6) (kk := 2) rfl rfl rfl rfl rfl (by decide) rfl rfl rfl hB3 (List.cons_ne_nil _ _) (.agg #[.int .i64 0, .int .u64 0]) 16 Try.underlying57 infoI3 rfl (by decide) hB0.out hB1 hB2 ?_; intro v2 x2 hrow2; obtain ⟨n2, cap2, rfl, hrw⟩ := id hrow2; simp only [Act.put, List.setIfInBounds_toArray, List.set_cons_succ, List.set_cons_zero])
        | ((with_reducible refine Any.at_estore (T := 57) ?_); refine Any.E_putc (T := 57) rfl rfl rfl rfl rfl rfl (by kernel_rfl) rfl Nat.zero_lt_one ?_; simp only [Act.put, List.setIfInBounds_toArray, List.set_cons_succ, List.set_cons_zero])
        | (apply Any.E_val rfl rfl rfl rfl
           case h =>
             intro E' hA K hK
             first
               | ((with_reducible refine Any.at_qload (T := 57) ?_); refine Any.q_ldc 1002 hA (by decide) rfl rfl _ Try.underlying57 rfl (.slice none 0 0) rfl ?_; refine hK _ ?_; rfl)
               | ((with_reducible refine Any.at_qload (T := 5) ?_); refine Any.q_old rfl hb _ Try.underlying5 rfl _ D0.out ?_; refine hK _ ?_; rfl)
               | (go_big_quiet_op; first
                 | (refine hK _ ?_; rfl)
                 | (refine ⟨_, fun _ _ => rfl, ?_⟩; refine hK _ ?_; rfl)
                 | (apply Exists.intro; refine ⟨fun w1 hw1 => ?_, ?_⟩; · (first
                     | (go_at_call 100; exact Any.calls_VEq (kF _ hw1.below) hw1))
                    refine hK _ ?_; rfl))
           case hD => rfl
           simp only [Act.put, List.setIfInBounds_toArray, List.set_cons_succ, List.set_cons_zero]))
      refine Any.E_nil ?_
      intro w9 hE9
      have hk9 := Any.VE.keeps hv0 hE9 W1.heap.size
      have hsz9 : W.heap.size ≤ w9.heap.size := hE9.size
      have hvs : Vars w w9 [x2, (w.heap.size + 2, #[.int .i64 9]), (w.heap.size + 1, #[.slice (some ⟨b, o, none⟩) n cap]), (w.heap.size, #[.slice (some ⟨x2.1, 0, none⟩) n2 cap2])] := hE9.vars [5, 1000, 1001, 1002] (by decide)
      clear hE9
      gi_wp2
      exact ⟨hk9, chK_of ho.vars hvs hsz9 (.tail _ (.head _)) (.head _) (.tail _ (.tail _ (.head _))) (.tail _ (.head _)), ⟨_, hvs.drop, .inr ⟨x2, by rw [HI.out]; exact hrow2, hvs⟩⟩⟩
      all_goals exact undef
    · have hB1 : (C.length + [Value.int .i64 (x0 : Nat), Value.int .u64 (y : Nat)].length) / 2 ≤ maxLen := by have := PL.out; simp only [List.length_cons, List.length_nil]; unfold maxLen; omega
      have hB2 : (C.length + [Value.int .i64 (x0 : Nat), Value.int .u64 (y : Nat)].length) / 2 * 16 ≤ 140737488355328 := by have := PL.out; simp only [List.length_cons, List.length_nil]; omega
      gi_wp2
      refine Any.wpIn_region_walk [⟨[1003], none⟩, ⟨[], none⟩, ⟨[], none⟩, ⟨[], none⟩, ⟨[], none⟩, ⟨[], none⟩, ⟨[], none⟩, ⟨[], none⟩, ⟨[], none⟩, ⟨[], some 6⟩, ⟨[6], some 1000⟩, ⟨[], some 1003⟩] [.val, .val, .val, .val, .val, .val, .val, .val, .val, .bsl 1 #[.int .i64 (x0 : Nat), .int .u64 (y : Nat)], .own (AppRow · 2 (C ++ [Value.int .i64 (x0 : Nat), Value.int .u64 (y : Nat)])), .put] (by kernel_rfl) (by kernel_rfl) hvr ?_
      simp only [List.length_cons, List.length_nil, Nat.zero_add, Any.someVals]
      iterate 12 apply Exists.intro
      repeat (first
        | ((with_reducible refine Any.at_ebsl ?_); refine Any.E_bsl (t := 77) rfl rfl rfl (fun w' => (by unfold execOp; go_simp)) ?_; intro B; simp only [Act.put, List.setIfInBounds_toArray, List.set_cons_succ, List.set_cons_zero])
        | ((with_reducible refine Any.at_eapp ?_); refine Any.E_app (i := 1000) (j := 6) (kk := 2) (v := v) (c := C) (x0 := x1) rfl rfl rfl rfl rfl hrow rfl (by decide) rfl rfl rfl hB3 (.agg #[.int .i64 0, .int .u64 0]) 16 Try.underlying57 infoI3 rfl (by decide) hB0.out hB1 hB2 ?_; intro v2 x2 hrow2; obtain ⟨n2, cap2, rfl, hrw⟩ := id hrow2; simp only [Act.put, List.setIfInBounds_toArray, List.set_cons_succ, List.set_cons_zero])
        | ((with_reducible refine Any.at_estore (T := 57) ?_); refine Any.E_putc (T := 57) rfl rfl rfl rfl rfl rfl (by kernel_rfl) rfl Nat.zero_lt_one ?_; simp only [Act.put, List.setIfInBounds_toArray, List.set_cons_succ, List.set_cons_zero])
        | (apply Any.E_val rfl rfl rfl rfl
           case h =>
             intro E' hA K hK
             first
               | ((with_reducible refine Any.at_qload (T := 57) ?_); refine Any.q_ldc 1003 hA (by decide) rfl rfl _ Try.underlying57 rfl v rfl ?_; refine hK _ ?_; rfl)
               | ((with_reducible refine Any.at_qload (T := 5) ?_); refine Any.q_old rfl hb _ Try.underlying5 rfl _ D0.out ?_; refine hK _ ?_; rfl)
               | (go_big_quiet_op; first
                 | (refine hK _ ?_; rfl)
                 | (refine ⟨_, fun _ _ => rfl, ?_⟩; refine hK _ ?_; rfl)
                 | (apply Exists.intro; refine ⟨fun w1 hw1 => ?_, ?_⟩; · (first
                     | (go_at_call 100; exact Any.calls_VEq (kF _ hw1.below) hw1))
                    refine hK _ ?_; rfl))
           case hD => rfl
           simp only [Act.put, List.setIfInBounds_toArray, List.set_cons_succ, List.set_cons_zero]))
      refine Any.E_nil ?_
      intro w9 hE9
      have hk9 := Any.VE.keeps hvr hE9 W1.heap.size
      have hsz9 : W.heap.size ≤ w9.heap.size := hE9.size
      have hvs : Vars w w9 [x2, (w.heap.size + 2, #[.int .i64 9]), (w.heap.size + 1, #[.slice (some ⟨b, o, none⟩) n cap]), (w.heap.size, #[.slice (some ⟨x2.1, 0, none⟩) n2 cap2])] := hE9.vars [1000, 1001, 1002, 1003] (by decide)
      clear hE9
      gi_wp2
      exact ⟨hk9, chK_of ho.vars hvs hsz9 (.tail _ (.head _)) (.head _) (.tail _ (.tail _ (.head _))) (.tail _ (.head _)), ⟨_, hvs.drop, .inr ⟨x2, by rw [HI.out]; exact hrow2, hvs⟩⟩⟩
      all_goals exact undef
  case done =>
    rintro D ys W hD rfl ⟨v, ho⟩ hK
    have hkk : getN l N = getL l := by unfold getL; rw [HL.out, HN.out]
    rw [getN_fin, hkk] at ho
    clear hkk
    have hgL : ∀ x ∈ getL l, goodI x := getN_good HG.out _
    have kC := Check_any v (getL l) W ho.rd hgL
    clear hgL
    have hDW : D < W.heap.size := (Array.getElem?_eq_some_iff.1 hK).1
    have hD0 : w.heap.size ≤ D := by omega
    have c4 : W.cell? ⟨w.heap.size, 0, none⟩ = some v := vars_cell ho.vars (.tail _ (.tail _ (.head _)))
    by_cases hck : Cd.chk (getL l) = true
    · obtain ⟨z1, z2⟩ := form_ok HF.out hck
      have Z1 := Lib.hid z1; clear z1
      have Z2 := Lib.hid z2; clear z2
      rw [hck] at kC
      clear hck
      gi_wp2_with (refine ⟨trivial, ?_⟩; gi_at_call 68; (with_reducible refine (callsIn_wide.2 kC).mono ?_); rintro e w1 ⟨rfl, hn1⟩; replace ho := ho.new hn1; have hK1 := (hn1.block D hDW).trans hK; have c5 : w1.cell? ⟨w.heap.size, 0, none⟩ = some v := vars_cell ho.vars (.tail _ (.tail _ (.head _))); clear hn1 c4)
      refine ⟨by simp, .inl ⟨_, _, rfl, run_takeDeferred hK1, ?_⟩⟩
      have hT := ho.turn (grownBy_putObj' _ D (.deferred none)) (fun r e => by cases e; exact ⟨hD0, _, hK1, rfl⟩)
      exact ⟨_, results_tmp2 rfl _ _ _, _, by rw [Z1.out]; rfl, by rw [Z2.out]; exact hT.rd, hT.below⟩
    · replace hck := b_false hck
      obtain ⟨z1, z2⟩ := form_bad HF.out hck
      have Z1 := Lib.hid z1; clear z1
      have Z2 := Lib.hid z2; clear z2
      rw [hck] at kC
      clear hck
      gi_wp2_with (refine ⟨trivial, ?_⟩; gi_at_call 68; (with_reducible refine (callsIn_wide.2 kC).mono ?_); rintro e w1 ⟨rfl, hn1⟩; replace ho := ho.new hn1; have hK1 := (hn1.block D hDW).trans hK; have c5 : w1.cell? ⟨w.heap.size, 0, none⟩ = some v := vars_cell ho.vars (.tail _ (.tail _ (.head _))); clear hn1 c4)
      refine ⟨by simp, .inl ⟨_, _, rfl, run_takeDeferred hK1, ?_⟩⟩
      have hT := ho.turn (grownBy_putObj' _ D (.deferred none)) (fun r e => by cases e; exact ⟨hD0, _, hK1, rfl⟩)
      exact ⟨_, results_tmp2 rfl _ _ _, _, by rw [Z1.out]; rfl, by rw [Z2.out]; exact Rd.nil _ _, hT.below⟩
  case stop =>
    rintro D c pre W _ _ h _
    exact h.elim

set_option maxRecDepth 100000 in
set_option maxHeartbeats 8000000 in
theorem Get_any (v : Value) (l : List Nat) (w : World) (hrd : Rd w 1 v (cellsB l)) (hg : goodB l) : Calls Try.prog 60 #[v] w (GetR w l) := by
  have HRD := Lib.hid hrd
  obtain ⟨ao, n, cap, rfl, h1, h2, h3, h4, h5⟩ := hrd
  rw [cellsB_len, Nat.mul_one] at h1
  have HL := Lib.hid h1; clear h1
  by_cases hf : formB l = true
  · have hl : 0 < (cellsB l).length := by
      rw [cellsB_len]; unfold formB at hf
      simp only [Bool.and_eq_true, decide_eq_true_eq] at hf; omega
    obtain ⟨b, o, rfl, _, _⟩ := h5 0 hl
    exact callsIn_wide.1 (Get_ok b o n cap l w HRD.out hg hf)
  · clear h5 h4
    have hm : n ≤ 9223372036854775807 := by unfold maxLen at h3; omega
    have h2' : n ≤ cap := h2
    clear h2 h3 HRD
    replace hf := b_false hf
    obtain ⟨z1, z2⟩ := form_no hf
    have hn : n = 0 ∨ (0 < n ∧ 1152 < n) ∨ (0 < n ∧ n ≤ 1152 ∧ n % 9 ≠ 0) := by
      by_cases g1 : n = 0
      · omega
      · by_cases g2 : n ≤ 1152
        · by_cases g3 : n % 9 = 0
          · unfold formB at hf
            have g4 : 9 ≤ n := by omega
            rw [HL.out, decide_eq_true g4, decide_eq_true g2, decide_eq_true g3] at hf
            cases hf
          · omega
        · omega
    have Z1 := Lib.hid z1; clear z1
    have Z2 := Lib.hid z2; clear z2
    clear hf
    rcases hn with hn | ⟨hn, hn2⟩ | ⟨hn, hn2, hn3⟩
    · subst hn
      go_enter Try.func60, Try.ntmps60
      go_wp2
      go_ret2
      exact ⟨_, by rw [Z1.out]; rfl, by rw [Z2.out]; exact Rd.nil _ _, Below.refl _ _⟩
    · have a1 : ((n : Int) == 0) = false := by rw [beq_eq_false_iff_ne]; omega
      have a2 : (1152 : Int) < n := by omega
      go_enter Try.func60, Try.ntmps60
      go_wp2
      go_ret2
      exact ⟨_, by rw [Z1.out]; rfl, by rw [Z2.out]; exact Rd.nil _ _, Below.refl _ _⟩
    · have a1 : ((n : Int) == 0) = false := by rw [beq_eq_false_iff_ne]; omega
      have a2 : ¬ (1152 : Int) < n := by omega
      have a3 : ((n : Int) % 9 != 0) = true := by rw [bne_iff_ne]; omega
      go_enter Try.func60, Try.ntmps60
      go_wp2
      go_ret2
      exact ⟨_, by rw [Z1.out]; rfl, by rw [Z2.out]; exact Rd.nil _ _, Below.refl _ _⟩
end Go.Proofs.Ythpodinbbmgfoaa
