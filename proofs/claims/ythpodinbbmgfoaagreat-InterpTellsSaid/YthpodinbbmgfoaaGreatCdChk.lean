/-
  The walks of code.Check and what it calls.
-/
import Derived.Test.YthpodinbbmgfoaaGreatCdBase
import Derived.Test.YthpodinbbmgfoaaGreatProg
import Derived.WalkMore
set_option linter.unusedSimpArgs false
set_option linter.unusedVariables false
namespace Go.Proofs.YthpodinbbmgfoaaGreat
open Go.Proofs.Cd Go.RowKit

/-- slices.Index of integers, on cells that are known. -/
theorem Index_ints (b n cap : Nat) (z : Nat → Int) (x : Int) (w : World) (hn : n ≤ 9223372036854775807) (hc : ∀ i, i < n → w.cell? ⟨b, i, none⟩ = some (.int .i64 (z i))) :
    Calls Tryz.prog 100 #[.slice (some ⟨b, 0, none⟩) n cap, .int .i64 x] w fun e w' => (∃ k : Nat, k < n ∧ z k = x ∧ e = .returned (.int .i64 k) ∧ w = w') ∨ ((∀ k, k < n → z k ≠ x) ∧ e = .returned (.int .i64 (-1)) ∧ w = w') := by
  have HC := Lib.hid hc; clear hc
  go_enter Tryz.func100, Tryz.ntmps100
  go_wp2
  go_loop [5, 8] (fun j i => ∃ k : Nat, k ≤ n ∧ i = .int .i64 k ∧ Hid (∀ j, j < k → z j ≠ x)) (fun _ i => n - (intOf i).toNat)
  case atStart => exact ⟨0, by omega, rfl, Lib.hid fun j h => by omega⟩
  case round =>
    obtain ⟨k, hk, rfl, hb⟩ := hrel
    by_cases hk2 : k < n
    · have hki : (k : Int) < (n : Int) := by omega
      have hcx := HC.out k hk2
      by_cases hz : x = z k
      · go_wp2
        go_ret
        exact .inl ⟨k, hk2, by simp [hz], rfl, rfl⟩
      · go_wp2
        go_round
        case rel => exact ⟨k + 1, by omega, by go_num, Lib.hid fun j hj => by rcases Nat.lt_or_ge j k with g | g; · exact hb.out j g
                                                                              · rw [show j = k from by omega]; exact fun e => hz e.symm⟩
        case measure => simp [intOf]; omega
    · have hki : ¬ (k : Int) < (n : Int) := by omega
      go_wp2
      go_ret
      exact .inr ⟨fun j hj => hb.out j (by omega), rfl, rfl⟩
theorem Contains_ints (b n cap : Nat) (z : Nat → Int) (x : Int) (c : Bool) (w : World) (hn : n ≤ 9223372036854775807) (hc : ∀ i, i < n → w.cell? ⟨b, i, none⟩ = some (.int .i64 (z i))) (hx : c = true ↔ ∃ k, k < n ∧ z k = x) :
    Calls Tryz.prog 75 #[.slice (some ⟨b, 0, none⟩) n cap, .int .i64 x] w fun e w' => e = .returned (.bool c) ∧ w = w' := by
  have hi := Index_ints b n cap z x w hn hc
  have HC := Lib.hid hc; clear hc
  cases c
  · have hno : ∀ k, k < n → z k ≠ x := fun k hk e => by have := hx.2 ⟨k, hk, e⟩; cases this
    have hi' := hi.mono (R' := fun e w' => e = .returned (.int .i64 (-1)) ∧ w = w') fun e w' h => by
      rcases h with ⟨k, hk, e, _⟩ | ⟨_, h⟩
      · exact absurd e (hno k hk)
      · exact h
    clear hi hx hno
    go_enter Tryz.func75, Tryz.ntmps75
    go_wp2_with (go_at_call 100; refine hi'.mono ?_; rintro e w' ⟨rfl, rfl⟩)
    go_ret
    exact ⟨rfl, rfl⟩
  · obtain ⟨k0, hk0, e0⟩ := hx.1 rfl
    have hi' := hi.mono (R' := fun e w' => ∃ k : Nat, e = .returned (.int .i64 k) ∧ w = w') fun e w' h => by
      rcases h with ⟨k, hk, _, h⟩ | ⟨h, _⟩
      · exact ⟨k, h⟩
      · exact absurd e0 (h k0 hk0)
    clear hi hx e0
    go_enter Tryz.func75, Tryz.ntmps75
    go_wp2_with (go_at_call 100; refine hi'.mono ?_; rintro e w' ⟨k, rfl, rfl⟩)
    all_goals
      go_ret
      exact ⟨rfl, rfl⟩

theorem ends_any (op : Int) (w : World) : Calls Tryz.prog 35 #[.int .i64 op] w fun e w' => e = .returned (.bool (isEnd op)) ∧ New w w' := by
  obtain ⟨W, hW⟩ : ∃ W : World, w.alloc (.cells #[.int .i64 0, .int .i64 20, .int .i64 23] 3) = W := ⟨_, rfl⟩
  obtain ⟨f1, f2, f5, f6⟩ := one_block (w := w) (c := #[.int .i64 0, .int .i64 20, .int .i64 23]) (t := 3) (Below.refl _ _)
  rw [hW] at f1 f2 f5 f6
  have kC : Calls Tryz.prog 75 #[.slice (some ⟨w.heap.size, 0, none⟩) 3 3, .int .i64 op] W fun e w' => e = .returned (.bool (isEnd op)) ∧ W = w' := by
    refine Contains_ints w.heap.size 3 3 (fun i => [0, 20, 23].getD i 0) op _ W (by omega) (fun i hi => ?_) ?_
    · rw [cell_rowD, f1]
      match i, hi with
      | 0, _ => rfl
      | 1, _ => rfl
      | 2, _ => rfl
    · unfold isEnd
      constructor
      · intro h
        simp only [Bool.or_eq_true, beq_iff_eq] at h
        rcases h with (h | h) | h
        · exact ⟨0, by omega, h.symm⟩
        · exact ⟨1, by omega, h.symm⟩
        · exact ⟨2, by omega, h.symm⟩
      · rintro ⟨k, hk, e⟩
        match k, hk, e with
        | 0, _, e => simp at e; subst e; rfl
        | 1, _, e => simp at e; subst e; rfl
        | 2, _, e => simp at e; subst e; rfl
  go_enter Tryz.func35, Tryz.ntmps35
  go_wp2_with (go_at_call 75; refine kC.mono ?_; rintro e w1 ⟨rfl, rfl⟩)
  go_ret
  exact ⟨rfl, f6⟩
theorem below_any (op : Int) (n : Nat) (w : World) (h1 : op ≠ 1) (hn : n ≤ 128) : Calls Tryz.prog 36 #[.int .i64 op, .int .i64 n] w fun e w' => e = .returned (.tuple #[.int .u64 (bel op n), .bool true]) ∧ w = w' := by
  unfold bel
  by_cases h2 : op = 20 <;> by_cases h3 : op = 21 <;> by_cases h4 : op = 22 <;> by_cases h5 : op = 5 <;> by_cases h6 : op = 37
  all_goals first
    | (exfalso; omega)
    | skip
  all_goals try subst op
  all_goals
    go_enter Tryz.func36, Tryz.ntmps36
    go_wp2
    go_ret2
    refine ⟨?_, rfl⟩
    simp [*]
theorem below_push (n : Nat) (w : World) : Calls Tryz.prog 36 #[.int .i64 1, .int .i64 n] w fun e w' => e = .returned (.tuple #[.int .u64 0, .bool false]) ∧ w = w' := by
  go_enter Tryz.func36, Tryz.ntmps36
  go_wp2
  go_ret2
  exact ⟨rfl, rfl⟩

theorem Check_any (v : Value) (l : List Inst) (w : World) (hrd : Rd w 2 v (cellsI l)) (hg : ∀ x ∈ l, goodI x) :
    Calls Tryz.prog 23 #[v] w fun e w' => e = .returned (.bool (Cd.chk l)) ∧ New w w' := by
  obtain ⟨ao, n, cap, rfl, h1, h2, h3, h4, h5⟩ := id hrd
  rw [len_cellsI] at h1
  have HL : Hid (l.length = n) := Lib.hid (by omega)
  have hm : n ≤ 9223372036854775807 := by unfold maxLen at h3; omega
  clear h1 h2 h3 h4 h5
  by_cases hn1 : n < 1
  · have hn1i : (n : Int) < 1 := by omega
    rw [chk_short (by have := HL.out; omega)]
    go_enter Tryz.func23, Tryz.ntmps23
    go_wp2
    go_step3
    go_wp2
    try rw [Exit.noGoto_ret]
    go_ret
    exact ⟨rfl, Below.refl _ _⟩
  by_cases hn2 : 128 < n
  · have hn2i : (128 : Int) < (n : Int) := by omega
    have hn1i : ¬ (n : Int) < 1 := by omega
    rw [chk_long (by have := HL.out; omega)]
    go_enter Tryz.func23, Tryz.ntmps23
    go_wp2
    go_step3
    go_wp2
    try rw [Exit.noGoto_ret]
    go_ret
    exact ⟨rfl, Below.refl _ _⟩
  have hn2i : ¬ (128 : Int) < (n : Int) := by omega
  have hn1i : ¬ (n : Int) < 1 := by omega
  obtain ⟨b, o, n', cap', e, _, _, _, hb, hc⟩ := hrd.some (by rw [len_cellsI, HL.out]; omega)
  cases e
  have hlast : w.cell? ⟨b, o + (n - 1) * 2, none⟩ = some (.int .i64 (l.getD (n - 1) (1, 0)).1) := by
    rw [hc _ (by rw [len_cellsI, HL.out]; omega), get_op l (by rw [HL.out]; omega)]
    simp [List.getD, List.getElem?_eq_getElem (show n - 1 < l.length by rw [HL.out]; omega)]
  have HC := Lib.hid hc; clear hc
  by_cases he : isEnd (l.getD (n - 1) (1, 0)).1 = true
  · have HE := Lib.hid he; clear he
    have HG := Lib.hid hg; clear hg
    generalize hz : (l.getD (n - 1) (1, 0)).1 = z at *
    have HZ := Lib.hid hz; clear hz
    have he : isEnd z = true := HE.out
    clear hrd HE
    go_enter Tryz.func23, Tryz.ntmps23
    go_wp2
    go_step3
    go_wp2_with (go_at_call 35; refine (ends_any _ _).mono ?_; rintro e w1 ⟨rfl, hn1⟩)
    go_step3
    go_wp2
    go_loopw [28] (fun i wr => ∃ k : Nat, k ≤ n ∧ i = .int .i64 k ∧ Hid (∀ j, j < k → okI n (l.getD j (1, 0)) = true) ∧ New w wr) (fun i _ => n - (intOf i).toNat)
    case atStart => exact ⟨0, by omega, rfl, Lib.hid fun j h => by omega, hn1⟩
    case round =>
      clear hn1
      obtain ⟨k, hk, rfl, hok, hn1⟩ := hrel
      rename_i wr
      by_cases hk2 : k < n
      · have hki : (k : Int) < (n : Int) := by omega
        obtain ⟨op, arg, hx⟩ : ∃ op arg, l.getD k (1, 0) = (op, arg) := ⟨_, _, rfl⟩
        have hkl : k < l.length := by rw [HL.out]; exact hk2
        have hx' : l[k] = (op, arg) := by rw [← hx]; simp [List.getD, List.getElem?_eq_getElem hkl]
        obtain ⟨g1, g2, g3⟩ := HG.out l[k] (List.getElem_mem hkl)
        rw [hx'] at g1 g2 g3
        have c0 : wr.cell? ⟨b, o + k * 2, none⟩ = some (.int .i64 op) := by rw [hn1.cell (p := ⟨b, o + k * 2, none⟩) hb, HC.out _ (by rw [len_cellsI, HL.out]; omega), get_op l hkl, hx']
        have c1 : wr.cell? ⟨b, o + k * 2 + 1, none⟩ = some (.int .u64 arg) := by rw [hn1.cell (p := ⟨b, o + k * 2 + 1, none⟩) hb, Nat.add_assoc, HC.out _ (by rw [len_cellsI, HL.out]; omega), get_arg l hkl, hx']
        have HX := Lib.hid hx; clear hx hx'
        dsimp only at g1 g2 g3
        have G1 := Lib.hid g1; clear g1
        have G2 := Lib.hid g2; clear g2
        have G3 := Lib.hid g3; clear g3
        have bad : okI n (op, arg) = false → Cd.chk l = false := fun h => chk_one hkl (by
          have := HX.out; simp only [List.getD, List.getElem?_eq_getElem hkl, Option.getD_some] at this; rw [this, HL.out]; exact h)
        have BAD := Lib.hid bad; clear bad
        have good : okI n (op, arg) = true → ∀ j, j < k + 1 → okI n (l.getD j (1, 0)) = true := fun h j hj => by
          rcases Nat.lt_or_ge j k with g | g
          · exact hok.out j g
          · rw [show j = k from by omega, HX.out]; exact h
        have GOOD := Lib.hid good; clear good
        by_cases a1 : op < 0
        · go_wp2
          try rw [Exit.noGoto_ret]
          go_ret
          exact ⟨ret_b (BAD.out (by unfold okI; rw [decide_eq_false (by dsimp only; omega)]; rfl)).symm, hn1.to ((Below.refl _ _).alloc (Nat.le_refl _) _)⟩
        by_cases a2 : 37 < op
        · go_wp2
          try rw [Exit.noGoto_ret]
          go_ret
          exact ⟨ret_b (BAD.out (by unfold okI; rw [decide_eq_false (p := op ≤ 37) (by omega)]; simp)).symm, hn1.to ((Below.refl _ _).alloc (Nat.le_refl _) _)⟩
        by_cases a3 : op = 1
        · subst a3
          have kB : ∀ w, Calls Tryz.prog 36 #[.int .i64 1, .int .i64 n] w fun e w' => e = .returned (.tuple #[.int .u64 0, .bool false]) ∧ w = w' := fun w => below_push n w
          go_wp2_with (go_at_call 36; refine (kB _).mono ?_; rintro e w2 ⟨rfl, rfl⟩)
          go_roundw
          case rel => exact ⟨k + 1, by omega, by go_num, Lib.hid (GOOD.out (by unfold okI bel; have := G3.out; simp; omega)), hn1.to ((Below.refl _ _).alloc (Nat.le_refl _) _)⟩
          case measure => simp [intOf]; omega
        have kB : ∀ w, Calls Tryz.prog 36 #[.int .i64 op, .int .i64 n] w fun e w' => e = .returned (.tuple #[.int .u64 (bel op n), .bool true]) ∧ w = w' := fun w => below_any op n w a3 (by omega)
        generalize hm : bel op n = m at *
        have HM := Lib.hid hm; clear hm
        by_cases a4 : arg < m
        · have a4i : (arg : Int) < (m : Int) := by omega
          go_wp2_with (go_at_call 36; refine (kB _).mono ?_; rintro e w2 ⟨rfl, rfl⟩)
          go_roundw
          case rel => exact ⟨k + 1, by omega, by go_num, Lib.hid (GOOD.out (by unfold okI; have := HM.out; rw [decide_eq_true (by dsimp only; omega), decide_eq_true (by dsimp only; omega), decide_eq_true (by dsimp only; rw [this]; exact a4)]; rfl)), hn1.to ((Below.refl _ _).alloc (Nat.le_refl _) _)⟩
          case measure => simp [intOf]; omega
        · have a4i : (m : Int) ≤ (arg : Int) := by omega
          go_wp2_with (go_at_call 36; refine (kB _).mono ?_; rintro e w2 ⟨rfl, rfl⟩)
          try rw [Exit.noGoto_ret]
          go_ret
          exact ⟨ret_b (BAD.out (by unfold okI; have := HM.out; rw [decide_eq_false (p := (op, arg).2 < bel (op, arg).1 n) (by dsimp only; rw [this]; exact a4)]; simp)).symm, hn1.to ((Below.refl _ _).alloc (Nat.le_refl _) _)⟩
      · have hki : ¬ (k : Int) < (n : Int) := by omega
        go_wp2
        try rw [Exit.noGoto_ret]
        go_ret
        refine ⟨ret_b (chk_of (by rw [HL.out]; omega) (by rw [HL.out]; omega) (by rw [HL.out, HZ.out]; exact he) (fun i hi => ?_)).symm, hn1⟩
        have := hok.out i (by have := HL.out; omega)
        rw [HL.out]
        simpa only [List.getD, List.getElem?_eq_getElem hi, Option.getD_some] using this
  · replace he := b_false he
    rw [chk_end (by rw [HL.out]; exact he)]
    generalize (l.getD (n - 1) (1, 0)).1 = z at *
    go_enter Tryz.func23, Tryz.ntmps23
    go_wp2
    go_step3
    go_wp2_with (go_at_call 35; refine (ends_any _ _).mono ?_; rintro e w1 ⟨rfl, hn1⟩)
    try rw [Exit.noGoto_ret]
    go_ret
    exact ⟨rfl, hn1⟩
end Go.Proofs.YthpodinbbmgfoaaGreat
