/-
  What interp.Do answers.
-/
import Derived.Test.YthpodinbbmgfoaaGreatIpDoA
set_option linter.unusedVariables false
set_option linter.unusedSimpArgs false
namespace Go.Proofs.Ip
open Go Go.RowKit Go.Proofs.Cd
theorem chk_ok {l : List Inst} (h : Cd.chk l = true) {k : Nat} (hk : k < l.length) {op : Int} {arg : Nat} (hx : l[k] = (op, arg)) : 0 ≤ op ∧ op ≤ 37 ∧ arg < bel op l.length ∧ l.length ≤ 128 := by
  unfold Cd.chk at h
  simp only [Bool.and_eq_true, decide_eq_true_eq, List.all_eq_true] at h
  obtain ⟨⟨⟨h1, h2⟩, h3⟩, h4⟩ := h
  have := h4 _ (List.getElem_mem hk)
  rw [hx] at this
  unfold okI at this
  simp only [Bool.and_eq_true, decide_eq_true_eq] at this
  exact ⟨this.1.1, this.1.2, this.2, h2⟩
theorem last_split {C : List Int} (h : C ≠ []) : C = C.dropLast ++ [C.getLastD 0] := by
  rw [List.getLastD_eq_getLast?, List.getLast?_eq_some_getLast h]
  exact (List.dropLast_concat_getLast h).symm
end Go.Proofs.Ip
namespace Go.Proofs.YthpodinbbmgfoaaGreat
open Go.Proofs.Ip Go.Proofs.Pt Go.Proofs.Pg Go.Proofs.Cd Go.RowKit Go.Shelf
theorem Do_any (st pc sk er : Int) (wk : Nat) (S : List Nat) (C : List Int) (sv cv lv : Value) (l : List Cd.Inst) (b : Nat → Bool) (q : Nat → Nat → Nat) (w0 w : World) (L : List (Nat × Array Value)) (R : List (Nat × Value × List Value)) (hv0 : Mem w0 w L R) (hl : (2, lv, cellsI l) ∈ R) (hg : ∀ x ∈ l, goodI x) (hs : (1, sv, cellsU S) ∈ R) (hc : (1, cv, cellsN C) ∈ R) (hu : ∀ x ∈ S, x < 18446744073709551616) :
    Calls Tryz.prog 6 #[lv, .agg (thC st pc sv cv wk sk er), .agg (pg b q)] w (DoA w0 L R b (doF l ⟨st, pc, S, C, wk, sk, er⟩ b q)) := by
  obtain ⟨sa, sn, sc, rfl, s1, _⟩ := id (hv0.rd hs)
  obtain ⟨ca, cn, cc, rfl, r1, _⟩ := id (hv0.rd hc)
  obtain ⟨la, ln, lcap, rfl, l1, _⟩ := id (hv0.rd hl)
  rw [cellsU_len, Nat.mul_one] at s1
  rw [cellsN_len, Nat.mul_one] at r1
  by_cases hin : inB l ⟨st, pc, S, C, wk, sk, er⟩ = true
  · have hd : doF l ⟨st, pc, S, C, wk, sk, er⟩ b q = (let x := l.getD pc.toNat (1, 0)
        if isMove x.1 then ((moveF x.1 x.2 ⟨st, pc, S, C, wk, sk, er⟩).1, q, (moveF x.1 x.2 ⟨st, pc, S, C, wk, sk, er⟩).2) else restF x.1 x.2 ⟨st, pc, S, C, wk, sk, er⟩ b q) := by unfold doF; exact if_pos hin
    rw [hd]
    unfold inB at hin
    simp only [Bool.and_eq_true, decide_eq_true_eq] at hin
    obtain ⟨⟨⟨⟨h1, h2⟩, h3⟩, h4⟩, hck⟩ := hin
    obtain ⟨k, rfl⟩ : ∃ k : Nat, pc = (k : Int) := ⟨pc.toNat, by omega⟩
    have hk : k < l.length := by omega
    obtain ⟨op, arg, hx⟩ : ∃ op arg, l[k] = (op, arg) := ⟨_, _, rfl⟩
    have hgd : l.getD (k : Int).toNat (1, 0) = (op, arg) := by rw [Int.toNat_natCast, List.getD_eq_getElem?_getD, List.getElem?_eq_getElem hk, hx]; rfl
    rw [hgd]
    obtain ⟨h0, h37, hb, hn⟩ := chk_ok hck hk hx
    have kB : ∀ w', Rd w' 2 (.slice la ln lcap) (cellsI l) → Rd w' 1 (.slice sa sn sc) (cellsU S) → Rd w' 1 (.slice ca cn cc) (cellsN C) → Calls Tryz.prog 14 #[.slice la ln lcap, .agg (thC st (k : Int) (.slice sa sn sc) (.slice ca cn cc) wk sk er), .agg (pg b q)] w' (BegunA Tryz.prog w' (thC st (k : Int) (.slice sa sn sc) (.slice ca cn cc) wk sk er) (pg b q) op arg) := fun w' g1 g2 g3 =>
      begun_any st sk er wk k S C _ _ _ l b q op arg w' g1 hg g2 g3 hk h3 h4 hck hx h0 h37
    dsimp only
    by_cases hm : isMove op = true
    · rw [if_pos hm]
      have hop : op = 0 ∨ op = 37 ∨ op = 23 ∨ op = 22 ∨ op = 20 := by
        unfold isMove at hm
        simp only [Bool.or_eq_true, beq_iff_eq] at hm
        rcases hm with (((h | h) | h) | h) | h <;> simp [h]
      rcases hop with rfl | rfl | rfl | rfl | rfl
      · exact Do_moveE st (k : Int) sk er wk S C sa ca la sn sc cn cc ln lcap l b q w0 w L R hv0 hl hs hc 0 arg 310 (by decide) kB (fun w' bD two one L' R' _ hv => moves_halt st (k : Int) sk er wk _ _ _ two one (pg b q) arg bD w0 w' L' R' (size_pg b q) hv)
      · exact Do_moveE st (k : Int) sk er wk S C sa ca la sn sc cn cc ln lcap l b q w0 w L R hv0 hl hs hc 37 arg 302 (by decide) kB (fun w' bD two one L' R' _ hv => moves_sys st (k : Int) sk er wk _ _ _ two one (pg b q) arg bD w0 w' L' R' (size_pg b q) hv)
      · by_cases hC : C = []
        · have e : moveF 23 arg ⟨st, (k : Int), S, C, wk, sk, er⟩ = (⟨st, (k : Int), S, C, wk, sk, er⟩, 310) := by unfold moveF; simp [hC]
          rw [e]
          exact Do_moveE st (k : Int) sk er wk S C sa ca la sn sc cn cc ln lcap l b q w0 w L R hv0 hl hs hc 23 arg 310 (by decide) kB (fun w' bD two one L' R' _ hv => moves_ret0 st (k : Int) sk er wk _ _ two one (pg b q) arg bD w0 w' L' R' (size_pg b q) ca cn cc (by rw [hC] at r1; simpa using r1.symm) hv)
        · have e : moveF 23 arg ⟨st, (k : Int), S, C, wk, sk, er⟩ = (⟨st, C.getLastD 0, S, C.dropLast, wk, sk, er⟩, 0) := by unfold moveF; simp [hC]
          rw [e]
          have hpos : 0 < C.length := List.length_pos_iff.2 hC
          obtain ⟨cb, co, _, _, e2, _⟩ := (hv0.rd hc).some (by rw [cellsN_len]; omega)
          cases e2
          obtain ⟨m, rfl⟩ : ∃ m, cn = m + 1 := ⟨cn - 1, by omega⟩
          have hsp := last_split hC
          exact Do_moveO st (k : Int) sk er wk S C sa _ la sn sc (m + 1) cc ln lcap l b q w0 w L R hv0 hl hs hc 23 arg (C.getLastD 0) C.dropLast kB (fun w' bD two one L' R' hR hv =>
            (moves_ret st (k : Int) sk er wk _ _ two one (pg b q) arg bD w0 w' L' R' (size_pg b q) cb co m cc C.dropLast (C.getLastD 0) (by rw [List.length_dropLast]; omega) (by omega) (by rw [← hsp]; exact hR _ hc) hv).mono fun e w2 ⟨g1, cv', g2⟩ => by
              obtain ⟨pa, pn, pcp, rfl, _⟩ := id (g2.rd Mem.z)
              exact ⟨pa, pn, pcp, g1, g2⟩)
      · have ha : arg ≤ 128 := by
          have : bel 22 l.length = l.length := by unfold bel; simp
          omega
        by_cases hC : C.length = 16
        · have e : moveF 22 arg ⟨st, (k : Int), S, C, wk, sk, er⟩ = (⟨st, (k : Int), S, C, wk, sk, er⟩, 300) := by unfold moveF; simp [hC]
          rw [e]
          exact Do_moveE st (k : Int) sk er wk S C sa ca la sn sc cn cc ln lcap l b q w0 w L R hv0 hl hs hc 22 arg 300 (by decide) kB (fun w' bD two one L' R' _ hv => moves_full st (k : Int) sk er wk _ _ two one (pg b q) arg bD w0 w' L' R' (size_pg b q) ca cn cc (by omega) hv)
        · have e : moveF 22 arg ⟨st, (k : Int), S, C, wk, sk, er⟩ = (⟨st, (arg : Nat), S, C ++ [(k : Int) + 1], wk, sk, er⟩, 0) := by unfold moveF; simp [hC]
          rw [e]
          exact Do_moveO st (k : Int) sk er wk S C sa ca la sn sc cn cc ln lcap l b q w0 w L R hv0 hl hs hc 22 arg (arg : Nat) (C ++ [(k : Int) + 1]) kB (fun w' bD two one L' R' hR hv =>
            (moves_call st (k : Int) sk er wk _ _ two one (pg b q) arg bD w0 w' L' R' (size_pg b q) ca cn cc C ha (by omega) (by omega) (by omega) (by omega) (hR _ hc) hv).mono fun e w2 ⟨g1, cv', g2⟩ => by
              obtain ⟨pa, pn, pcp, rfl, _⟩ := id (g2.rd Mem.z)
              exact ⟨pa, pn, pcp, g1, g2⟩)
      · have ha : arg ≤ 128 := by
          have : bel 20 l.length = l.length := by unfold bel; simp
          omega
        have e : moveF 20 arg ⟨st, (k : Int), S, C, wk, sk, er⟩ = (⟨st, (arg : Nat), S, C, wk, sk, er⟩, 0) := by unfold moveF; simp
        rw [e]
        exact Do_moveO st (k : Int) sk er wk S C sa ca la sn sc cn cc ln lcap l b q w0 w L R hv0 hl hs hc 20 arg (arg : Nat) C kB (fun w' bD two one L' R' hR hv =>
            (moves_jump st (k : Int) sk er wk _ (.slice ca cn cc) _ two one (pg b q) arg bD w0 w' L' R' (size_pg b q) ha hv).mono fun e w2 ⟨g1, g2⟩ =>
              ⟨ca, cn, cc, g1, g2.add (g2.rd (hR _ hc)) (g2.rds _ (hR _ hc)).2⟩)
    · rw [if_neg hm]
      have hm' := b_false hm
      have hne : op ≠ 0 ∧ op ≠ 37 ∧ op ≠ 23 ∧ op ≠ 22 ∧ op ≠ 20 := by
        unfold isMove at hm'
        simp only [Bool.or_eq_false_iff, beq_eq_false_iff_ne] at hm'
        exact ⟨hm'.1.1.1.1, hm'.2, hm'.1.2, hm'.1.1.2, hm'.1.1.1.2⟩
      have ha : op = 5 → arg < 32 := fun h => by
        subst h
        have : bel 5 l.length = 32 := by unfold bel; simp
        omega
      have ha2 : op = 21 → arg ≤ 128 := fun h => by
        subst h
        have : bel 21 l.length = l.length := by unfold bel; simp
        omega
      have kM : ∀ (w' : World) (bD : Nat) (two one : Value) (L' : List (Nat × Array Value)) (R' : List (Nat × Value × List Value)), Mem w0 w' ((bD, deed (thC st (k : Int) (.slice sa sn sc) (.slice ca cn cc) wk sk er) (pg b q) #[.int .i64 op, .int .u64 (arg : Nat), .slice none 0 0, two, one]) :: L') R' → Calls Tryz.prog 15 #[.pointer (some ⟨bD, 0, none⟩)] w' fun e w2 => e = .returned (.tuple #[.int .i64 0, .bool false]) ∧ w' = w2 := fun w' bD two one L' R' hv =>
        moves_no st (k : Int) sk er wk _ _ _ two one (pg b q) arg bD w0 w' L' R' (size_pg b q) op hne.1 hne.2.1 hne.2.2.1 hne.2.2.2.1 hne.2.2.2.2 hv
      have kD : ∀ (w' : World) (bD : Nat) (two one : Value) (L' : List (Nat × Array Value)) (R' R2 : List (Nat × Value × List Value)), (1, .slice sa sn sc, cellsU S) ∈ R' → (∀ z ∈ R2, z ∈ R') → Fns Tryz.prog op two one R2 → Mem w0 w' ((bD, deed (thC st (k : Int) (.slice sa sn sc) (.slice ca cn cc) wk sk er) (pg b q) #[.int .i64 op, .int .u64 (arg : Nat), .slice none 0 0, two, one]) :: L') R' → Calls Tryz.prog 16 #[.pointer (some ⟨bD, 0, none⟩)] w' (DoR w0 bD (.slice ca cn cc) L' R' (restF op arg ⟨st, (k : Int), S, C, wk, sk, er⟩ b q) b) := fun w' bD two one L' R' R2 hS' hR2 fns hv =>
        do_any st (k : Int) sk er wk b q op arg bD w0 w' L' R' R2 two one S C sa ca sn sc cn cc h0 h37 hm' ha ha2 hu (by omega) (by omega) hS' h3 fns hR2 hv
      have hkp := restF_keeps op arg ⟨st, (k : Int), S, C, wk, sk, er⟩ b q
      have her := restF_err op arg ⟨st, (k : Int), S, C, wk, sk, er⟩ b q
      generalize restF op arg ⟨st, (k : Int), S, C, wk, sk, er⟩ b q = r at *
      by_cases hr : r.2.2 = 0
      · obtain ⟨⟨st', pc', S', C', wk', sk', er'⟩, q', e'⟩ := r
        simp only at hkp hr
        obtain ⟨rfl, rfl, rfl, rfl, rfl⟩ := hkp
        subst hr
        exact Do_restO _ (k : Int) _ _ _ S _ sa ca la sn sc cn cc ln lcap l b q w0 w L R hv0 hl hs hc op arg pc' S' q' kB (fun w' bD two one L' R' _ hv => kM w' bD two one L' R' hv) (fun w' bD two one L' R' R2 hR hR2 fns hv =>
          (kD w' bD two one L' R' R2 (hR _ hs) hR2 fns hv).mono fun e w2 ⟨g1, g2, g3⟩ => by
            obtain ⟨sv', X9, g4⟩ := g3 rfl
            obtain ⟨pa, pn, pcp, rfl, _⟩ := id (g4.rd Mem.z)
            exact ⟨pa, pn, pcp, X9, g1, g4⟩)
      · rw [her hr]
        exact Do_restE st (k : Int) sk er wk S C sa ca la sn sc cn cc ln lcap l b q w0 w L R hv0 hl hs hc op arg r.2.2 hr kB (fun w' bD two one L' R' _ hv => kM w' bD two one L' R' hv) (fun w' bD two one L' R' R2 hR hR2 fns hv =>
          (kD w' bD two one L' R' R2 (hR _ hs) hR2 fns hv).mono fun e w2 ⟨g1, g2, g3⟩ => ⟨g1, g2 hr⟩)
  · have hd : doF l ⟨st, pc, S, C, wk, sk, er⟩ b q = (⟨st, pc, S, C, wk, sk, er⟩, q, 290) := by unfold doF; exact if_neg hin
    rw [hd]
    exact Do_no st pc sk er wk S C sa ca la sn sc cn cc ln lcap l b q w0 w L R hv0 hl hs hc (fun w' g1 g2 g3 => begun_no st pc sk er wk S C _ _ _ l b q w' g1 hg g2 g3 (b_false hin))
end Go.Proofs.YthpodinbbmgfoaaGreat
