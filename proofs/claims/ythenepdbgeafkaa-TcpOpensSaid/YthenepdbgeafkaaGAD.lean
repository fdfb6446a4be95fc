import Derived.Test.YthenepdbgeafkaaGAC
set_option linter.unusedSimpArgs false
set_option linter.unusedVariables false
section
/-
 Two ends come together (layer 26): both of them, step by step. No program in sight.
-/
namespace Go.Proofs.Tp
open Go.Proofs.Wi
structure OpI (iss irs : Nat) (s : Sa) (ta tb : T) (qa qb : List G) : Prop where
 a : ta = conA iss irs 7 5 80 s.a
 b : s.begun = true → tb = conA irs iss 80 6 7 s.b
 fqa : qa = s.qa.map (conG irs iss 80 7)
 fqb : qb = s.qb.map (conG iss irs 7 80)
theorem conA_chk {own peer lo ip po : Nat} {a : A} (ho : own < 4294967296) (hl : 1 ≤ lo ∧ lo ≤ 65535) (hp : 1 ≤ po ∧ po ≤ 65535) (h : smallE a = true) : chkT (conA own peer lo ip po a) = true := by
 obtain ⟨h1, h2, h3, h4, h5, h6, h7, h8, h9, h10, h11⟩ := smallE_facts h
 refine chkT_iff.2 ⟨⟨by show a.st ≤ 9; omega, hl, hp, Nat.zero_le _, ?_, (fun h => nomatch h), by show a.tm ≤ 1099511627776; omega, ⟨h7, h8⟩, h9, Nat.zero_le _, chk_empty _ _ (Nat.zero_le _)⟩, ?_⟩
 · show (if a.st = 1 then 0 else 256) ≤ 65535
   split <;> decide
 · by_cases q : a.st = 3
   · refine (numbers_nm (by show 3 ≤ a.st; omega)).2 ?_
     unfold Nm
     rw [own_noSe rfl, flight_con h, h4, h10 q]
     exact ⟨by decide, by show _ ≤ ((([] : List Nat).length : Nat) : Int); decide⟩
   · refine begun_numbers (by show a.st = 1 ∨ a.st = 2; omega) ?_ ?_ rfl rfl
     · show u32 (own + a.una) = own
       rw [h11 q]; unfold u32; omega
     · show u32 (own + a.nx) = u32 (own + 1)
       rw [h4]
theorem smallA_facts {s : Sa} (h : smallA s = true) : smallE s.a = true ∧ (s.begun = true → smallE s.b = true) ∧ (∀ g ∈ s.qa, smallG g = true) ∧ (∀ g ∈ s.qb, smallG g = true) ∧ s.now ≤ 2000 ∧ (s.begun = false → ∀ g ∈ s.qb, g.fl = 2) ∧ s.la ≤ 2 ∧ s.lb ≤ 2 := by
 unfold smallA at h
 simp only [Bool.and_eq_true, Bool.or_eq_true, List.all_eq_true, decide_eq_true_eq, Bool.not_eq_true', beq_iff_eq] at h
 obtain ⟨⟨⟨⟨⟨⟨h1, h2⟩, h3⟩, h4⟩, h5⟩, h6⟩, h7⟩ := h
 refine ⟨h1, fun q => ?_, h3, h4, h5, fun q => ?_, h7.1, h7.2⟩
 · rcases h2 with h2 | h2
   · rw [q] at h2; cases h2
   · exact h2
 · rcases h6 with h6 | h6
   · rw [q] at h6; cases h6
   · exact h6
section
variable {iss irs k : Nat} {s : Sa} {ta tb : T} {qa qb : List G}
theorem comes_small (h : comes k s = true) : smallA s = true := by
 cases k with
 | zero => unfold comes at h; cases h
 | succ k =>
   unfold comes at h
   rw [Bool.and_eq_true] at h
   exact h.1
theorem OpI.start {tb : T} (hi : iss < 4294967296) : OpI iss irs startA (connect 7 5 80 iss 1).t tb [] (connect 7 5 80 iss 1).out := by
 have e0 : u32 (iss + 0) = iss := by unfold u32; omega
 have hr := room_nil 0
 refine ⟨?_, (fun h => nomatch h), rfl, ?_⟩
 · show (⟨1, 7, 5, 80, iss, iss, u32 (iss + 1), [], 0, false, false, ⟨0, [], []⟩, false, later 1 4, 4, 0, 0⟩ : T) = ⟨1, 7, 5, 80, iss, u32 (iss + 0), u32 (iss + 1), [], 0, false, false, ⟨0, [], []⟩, false, later 1 4, 4, 0, 0⟩
   rw [e0]
 · show [(⟨7, 80, iss, 0, 2, (room ⟨0, [], []⟩).toNat, []⟩ : G)] = [⟨7, 80, u32 (iss + 0), 0, 2, 256, []⟩]
   rw [e0, hr]; rfl
theorem OpI.chkA (hi : iss < 4294967296) (h : OpI iss irs s ta tb qa qb) (hc : comes k s = true) : chkT ta = true := by
 rw [h.a]
 exact conA_chk hi (by decide) (by decide) (smallA_facts (comes_small hc)).1
theorem OpI.chkB (hi : irs < 4294967296) (h : OpI iss irs s ta tb qa qb) (hc : comes k s = true) (hb : s.begun = true) : chkT tb = true := by
 rw [h.b hb]
 exact conA_chk hi (by decide) (by decide) ((smallA_facts (comes_small hc)).2.1 hb)
/-- They came together. -/
theorem OpI.done (h : OpI iss irs s ta tb qa qb) (hc : comes k s = true) (ha : ta.st = 3) (hb : s.begun = true) (hbs : tb.st = 3) : ta.inn.next = u32 (irs + 1) ∧ tb.inn.next = u32 (iss + 1) := by
 cases k with
 | zero => unfold comes at hc; cases hc
 | succ k =>
   rw [h.a] at ha ⊢
   rw [h.b hb] at hbs ⊢
   have h1 : s.a.st = 3 := ha
   have h2 : s.b.st = 3 := hbs
   unfold comes at hc
   rw [Bool.and_eq_true, if_pos (by unfold doneA; rw [h1, hb, h2]; rfl)] at hc
   have := hc.2
   rw [Bool.and_eq_true, beq_iff_eq, beq_iff_eq] at this
   refine ⟨?_, ?_⟩
   · show (if s.a.st = 1 then 0 else u32 (irs + s.a.inn)) = _
     rw [h1, this.1]; rfl
   · show (if s.b.st = 1 then 0 else u32 (iss + s.b.inn)) = _
     rw [h2, this.2]; rfl
/-- Where they did not yet. -/
theorem OpI.on (h : OpI iss irs s ta tb qa qb) (hc : comes (k + 1) s = true) (hn : ¬ (ta.st = 3 ∧ s.begun = true ∧ tb.st = 3)) : (match s.qb with
     | g :: r => (if s.lb < 2 then comes k { s with qb := r, lb := s.lb + 1 } else true) && comes k (toB s g r)
     | [] => match s.qa with
       | g :: r => (if s.la < 2 then comes k { s with qa := r, la := s.la + 1 } else true) && comes k (toA s g r)
       | [] => decide (nextA s ≠ 0 ∧ nextA s ≤ 2000) && comes k (timeA s)) = true := by
 unfold comes at hc
 rw [Bool.and_eq_true, if_neg] at hc
 · exact hc.2
 · intro hd
   unfold doneA at hd
   simp only [Bool.and_eq_true, beq_iff_eq] at hd
   obtain ⟨⟨d1, d2⟩, d3⟩ := hd
   exact hn ⟨by rw [h.a]; exact d1, d2, by rw [h.b d2]; exact d3⟩
theorem OpI.qbs (h : OpI iss irs s ta tb qa qb) : (qb = [] ↔ s.qb = []) ∧ (qa = [] ↔ s.qa = []) := by
 rw [h.fqb, h.fqa]
 simp
/-- One to b: lost, or taken. -/
theorem OpI.toB1 {g : G} {r : List G} (h : OpI iss irs s ta tb qa (g :: r)) (hc : comes (k + 1) s = true) (hn : ¬ (ta.st = 3 ∧ s.begun = true ∧ tb.st = 3)) :
   ∃ ga ra, s.qb = ga :: ra ∧ g = conG iss irs 7 80 ga ∧ r = ra.map (conG iss irs 7 80) ∧ (s.lb < 2 → comes k { s with qb := ra, lb := s.lb + 1 } = true) ∧ comes k (toB s ga ra) = true := by
 have hq := h.fqb
 cases hs : s.qb with
 | nil => rw [hs] at hq; cases hq
 | cons ga ra =>
   rw [hs] at hq
   injection hq with q1 q2
   have ho := h.on hc hn
   rw [hs] at ho
   simp only [Bool.and_eq_true] at ho
   exact ⟨ga, ra, rfl, q1, q2, fun hl => by
     have := ho.1
     rw [if_pos hl] at this
     exact this, ho.2⟩
theorem OpI.toA1 {g : G} {r : List G} (h : OpI iss irs s ta tb (g :: r) []) (hc : comes (k + 1) s = true) (hn : ¬ (ta.st = 3 ∧ s.begun = true ∧ tb.st = 3)) :
   ∃ ga ra, s.qa = ga :: ra ∧ g = conG irs iss 80 7 ga ∧ r = ra.map (conG irs iss 80 7) ∧ (s.la < 2 → comes k { s with qa := ra, la := s.la + 1 } = true) ∧ comes k (toA s ga ra) = true := by
 have hq := h.fqa
 have hb0 : s.qb = [] := h.qbs.1.1 rfl
 cases hs : s.qa with
 | nil => rw [hs] at hq; cases hq
 | cons ga ra =>
   rw [hs] at hq
   injection hq with q1 q2
   have ho := h.on hc hn
   rw [hb0] at ho
   simp only [hs, Bool.and_eq_true] at ho
   exact ⟨ga, ra, rfl, q1, q2, fun hl => by
     have := ho.1
     rw [if_pos hl] at this
     rw [hb0]
     exact this, ho.2⟩
/-- Lost on its way to b, to a. -/
theorem OpI.loseB {g : G} {r : List G} (h : OpI iss irs s ta tb qa (g :: r)) (hc : comes (k + 1) s = true) (hn : ¬ (ta.st = 3 ∧ s.begun = true ∧ tb.st = 3)) (hl : s.lb < 2) : ∃ s', OpI iss irs s' ta tb qa r ∧ comes k s' = true ∧ s'.begun = s.begun ∧ s'.now = s.now ∧ s'.la = s.la ∧ s'.lb = s.lb + 1 := by
 obtain ⟨ga, ra, hs, rfl, rfl, h1, _⟩ := h.toB1 hc hn
 exact ⟨{ s with qb := ra, lb := s.lb + 1 }, ⟨h.a, h.b, h.fqa, rfl⟩, h1 hl, rfl, rfl, rfl, rfl⟩
theorem OpI.loseA {g : G} {r : List G} (h : OpI iss irs s ta tb (g :: r) []) (hc : comes (k + 1) s = true) (hn : ¬ (ta.st = 3 ∧ s.begun = true ∧ tb.st = 3)) (hl : s.la < 2) : ∃ s', OpI iss irs s' ta tb r [] ∧ comes k s' = true ∧ s'.begun = s.begun ∧ s'.now = s.now ∧ s'.la = s.la + 1 ∧ s'.lb = s.lb := by
 obtain ⟨ga, ra, hs, rfl, rfl, h1, _⟩ := h.toA1 hc hn
 exact ⟨{ s with qa := ra, la := s.la + 1 }, ⟨h.a, h.b, rfl, h.fqb⟩, h1 hl, rfl, rfl, rfl, rfl⟩
/-- Taken by a. -/
theorem OpI.takeA {g : G} {r : List G} (h : OpI iss irs s ta tb (g :: r) []) (hc : comes (k + 1) s = true) (hn : ¬ (ta.st = 3 ∧ s.begun = true ∧ tb.st = 3)) {c' : C} (hT : Take s.now g ta c') : ∃ s', OpI iss irs s' c'.t tb r ([] ++ c'.out) ∧ comes k s' = true ∧ s'.begun = s.begun ∧ s'.now = s.now ∧ s'.la = 0 ∧ s'.lb = s.lb := by
 obtain ⟨ga, ra, hs, rfl, rfl, _, h2⟩ := h.toA1 hc hn
 obtain ⟨f1, f2, f3, f4, f5, f6, f7, f8⟩ := smallA_facts (comes_small hc)
 obtain ⟨e1, e2, _⟩ := smallE_facts (smallA_facts (comes_small h2)).1
 rw [h.a] at hT
 have hr := take_con f1 (f3 ga (by rw [hs]; exact List.mem_cons_self ..)) (by decide) (by decide) e2 hT
 have hb0 : s.qb = [] := h.qbs.1.1 rfl
 rw [hr]
 refine ⟨toA s ga ra, ⟨rfl, h.b, rfl, ?_⟩, h2, rfl, rfl, rfl, rfl⟩
 show _ = (s.qb ++ _).map _
 rw [hb0]; rfl
/-- Taken by b, which began. -/
theorem OpI.takeB {g : G} {r : List G} (h : OpI iss irs s ta tb qa (g :: r)) (hc : comes (k + 1) s = true) (hn : ¬ (ta.st = 3 ∧ s.begun = true ∧ tb.st = 3)) (hb : s.begun = true) {c' : C} (hT : Take s.now g tb c') : ∃ s', OpI iss irs s' ta c'.t (qa ++ c'.out) r ∧ comes k s' = true ∧ s'.begun = true ∧ s'.now = s.now ∧ s'.la = s.la ∧ s'.lb = 0 := by
 obtain ⟨ga, ra, hs, rfl, rfl, _, h2⟩ := h.toB1 hc hn
 obtain ⟨f1, f2, f3, f4, f5, f6, f7, f8⟩ := smallA_facts (comes_small hc)
 have ht : toB s ga ra = { s with b := (Tp.takeA s.now ga s.b).1, qa := s.qa ++ (Tp.takeA s.now ga s.b).2, qb := ra, lb := 0 } := by
   unfold toB
   rw [if_neg (by rw [hb]; decide)]
 rw [ht] at h2
 obtain ⟨e1, e2, _⟩ := smallE_facts ((smallA_facts (comes_small h2)).2.1 hb)
 rw [h.b hb] at hT
 have hr := take_con (f2 hb) (f4 ga (by rw [hs]; exact List.mem_cons_self ..)) (by decide) (by decide) e2 hT
 rw [hr]
 refine ⟨{ s with b := (Tp.takeA s.now ga s.b).1, qa := s.qa ++ (Tp.takeA s.now ga s.b).2, qb := ra, lb := 0 }, ⟨h.a, fun _ => rfl, ?_, rfl⟩, h2, hb, rfl, rfl, rfl⟩
 show _ = (s.qa ++ _).map _
 rw [h.fqa, List.map_append]
/-- Taken by b, which begins. -/
theorem OpI.beginB {g : G} {r : List G} (hi : irs < 4294967296) (h : OpI iss irs s ta tb qa (g :: r)) (hc : comes (k + 1) s = true) (hn : ¬ (ta.st = 3 ∧ s.begun = true ∧ tb.st = 3)) (hb : s.begun = false) : (has g.fl 2 = true ∧ has g.fl 16 = false ∧ has g.fl 4 = false ∧ g.dst = 80) ∧ ∃ s', OpI iss irs s' ta (accept 80 6 irs s.now g).t (qa ++ (accept 80 6 irs s.now g).out) r ∧ comes k s' = true ∧ s'.begun = true ∧ s'.now = s.now ∧ s'.la = s.la ∧ s'.lb = 0 := by
 obtain ⟨ga, ra, hs, rfl, rfl, _, h2⟩ := h.toB1 hc hn
 obtain ⟨f1, f2, f3, f4, f5, f6, f7, f8⟩ := smallA_facts (comes_small hc)
 have hfl := f6 hb ga (by rw [hs]; exact List.mem_cons_self ..)
 have hgs := (smallG_facts (f4 ga (by rw [hs]; exact List.mem_cons_self ..))).2
 have ht : toB s ga ra = { s with begun := true, b := ⟨2, 0, 1, later s.now 4, 4, 0, ga.seq + 1⟩, qa := s.qa ++ [⟨18, 0, ga.seq + 1⟩], qb := ra, lb := 0 } := by
   unfold toB
   rw [if_pos hb, if_pos hfl]
 rw [ht] at h2
 have e0 : u32 (irs + 0) = irs := by unfold u32; omega
 refine ⟨⟨by show has ga.fl 2 = true; rw [hfl]; decide, by show has ga.fl 16 = false; rw [hfl]; decide, by show has ga.fl 4 = false; rw [hfl]; decide, rfl⟩, { s with begun := true, b := ⟨2, 0, 1, later s.now 4, 4, 0, ga.seq + 1⟩, qa := s.qa ++ [⟨18, 0, ga.seq + 1⟩], qb := ra, lb := 0 }, ⟨h.a, fun _ => ?_, ?_, rfl⟩, h2, rfl, rfl, rfl, rfl⟩
 · show (⟨2, 80, 6, 7, irs, irs, u32 (irs + 1), [], 256, false, false, ⟨u32 (u32 (iss + ga.seq) + 1), [], []⟩, false, later s.now 4, 4, 0, 0⟩ : T) = ⟨2, 80, 6, 7, irs, u32 (irs + 0), u32 (irs + 1), [], 256, false, false, ⟨u32 (iss + (ga.seq + 1)), [], []⟩, false, later s.now 4, 4, 0, 0⟩
   rw [e0, u32_succ]
 · rw [h.fqa]
   show _ = (s.qa ++ _).map _
   rw [List.map_append]
   congr 1
   have h18 : has 18 16 = true := by decide
   show [(⟨80, 7, irs, if has 18 16 then u32 (u32 (iss + ga.seq) + 1) else 0, 18, (room ⟨u32 (u32 (iss + ga.seq) + 1), [], []⟩).toNat, []⟩ : G)] = [⟨80, 7, u32 (irs + 0), if has 18 16 then u32 (iss + (ga.seq + 1)) else 0, 18, 256, []⟩]
   rw [h18, if_pos rfl, if_pos rfl, e0, u32_succ, room_nil]; rfl
/-- Nothing is on its way: a timer. -/
theorem OpI.time (h : OpI iss irs s ta tb [] []) (hc : comes (k + 1) s = true) (hn : ¬ (ta.st = 3 ∧ s.begun = true ∧ tb.st = 3)) {n : Nat} (hnx : n = (if 0 < ta.tm ∧ 0 < (if s.begun then tb.tm else 0) then min ta.tm (if s.begun then tb.tm else 0) else max ta.tm (if s.begun then tb.tm else 0))) :
   n ≠ 0 ∧ n ≤ 2000 ∧ ∃ s', OpI iss irs s' (tick n ⟨ta, []⟩).t (if s.begun then (tick n ⟨tb, []⟩).t else tb) (if s.begun then (tick n ⟨tb, []⟩).out else []) (tick n ⟨ta, []⟩).out ∧ comes k s' = true ∧ s'.begun = s.begun ∧ s'.now = n ∧ s'.la = s.la ∧ s'.lb = s.lb := by
 have ho := h.on hc hn
 have hqa : s.qa = [] := h.qbs.2.1 rfl
 have hqb : s.qb = [] := h.qbs.1.1 rfl
 rw [hqa, hqb] at ho
 simp only [Bool.and_eq_true, decide_eq_true_eq] at ho
 obtain ⟨⟨o1, o2⟩, o3⟩ := ho
 obtain ⟨f1, f2, f3, f4, f5, f6, f7, f8⟩ := smallA_facts (comes_small hc)
 obtain ⟨e1, e2, _⟩ := smallE_facts (smallA_facts (comes_small o3)).1
 have hnn : n = nextA s := by
   rw [hnx, h.a]
   unfold nextA
   have htb : (if s.begun = true then tb.tm else 0) = (if s.begun = true then s.b.tm else 0) := by
     by_cases hb : s.begun = true
     · rw [if_pos hb, if_pos hb, h.b hb]; rfl
     · rw [if_neg hb, if_neg hb]
   rw [htb]; rfl
 subst hnn
 refine ⟨o1, o2, timeA s, ⟨?_, ?_, ?_, ?_⟩, o3, rfl, rfl, rfl, rfl⟩
 · rw [h.a, tick_con f1 e2]; rfl
 · intro hb
   have hb : s.begun = true := hb
   rw [if_pos hb, h.b hb]
   have hb2 := (smallA_facts (comes_small o3)).2.1 hb
   have ht : (timeA s).b = (tickA (nextA s) s.b).1 := by unfold timeA; simp [hb]
   rw [ht] at hb2 ⊢
   obtain ⟨g1, g2, _⟩ := smallE_facts hb2
   rw [tick_con (f2 hb) g2]
 · by_cases hb : s.begun = true
   · rw [if_pos hb, h.b hb]
     have hb2 := (smallA_facts (comes_small o3)).2.1 hb
     have ht : (timeA s).b = (tickA (nextA s) s.b).1 := by unfold timeA; simp [hb]
     rw [ht] at hb2
     obtain ⟨g1, g2, _⟩ := smallE_facts hb2
     rw [tick_con (f2 hb) g2]
     unfold timeA
     simp [hb, hqa]
   · rw [if_neg hb]
     unfold timeA
     simp [hb, hqa]
 · rw [h.a, tick_con f1 e2]
   unfold timeA
   simp [hqb]
end
end Go.Proofs.Tp
end

section
/-
 A tick does not bring a connection to 'established' (TcpOpens). No program in sight.
-/
namespace Go.Proofs.Tp
open Go Go.Proofs.Wi
theorem again_st (c : C) : (again c).t.st = c.t.st := by
 unfold again
 split
 · rfl
 · split
   · rfl
   · split
     · rfl
     · split
       · rfl
       · split <;> rfl
theorem tick_st (now : Nat) (t : T) : (tick now ⟨t, []⟩).t.st = t.st ∨ (tick now ⟨t, []⟩).t.st = 0 := by
 unfold tick
 split
 · exact .inl rfl
 · split
   · exact .inr rfl
   · split
     · exact .inr rfl
     · exact .inl (again_st _)
theorem tick_st3 {now : Nat} {t : T} (h : t.st ≠ 3) : (tick now ⟨t, []⟩).t.st ≠ 3 := by
 rcases tick_st now t with e | e
 · rw [e]; exact h
 · rw [e]; decide
theorem connect_st (lo ip po iss now : Nat) : (connect lo ip po iss now).t.st = 1 := rfl
end Go.Proofs.Tp
end
