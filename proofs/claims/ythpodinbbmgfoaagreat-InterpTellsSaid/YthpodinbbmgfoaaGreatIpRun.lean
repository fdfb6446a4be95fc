/-
  A program that runs, in plain words; the walk of the law's run.
-/
import Derived.Test.YthpodinbbmgfoaaGreatIpDoAny
set_option linter.unusedVariables false
set_option linter.unusedSimpArgs false
namespace Go.Proofs.Ip
open Go Go.RowKit Go.Proofs.Pt Go.Proofs.Pg Go.Proofs.Cd
theorem bit_lt (b : Bool) : bit b < 18446744073709551616 := by cases b <;> decide
theorem minF_lt' {x y : Nat} (hx : x < 18446744073709551616) (hy : y < 18446744073709551616) : minF x y < 18446744073709551616 := by
  unfold minF
  have := Nat.or_lt_two_pow (n := 64) hx hy
  have := canon_lt
  split
  · assumption
  · split
    · assumption
    · split <;> assumption
theorem maxF_lt' {x y : Nat} (hx : x < 18446744073709551616) (hy : y < 18446744073709551616) : maxF x y < 18446744073709551616 := by
  unfold maxF
  have := Nat.and_lt_two_pow (n := 64) x hy
  have := canon_lt
  split
  · assumption
  · split
    · assumption
    · split <;> assumption
theorem ite_lt {c : Prop} [Decidable c] {a b n : Nat} (h1 : a < n) (h2 : b < n) : (if c then a else b) < n := by split <;> assumption
theorem twoF_lt (op : Int) {x y : Nat} (hx : x < 18446744073709551616) (hy : y < 18446744073709551616) : twoF op x y < 18446744073709551616 := by
  unfold twoF
  have m : ∀ z, z % 18446744073709551616 < 18446744073709551616 := fun z => Nat.mod_lt _ (by decide)
  have hd := Nat.div_le_self x y
  have hm := Nat.mod_le x y
  have hs := Nat.div_le_self x (2 ^ y)
  have ha := Nat.and_lt_two_pow (n := 64) x hy
  have ho := Nat.or_lt_two_pow (n := 64) hx hy
  have hxo := Nat.xor_lt_two_pow (n := 64) hx hy
  exact ite_lt (m _) (ite_lt (m _) (ite_lt (m _) (ite_lt (by omega) (ite_lt (by omega) (ite_lt ha (ite_lt ho (ite_lt hxo (ite_lt (m _) (ite_lt (by omega) (ite_lt (bit_lt _) (ite_lt (bit_lt _) (ite_lt (bit_lt _)
    (ite_lt (opF_lt _ _ _) (ite_lt (opF_lt _ _ _) (ite_lt (opF_lt _ _ _) (ite_lt (opF_lt _ _ _) (ite_lt (minF_lt' hx hy) (ite_lt (maxF_lt' hx hy) (ite_lt (bit_lt _) (bit_lt _))))))))))))))))))))
theorem oneF_lt (op : Int) {x : Nat} (hx : x < 18446744073709551616) : Ip.oneF op x < 18446744073709551616 := by
  unfold Ip.oneF
  exact ite_lt (bit_lt _) (ite_lt (negF_lt hx) (ite_lt (fromI_lt _) (toW_lt _)))
def GoodS (S : List Nat) : Prop := ∀ x ∈ S, x < 18446744073709551616
def GoodQ (q : Nat → Nat → Nat) : Prop := ∀ i k, q i k < 18446744073709551616
theorem getD_good {S : List Nat} (h : GoodS S) (i : Nat) : S.getD i 0 < 18446744073709551616 := by
  rw [List.getD_eq_getElem?_getD]
  cases e : S[i]? with
  | none => simp
  | some x => exact h x (List.mem_of_getElem? e)
theorem storeQ_good {b : Nat → Bool} {q : Nat → Nat → Nat} {x v : Nat} (hq : GoodQ q) (hv : v < 18446744073709551616) : GoodQ (storeQ b q x v) := by
  intro i k
  unfold storeQ
  split
  · unfold updw; split
    · exact hv
    · exact hq i k
  · exact hq i k
theorem leftL_good {op : Int} {arg : Nat} {S ws : List Nat} {b : Nat → Bool} {q : Nat → Nat → Nat} (ha : arg < 18446744073709551616) (hS : GoodS S) (hw : GoodS ws) (hq : GoodQ q) : GoodS (leftL op arg S ws b q) := by
  have h0 := getD_good hw 0
  have h1 := getD_good hw 1
  have one : ∀ x, x < 18446744073709551616 → GoodS [x] := fun x hx y hy => by rw [List.mem_singleton.1 hy]; exact hx
  have two : ∀ x y, x < 18446744073709551616 → y < 18446744073709551616 → GoodS [x, y] := fun x y hx hy z hz => by
    rcases List.mem_cons.1 hz with rfl | hz
    · exact hx
    · rw [List.mem_singleton.1 hz]; exact hy
  have nil : GoodS [] := fun x hx => (List.not_mem_nil hx).elim
  unfold leftL
  repeat' split
  all_goals first
    | exact nil
    | exact one _ ha
    | exact two _ _ h0 h0
    | exact two _ _ h1 h0
    | exact one _ (getD_good hS _)
    | exact one _ (by unfold loadV; split; exact hq _ _; decide)
    | exact one _ (oneF_lt _ h0)
    | exact one _ (twoF_lt _ h0 h1)
theorem leftQ_good {op : Int} {ws : List Nat} {b : Nat → Bool} {q : Nat → Nat → Nat} (hq : GoodQ q) (hw : GoodS ws) : GoodQ (leftQ op ws b q) := by
  unfold leftQ
  split
  · exact storeQ_good hq (getD_good hw 1)
  · exact hq
theorem doF_good {l : List Inst} {t : Th} {b : Nat → Bool} {q : Nat → Nat → Nat} (hg : ∀ x ∈ l, goodI x) (hS : GoodS t.S) (hq : GoodQ q) : GoodS (doF l t b q).1.S ∧ GoodQ (doF l t b q).2.1 := by
  unfold doF
  split
  · rename_i hin
    dsimp only
    have hgx : (l.getD t.pc.toNat (1, 0)).2 < 18446744073709551616 := by
      rw [List.getD_eq_getElem?_getD]
      cases e : l[t.pc.toNat]? with
      | none => simp
      | some x => exact (hg x (List.mem_of_getElem? e)).2.2
    generalize l.getD t.pc.toNat (1, 0) = x at *
    split
    · refine ⟨?_, hq⟩
      unfold moveF
      repeat' split
      all_goals exact hS
    · unfold restF
      split
      · exact ⟨hS, hq⟩
      · dsimp only
        split
        · exact ⟨hS, hq⟩
        · split
          · exact ⟨hS, hq⟩
          · have ht : ∀ n, GoodS (t.S.take n) := fun n x hx => hS x (List.mem_of_mem_take hx)
            have hd : ∀ n, GoodS (t.S.drop n) := fun n x hx => hS x (List.mem_of_mem_drop hx)
            refine ⟨fun y hy => ?_, ?_⟩
            · rcases List.mem_append.1 hy with hy | hy
              · exact ht _ y hy
              · exact leftL_good hgx (ht _) (hd _) hq y hy
            · exact leftQ_good hq (hd _)
  · exact ⟨hS, hq⟩
/-- At most n instructions. -/
def runF (l : List Inst) (b : Nat → Bool) : Nat → Th → (Nat → Nat → Nat) → Th × Int
  | 0, t, _ => (t, 0)
  | n + 1, t, q => if (doF l t b q).2.2 ≠ 0 then (t, (doF l t b q).2.2) else runF l b n (doF l t b q).1 (doF l t b q).2.1
def th0 : Th := ⟨0, 0, [], [], 0, 0, 0⟩
def b0 : Nat → Bool := upd noBusy 0 true
/-- What run answers. -/
def RunR (w0 : World) (L : List (Nat × Array Value)) (R : List (Nat × Value × List Value)) (r : Th × Int) (e : Ending) (w' : World) : Prop :=
  ∃ sv cv, e = .returned (.tuple #[.agg (thC r.1.st r.1.pc sv cv r.1.wk r.1.sk r.1.er), .int .i64 r.2]) ∧ Mem w0 w' L ((1, sv, cellsU r.1.S) :: (1, cv, cellsN r.1.C) :: R)
end Go.Proofs.Ip
namespace Go.Proofs.YthpodinbbmgfoaaGreat
open Go.Proofs.Ip Go.Proofs.Pt Go.Proofs.Pg Go.Proofs.Cd Go.RowKit Go.Shelf
theorem busy0 : (pg noBusy noWords).setIfInBounds 0 (.bool true) = pg b0 noWords := by
  apply Array.ext_getElem?
  intro i
  rw [Array.getElem?_setIfInBounds, get_pg, get_pg, size_pg]
  by_cases h0 : 0 = i
  · subst h0; rfl
  · rw [if_neg h0]
    unfold cellPg b0 upd
    split
    · by_cases h1 : i % 9 = 0
      · rw [if_pos h1, if_pos h1, if_neg (by omega)]
      · rw [if_neg h1, if_neg h1]
    · rfl
theorem runF_stop {l : List Cd.Inst} {b : Nat → Bool} {m : Nat} {t : Th} {q : Nat → Nat → Nat} (h : (doF l t b q).2.2 ≠ 0) : runF l b (m + 1) t q = (t, (doF l t b q).2.2) := by unfold runF; exact if_pos h
theorem runF_go {l : List Cd.Inst} {b : Nat → Bool} {m : Nat} {t : Th} {q : Nat → Nat → Nat} (h : (doF l t b q).2.2 = 0) : runF l b (m + 1) t q = runF l b m (doF l t b q).1 (doF l t b q).2.1 := by
  rw [runF]; exact if_neg (fun e => e h)
set_option maxRecDepth 100000 in
set_option maxHeartbeats 1000000 in
theorem run_any (n : Nat) (hn : n ≤ 1000) (lv : Value) (l : List Cd.Inst) (hg : ∀ x ∈ l, goodI x) (w0 w : World) (L : List (Nat × Array Value)) (R : List (Nat × Value × List Value)) (hv : Mem w0 w L R) (hl : (2, lv, cellsI l) ∈ R) : Calls Tryz.prog 13 #[lv, .int .i64 (n : Nat)] w (RunR w0 L R (runF l b0 n th0 noWords)) := by
  obtain ⟨la, ln, lcap, rfl, l1⟩ := id (hv.rd hl)
  clear l1
  have HG := Lib.hid hg
  clear hg
  have hnb : (n : Int) ≤ 1000 := by omega
  generalize hres : runF l b0 n th0 noWords = res
  have HRES := Lib.hid hres
  clear hres
  go_enter Tryz.func13, Tryz.ntmps13
  go_wp2_with (first
    | ((with_reducible refine at_alloc (T := 28) (dst := some 4) ?_); refine wl_newb rfl #[.int .i64 0, .int .i64 0, .slice none 0 0, .slice none 0 0, .int .u64 0, .int .i64 0, .int .i64 0] 28 (fun _ => rfl) ?_; intro b4 w2 hm2; replace hv := hv.madeAt hm2; clear hm2)
    | ((with_reducible refine at_alloc (T := 28) (dst := some 6) ?_); refine wl_newb rfl #[.int .i64 0, .int .i64 0, .slice none 0 0, .slice none 0 0, .int .u64 0, .int .i64 0, .int .i64 0] 28 (fun _ => rfl) ?_; intro b6 w2 hm2; replace hv := hv.madeAt hm2; clear hm2)
    | ((with_reducible refine at_alloc (T := 32) (dst := some 7) ?_); refine wl_newb rfl Tryz.zeroCells32 32 (fun _ => rfl) ?_; intro b7 w2 hm2; rw [zeroPs] at hm2; replace hv := hv.madeAt hm2; clear hm2)
    | ((with_reducible refine at_store (T := 4) ?_); refine wl_stc rfl b7 0 rfl (.bool true) rfl _ (hv.vars.row (by first | exact .head _ | exact .tail _ (.head _) | exact .tail _ (.tail _ (.head _)) | exact .tail _ (.tail _ (.tail _ (.head _))) | exact .tail _ (.tail _ (.tail _ (.tail _ (.head _)))) | exact .tail _ (.tail _ (.tail _ (.tail _ (.tail _ (.head _))))) | exact .tail _ (.tail _ (.tail _ (.tail _ (.tail _ (.tail _ (.head _)))))) | exact .tail _ (.tail _ (.tail _ (.tail _ (.tail _ (.tail _ (.tail _ (.head _))))))))) (hv.vars.sft (by first | exact .head _ | exact .tail _ (.head _) | exact .tail _ (.tail _ (.head _)) | exact .tail _ (.tail _ (.tail _ (.head _))) | exact .tail _ (.tail _ (.tail _ (.tail _ (.head _)))) | exact .tail _ (.tail _ (.tail _ (.tail _ (.tail _ (.head _))))) | exact .tail _ (.tail _ (.tail _ (.tail _ (.tail _ (.tail _ (.head _)))))) | exact .tail _ (.tail _ (.tail _ (.tail _ (.tail _ (.tail _ (.tail _ (.head _))))))))) (by kernel_rfl) rfl (by rw [size_pg]; decide) ?_; intro w2 hw2; (first | (replace hv := hv.set 0 rfl hw2) | (replace hv := hv.set 1 rfl hw2) | (replace hv := hv.set 2 rfl hw2)); clear hw2; simp only [List.set] at hv; rw [busy0] at hv))
  have hv0 : Mem w0 _ ((b7, pg b0 noWords) :: (b6, #[.int .i64 0, .int .i64 0, .slice none 0 0, .slice none 0 0, .int .u64 0, .int .i64 0, .int .i64 0]) :: (b4, #[.int .i64 0, .int .i64 0, .slice none 0 0, .slice none 0 0, .int .u64 0, .int .i64 0, .int .i64 0]) :: L) ((1, .slice none 0 0, cellsU []) :: (1, .slice none 0 0, cellsN []) :: R) :=
    (hv.add (Rd.nil _ _) (fun hc => (hc rfl).elim)).add (Rd.nil _ _) (fun hc => (hc rfl).elim)
  clear hv
  go_loopw [8] (fun i wr => ∃ (k : Nat) (st pc sk er : Int) (wk : Nat) (S : List Nat) (C : List Int) (q : Nat → Nat → Nat) (sa ca : Option Addr) (sn sc cn cc : Nat), k ≤ n ∧ i = .int .i64 (k : Nat) ∧ Hid (GoodS S ∧ GoodQ q ∧ runF l b0 (n - k) ⟨st, pc, S, C, wk, sk, er⟩ q = res) ∧ Mem w0 wr ((b7, pg b0 q) :: (b6, #[.int .i64 st, .int .i64 pc, (.slice sa sn sc), (.slice ca cn cc), .int .u64 (wk : Nat), .int .i64 sk, .int .i64 er]) :: (b4, #[.int .i64 0, .int .i64 0, .slice none 0 0, .slice none 0 0, .int .u64 0, .int .i64 0, .int .i64 0]) :: L) ((1, .slice sa sn sc, cellsU S) :: (1, .slice ca cn cc, cellsN C) :: R)) (fun i _ => n - (intOf i).toNat)
  case atStart => exact ⟨0, 0, 0, 0, 0, 0, [], [], noWords, none, none, 0, 0, 0, 0, by omega, rfl, Lib.hid ⟨fun x hx => (List.not_mem_nil hx).elim, fun _ _ => by unfold noWords; decide, HRES.out⟩, hv0⟩
  case round =>
    clear hv0
    obtain ⟨k, st, pc, sk, er, wk, S, C, q, sa, ca, sn, sc, cn, cc, hk, rfl, hgd, hv⟩ := hrel
    by_cases hk2 : k < n
    · have hki : (k : Int) < (n : Int) := by omega
      have hgd2 := doF_good (b := b0) (t := ⟨st, pc, S, C, wk, sk, er⟩) HG.out hgd.out.1 hgd.out.2.1
      have kDo0 := fun w' L' R' h1 h2 h3 h4 => Do_any st pc sk er wk S C (.slice sa sn sc) (.slice ca cn cc) (.slice la ln lcap) l b0 q w0 w' L' R' h1 h2 HG.out h3 h4 hgd.out.1
      obtain ⟨m, hm⟩ : ∃ m, n - k = m + 1 := ⟨n - k - 1, by omega⟩
      have hr := hgd.out.2.2
      rw [hm] at hr
      by_cases he : (doF l ⟨st, pc, S, C, wk, sk, er⟩ b0 q).2.2 = 0
      · rw [runF_go he] at hr
        generalize doF l ⟨st, pc, S, C, wk, sk, er⟩ b0 q = r at *
        obtain ⟨⟨st', pc', S', C', wk', sk', er'⟩, q', e'⟩ := r
        simp only at he hr hgd2
        subst he
        have kDo : ∀ (w' : World) (L' : List (Nat × Array Value)) (R' : List (Nat × Value × List Value)), Mem w0 w' L' R' → (1, .slice sa sn sc, cellsU S) ∈ R' → (1, .slice ca cn cc, cellsN C) ∈ R' → (2, .slice la ln lcap, cellsI l) ∈ R' →
            Calls Tryz.prog 6 #[.slice la ln lcap, .agg #[.int .i64 st, .int .i64 pc, (.slice sa sn sc), (.slice ca cn cc), .int .u64 (wk : Nat), .int .i64 sk, .int .i64 er], .agg (pg b0 q)] w' fun e w2 => ∃ pa pn pcp ra rn rcp, e = .returned (.tuple #[.agg #[.int .i64 st', .int .i64 pc', (.slice pa pn pcp), (.slice ra rn rcp), .int .u64 (wk' : Nat), .int .i64 sk', .int .i64 er'], .agg (pg b0 q'), .int .i64 0]) ∧ Mem w0 w2 L' ((1, .slice pa pn pcp, cellsU S') :: (1, .slice ra rn rcp, cellsN C') :: R') := fun w' L' R' h1 h2 h3 h4 =>
          (kDo0 w' L' R' h1 h4 h2 h3).mono fun e w2 ⟨sv', cv', g1, g2⟩ => by
            obtain ⟨pa, pn, pcp, rfl, _⟩ := id (g2.rd Mem.z)
            obtain ⟨ra, rn, rcp, rfl, _⟩ := id (g2.rd (Mem.s Mem.z))
            exact ⟨pa, pn, pcp, ra, rn, rcp, g1, g2⟩
        have HN : Hid (GoodS S' ∧ GoodQ q' ∧ runF l b0 (n - (k + 1)) ⟨st', pc', S', C', wk', sk', er'⟩ q' = res) := Lib.hid ⟨hgd2.1, hgd2.2, by rw [show n - (k + 1) = m from by omega]; exact hr⟩
        clear kDo0 hgd2 hr hm hgd
        go_wp2_with (first
          | ((with_reducible refine at_load (T := 28) ?_); refine wl_ldv rfl b6 rfl _ (hv.vars.row (by first | exact .head _ | exact .tail _ (.head _) | exact .tail _ (.tail _ (.head _)) | exact .tail _ (.tail _ (.tail _ (.head _))) | exact .tail _ (.tail _ (.tail _ (.tail _ (.head _)))) | exact .tail _ (.tail _ (.tail _ (.tail _ (.tail _ (.head _))))) | exact .tail _ (.tail _ (.tail _ (.tail _ (.tail _ (.tail _ (.head _)))))) | exact .tail _ (.tail _ (.tail _ (.tail _ (.tail _ (.tail _ (.tail _ (.head _))))))))) 7 _ Tryz.underlying28 rfl infoT (by decide) rfl ?_)
          | ((with_reducible refine at_load (T := 32) ?_); refine wl_ldv rfl b7 rfl _ (hv.vars.row (by first | exact .head _ | exact .tail _ (.head _) | exact .tail _ (.tail _ (.head _)) | exact .tail _ (.tail _ (.tail _ (.head _))) | exact .tail _ (.tail _ (.tail _ (.tail _ (.head _)))) | exact .tail _ (.tail _ (.tail _ (.tail _ (.tail _ (.head _))))) | exact .tail _ (.tail _ (.tail _ (.tail _ (.tail _ (.tail _ (.head _)))))) | exact .tail _ (.tail _ (.tail _ (.tail _ (.tail _ (.tail _ (.tail _ (.head _))))))))) 144 _ Tryz.underlying32 rfl infoPs (by decide) (size_pg _ _) ?_)
          | (go_at_call 6; (with_reducible refine (kDo _ _ _ hv Mem.z (Mem.s Mem.z) (Mem.s (Mem.s hl))).mono ?_); rintro e w1 ⟨pa, pn, pcp, ra, rn, rcp, rfl, hv1⟩; replace hv := hv1; clear hv1)
          | ((with_reducible refine at_alloc (T := 28) (dst := some 9) ?_); refine wl_newb rfl #[.int .i64 0, .int .i64 0, .slice none 0 0, .slice none 0 0, .int .u64 0, .int .i64 0, .int .i64 0] 28 (fun _ => rfl) ?_; intro b9 w2 hm2; replace hv := hv.madeAt hm2; clear hm2)
          | ((with_reducible refine at_alloc (T := 32) (dst := some 10) ?_); refine wl_newb rfl Tryz.zeroCells32 32 (fun _ => rfl) ?_; intro b10 w2 hm2; replace hv := hv.madeAt hm2; clear hm2)
          | ((with_reducible refine at_store (T := 28) ?_); refine wl_stv rfl b9 rfl _ rfl _ (hv.vars.row (by first | exact .head _ | exact .tail _ (.head _) | exact .tail _ (.tail _ (.head _)) | exact .tail _ (.tail _ (.tail _ (.head _))) | exact .tail _ (.tail _ (.tail _ (.tail _ (.head _)))) | exact .tail _ (.tail _ (.tail _ (.tail _ (.tail _ (.head _))))) | exact .tail _ (.tail _ (.tail _ (.tail _ (.tail _ (.tail _ (.head _)))))) | exact .tail _ (.tail _ (.tail _ (.tail _ (.tail _ (.tail _ (.tail _ (.head _))))))))) (hv.vars.sft (by first | exact .head _ | exact .tail _ (.head _) | exact .tail _ (.tail _ (.head _)) | exact .tail _ (.tail _ (.tail _ (.head _))) | exact .tail _ (.tail _ (.tail _ (.tail _ (.head _)))) | exact .tail _ (.tail _ (.tail _ (.tail _ (.tail _ (.head _))))) | exact .tail _ (.tail _ (.tail _ (.tail _ (.tail _ (.tail _ (.head _)))))) | exact .tail _ (.tail _ (.tail _ (.tail _ (.tail _ (.tail _ (.tail _ (.head _))))))))) 7 infoT rfl rfl (by simp [Value.oneCell']) ?_; intro w2 hw2; (first | (replace hv := hv.set 0 rfl hw2) | (replace hv := hv.set 1 rfl hw2) | (replace hv := hv.set 2 rfl hw2) | (replace hv := hv.set 3 rfl hw2) | (replace hv := hv.set 4 rfl hw2)); clear hw2; simp only [List.set] at hv)
          | ((with_reducible refine at_store (T := 32) ?_); refine wl_stv rfl b10 rfl _ rfl _ (hv.vars.row (by first | exact .head _ | exact .tail _ (.head _) | exact .tail _ (.tail _ (.head _)) | exact .tail _ (.tail _ (.tail _ (.head _))) | exact .tail _ (.tail _ (.tail _ (.tail _ (.head _)))) | exact .tail _ (.tail _ (.tail _ (.tail _ (.tail _ (.head _))))) | exact .tail _ (.tail _ (.tail _ (.tail _ (.tail _ (.tail _ (.head _)))))) | exact .tail _ (.tail _ (.tail _ (.tail _ (.tail _ (.tail _ (.tail _ (.head _))))))))) (hv.vars.sft (by first | exact .head _ | exact .tail _ (.head _) | exact .tail _ (.tail _ (.head _)) | exact .tail _ (.tail _ (.tail _ (.head _))) | exact .tail _ (.tail _ (.tail _ (.tail _ (.head _)))) | exact .tail _ (.tail _ (.tail _ (.tail _ (.tail _ (.head _))))) | exact .tail _ (.tail _ (.tail _ (.tail _ (.tail _ (.tail _ (.head _)))))) | exact .tail _ (.tail _ (.tail _ (.tail _ (.tail _ (.tail _ (.tail _ (.head _))))))))) 144 infoPs (size_pg _ _) (by rw [zeroPs, size_pg]) (one_pg _ _) ?_; intro w2 hw2; (first | (replace hv := hv.set 0 rfl hw2) | (replace hv := hv.set 1 rfl hw2) | (replace hv := hv.set 2 rfl hw2) | (replace hv := hv.set 3 rfl hw2) | (replace hv := hv.set 4 rfl hw2)); clear hw2; simp only [List.set] at hv))
        refine Any.wp_region_walk [⟨[1001], none⟩, ⟨[1000], none⟩, ⟨[1003], some 1003⟩, ⟨[1002], some 1002⟩] [.val, .val, .put, .put] (by kernel_rfl) (by kernel_rfl) (hv.vars.keep (List.sublist_append_left [(b10, pg b0 q'), (b9, #[.int .i64 st', .int .i64 pc', (.slice pa pn pcp), (.slice ra rn rcp), .int .u64 (wk' : Nat), .int .i64 sk', .int .i64 er']), (b7, pg b0 q), (b6, #[.int .i64 st, .int .i64 pc, (.slice sa sn sc), (.slice ca cn cc), .int .u64 (wk : Nat), .int .i64 sk, .int .i64 er]), (b4, #[.int .i64 0, .int .i64 0, .slice none 0 0, .slice none 0 0, .int .u64 0, .int .i64 0, .int .i64 0])] L)) ?_
        simp only [List.length_cons, List.length_nil, Nat.zero_add, Any.someVals]
        iterate 4 apply Exists.intro
        repeat (first
          | (refine Any.E_off rfl ?_; simp only [Act.put, List.setIfInBounds_toArray, List.set_cons_succ, List.set_cons_zero])
          | (apply Any.E_pureq rfl rfl rfl
             case h => intro K hK; go_big_quiet_op; (refine hK _ ?_; rfl)
             case hr => exact fun _ => rfl
             simp only [Act.put, List.setIfInBounds_toArray, List.set_cons_succ, List.set_cons_zero])
          | (apply Any.E_val rfl rfl rfl rfl
             case h =>
               intro E' hA K hK
               first
                 | ((with_reducible refine Any.at_qload (T := 28) ?_); refine Any.q_ldv 1001 hA (by decide) rfl rfl 7 _ Tryz.underlying28 rfl infoT (by decide) rfl ?_; refine hK _ ?_; rfl)
                 | ((with_reducible refine Any.at_qload (T := 32) ?_); refine Any.q_ldv 1000 hA (by decide) rfl rfl 144 _ Tryz.underlying32 rfl infoPs (by decide) (size_pg _ _) ?_; refine hK _ ?_; rfl)
                 | (go_big_quiet_op; first
                   | (refine hK _ ?_; rfl)
                   | (refine ⟨_, fun _ _ => rfl, ?_⟩; refine hK _ ?_; rfl)
                   | (apply Exists.intro; refine ⟨fun w1 hw1 => ?_, ?_⟩; · (first
                       | fail)
                      refine hK _ ?_; rfl))
             case hD => rfl
             simp only [Act.put, List.setIfInBounds_toArray, List.set_cons_succ, List.set_cons_zero])
          | ((with_reducible refine Any.at_ealloc ?_); refine Any.E_lay rfl rfl rfl (fun _ => rfl) ?_; intro B; simp only [Act.put, List.setIfInBounds_toArray, List.set_cons_succ, List.set_cons_zero])
          | ((with_reducible refine Any.at_estore (T := 28) ?_); refine Any.E_putv (T := 28) rfl rfl rfl rfl rfl rfl 7 infoT rfl rfl (by simp [Value.oneCell']) ?_; simp only [Act.put, List.setIfInBounds_toArray, List.set_cons_succ, List.set_cons_zero])
          | ((with_reducible refine Any.at_estore (T := 32) ?_); refine Any.E_putv (T := 32) rfl rfl rfl rfl rfl rfl 144 infoPs (size_pg _ _) (size_pg _ _) (one_pg _ _) ?_; simp only [Act.put, List.setIfInBounds_toArray, List.set_cons_succ, List.set_cons_zero]))
        try any_goals exact undef
        refine Any.E_nil ?_
        intro w9 hE9
        replace hv : Mem w0 w9 ([(b7, pg b0 q'), (b6, #[.int .i64 st', .int .i64 pc', (.slice pa pn pcp), (.slice ra rn rcp), .int .u64 (wk' : Nat), .int .i64 sk', .int .i64 er']), (b4, #[.int .i64 0, .int .i64 0, .slice none 0 0, .slice none 0 0, .int .u64 0, .int .i64 0, .int .i64 0])] ++ L) ((1, .slice pa pn pcp, cellsU S') :: (1, .slice ra rn rcp, cellsN C') :: (1, .slice sa sn sc, cellsU S) :: (1, .slice ca cn cc, cellsN C) :: R) := hE9.memr hv [1002, 1003, 1004] (by decide)
        clear hE9
        simp only [List.cons_append, List.nil_append] at hv
        go_wp2
        go_roundw
        case rel => exact ⟨k + 1, st', pc', sk', er', wk', S', C', q', pa, ra, pn, pcp, rn, rcp, by omega, by go_num, HN, hv.keepR (mem_two Mem.z (Mem.s Mem.z) (fun y hy => Mem.s (Mem.s (Mem.s (Mem.s hy)))))⟩
        case measure => simp [intOf]; omega
      · rw [runF_stop he] at hr
        generalize doF l ⟨st, pc, S, C, wk, sk, er⟩ b0 q = r at *
        obtain ⟨⟨st', pc', S', C', wk', sk', er'⟩, q', e'⟩ := r
        simp only at he hr hgd2
        have kDo : ∀ (w' : World) (L' : List (Nat × Array Value)) (R' : List (Nat × Value × List Value)), Mem w0 w' L' R' → (1, .slice sa sn sc, cellsU S) ∈ R' → (1, .slice ca cn cc, cellsN C) ∈ R' → (2, .slice la ln lcap, cellsI l) ∈ R' →
            Calls Tryz.prog 6 #[.slice la ln lcap, .agg #[.int .i64 st, .int .i64 pc, (.slice sa sn sc), (.slice ca cn cc), .int .u64 (wk : Nat), .int .i64 sk, .int .i64 er], .agg (pg b0 q)] w' fun e w2 => ∃ pa pn pcp ra rn rcp, e = .returned (.tuple #[.agg #[.int .i64 st', .int .i64 pc', (.slice pa pn pcp), (.slice ra rn rcp), .int .u64 (wk' : Nat), .int .i64 sk', .int .i64 er'], .agg (pg b0 q'), .int .i64 e']) ∧ Mem w0 w2 L' ((1, .slice pa pn pcp, cellsU S') :: (1, .slice ra rn rcp, cellsN C') :: R') := fun w' L' R' h1 h2 h3 h4 =>
          (kDo0 w' L' R' h1 h4 h2 h3).mono fun e w2 ⟨sv', cv', g1, g2⟩ => by
            obtain ⟨pa, pn, pcp, rfl, _⟩ := id (g2.rd Mem.z)
            obtain ⟨ra, rn, rcp, rfl, _⟩ := id (g2.rd (Mem.s Mem.z))
            exact ⟨pa, pn, pcp, ra, rn, rcp, g1, g2⟩
        have he2 : (e' == 0) = false := by rw [beq_eq_false_iff_ne]; exact he
        have HR := Lib.hid hr
        clear kDo0 hgd2 hr hm hgd he HRES
        go_wp2_with (first
          | ((with_reducible refine at_load (T := 28) ?_); refine wl_ldv rfl b6 rfl _ (hv.vars.row (by first | exact .head _ | exact .tail _ (.head _) | exact .tail _ (.tail _ (.head _)) | exact .tail _ (.tail _ (.tail _ (.head _))) | exact .tail _ (.tail _ (.tail _ (.tail _ (.head _)))) | exact .tail _ (.tail _ (.tail _ (.tail _ (.tail _ (.head _))))) | exact .tail _ (.tail _ (.tail _ (.tail _ (.tail _ (.tail _ (.head _)))))) | exact .tail _ (.tail _ (.tail _ (.tail _ (.tail _ (.tail _ (.tail _ (.head _))))))))) 7 _ Tryz.underlying28 rfl infoT (by decide) rfl ?_)
          | ((with_reducible refine at_load (T := 32) ?_); refine wl_ldv rfl b7 rfl _ (hv.vars.row (by first | exact .head _ | exact .tail _ (.head _) | exact .tail _ (.tail _ (.head _)) | exact .tail _ (.tail _ (.tail _ (.head _))) | exact .tail _ (.tail _ (.tail _ (.tail _ (.head _)))) | exact .tail _ (.tail _ (.tail _ (.tail _ (.tail _ (.head _))))) | exact .tail _ (.tail _ (.tail _ (.tail _ (.tail _ (.tail _ (.head _)))))) | exact .tail _ (.tail _ (.tail _ (.tail _ (.tail _ (.tail _ (.tail _ (.head _))))))))) 144 _ Tryz.underlying32 rfl infoPs (by decide) (size_pg _ _) ?_)
          | (go_at_call 6; (with_reducible refine (kDo _ _ _ hv Mem.z (Mem.s Mem.z) (Mem.s (Mem.s hl))).mono ?_); rintro e w1 ⟨pa, pn, pcp, ra, rn, rcp, rfl, hv1⟩; replace hv := hv1; clear hv1)
          | ((with_reducible refine at_alloc (T := 28) (dst := some 9) ?_); refine wl_newb rfl #[.int .i64 0, .int .i64 0, .slice none 0 0, .slice none 0 0, .int .u64 0, .int .i64 0, .int .i64 0] 28 (fun _ => rfl) ?_; intro b9 w2 hm2; replace hv := hv.madeAt hm2; clear hm2)
          | ((with_reducible refine at_alloc (T := 32) (dst := some 10) ?_); refine wl_newb rfl Tryz.zeroCells32 32 (fun _ => rfl) ?_; intro b10 w2 hm2; replace hv := hv.madeAt hm2; clear hm2)
          | ((with_reducible refine at_store (T := 28) ?_); refine wl_stv rfl b9 rfl _ rfl _ (hv.vars.row (by first | exact .head _ | exact .tail _ (.head _) | exact .tail _ (.tail _ (.head _)) | exact .tail _ (.tail _ (.tail _ (.head _))) | exact .tail _ (.tail _ (.tail _ (.tail _ (.head _)))) | exact .tail _ (.tail _ (.tail _ (.tail _ (.tail _ (.head _))))) | exact .tail _ (.tail _ (.tail _ (.tail _ (.tail _ (.tail _ (.head _)))))) | exact .tail _ (.tail _ (.tail _ (.tail _ (.tail _ (.tail _ (.tail _ (.head _))))))))) (hv.vars.sft (by first | exact .head _ | exact .tail _ (.head _) | exact .tail _ (.tail _ (.head _)) | exact .tail _ (.tail _ (.tail _ (.head _))) | exact .tail _ (.tail _ (.tail _ (.tail _ (.head _)))) | exact .tail _ (.tail _ (.tail _ (.tail _ (.tail _ (.head _))))) | exact .tail _ (.tail _ (.tail _ (.tail _ (.tail _ (.tail _ (.head _)))))) | exact .tail _ (.tail _ (.tail _ (.tail _ (.tail _ (.tail _ (.tail _ (.head _))))))))) 7 infoT rfl rfl (by simp [Value.oneCell']) ?_; intro w2 hw2; (first | (replace hv := hv.set 0 rfl hw2) | (replace hv := hv.set 1 rfl hw2) | (replace hv := hv.set 2 rfl hw2) | (replace hv := hv.set 3 rfl hw2) | (replace hv := hv.set 4 rfl hw2)); clear hw2; simp only [List.set] at hv)
          | ((with_reducible refine at_store (T := 32) ?_); refine wl_stv rfl b10 rfl _ rfl _ (hv.vars.row (by first | exact .head _ | exact .tail _ (.head _) | exact .tail _ (.tail _ (.head _)) | exact .tail _ (.tail _ (.tail _ (.head _))) | exact .tail _ (.tail _ (.tail _ (.tail _ (.head _)))) | exact .tail _ (.tail _ (.tail _ (.tail _ (.tail _ (.head _))))) | exact .tail _ (.tail _ (.tail _ (.tail _ (.tail _ (.tail _ (.head _)))))) | exact .tail _ (.tail _ (.tail _ (.tail _ (.tail _ (.tail _ (.tail _ (.head _))))))))) (hv.vars.sft (by first | exact .head _ | exact .tail _ (.head _) | exact .tail _ (.tail _ (.head _)) | exact .tail _ (.tail _ (.tail _ (.head _))) | exact .tail _ (.tail _ (.tail _ (.tail _ (.head _)))) | exact .tail _ (.tail _ (.tail _ (.tail _ (.tail _ (.head _))))) | exact .tail _ (.tail _ (.tail _ (.tail _ (.tail _ (.tail _ (.head _)))))) | exact .tail _ (.tail _ (.tail _ (.tail _ (.tail _ (.tail _ (.tail _ (.head _))))))))) 144 infoPs (size_pg _ _) (by rw [zeroPs, size_pg]) (one_pg _ _) ?_; intro w2 hw2; (first | (replace hv := hv.set 0 rfl hw2) | (replace hv := hv.set 1 rfl hw2) | (replace hv := hv.set 2 rfl hw2) | (replace hv := hv.set 3 rfl hw2) | (replace hv := hv.set 4 rfl hw2)); clear hw2; simp only [List.set] at hv)
          | ((with_reducible refine at_store (T := 28) ?_); refine wl_stv rfl b4 rfl _ rfl _ (hv.vars.row (by first | exact .head _ | exact .tail _ (.head _) | exact .tail _ (.tail _ (.head _)) | exact .tail _ (.tail _ (.tail _ (.head _))) | exact .tail _ (.tail _ (.tail _ (.tail _ (.head _)))) | exact .tail _ (.tail _ (.tail _ (.tail _ (.tail _ (.head _))))) | exact .tail _ (.tail _ (.tail _ (.tail _ (.tail _ (.tail _ (.head _)))))) | exact .tail _ (.tail _ (.tail _ (.tail _ (.tail _ (.tail _ (.tail _ (.head _))))))))) (hv.vars.sft (by first | exact .head _ | exact .tail _ (.head _) | exact .tail _ (.tail _ (.head _)) | exact .tail _ (.tail _ (.tail _ (.head _))) | exact .tail _ (.tail _ (.tail _ (.tail _ (.head _)))) | exact .tail _ (.tail _ (.tail _ (.tail _ (.tail _ (.head _))))) | exact .tail _ (.tail _ (.tail _ (.tail _ (.tail _ (.tail _ (.head _)))))) | exact .tail _ (.tail _ (.tail _ (.tail _ (.tail _ (.tail _ (.tail _ (.head _))))))))) 7 infoT rfl rfl (by simp [Value.oneCell']) ?_; intro w2 hw2; (first | (replace hv := hv.set 0 rfl hw2) | (replace hv := hv.set 1 rfl hw2) | (replace hv := hv.set 2 rfl hw2) | (replace hv := hv.set 3 rfl hw2) | (replace hv := hv.set 4 rfl hw2)); clear hw2; simp only [List.set] at hv))
        refine ret_cell2 Tryz.results13 rfl (read_row _ _ 28 #[.int .i64 st, .int .i64 pc, (.slice sa sn sc), (.slice ca cn cc), .int .u64 (wk : Nat), .int .i64 sk, .int .i64 er] (hv.vars.row (by first | exact .head _ | exact .tail _ (.head _) | exact .tail _ (.tail _ (.head _)) | exact .tail _ (.tail _ (.tail _ (.head _))) | exact .tail _ (.tail _ (.tail _ (.tail _ (.head _)))))) 7 _ Tryz.underlying28 rfl infoT (by decide) rfl) rfl rfl ?_
        rw [← HR.out]
        exact ⟨_, _, rfl, hv.drop.drop.drop.drop.drop.dropR.dropR⟩
    · have hki : ¬ (k : Int) < (n : Int) := by omega
      have hr := hgd.out.2.2
      rw [show n - k = 0 from by omega] at hr
      unfold runF at hr
      have HR := Lib.hid hr
      clear hr hgd HRES
      go_wp2_with (first
        | ((with_reducible refine at_load (T := 28) ?_); refine wl_ldv rfl b6 rfl _ (hv.vars.row (by first | exact .head _ | exact .tail _ (.head _) | exact .tail _ (.tail _ (.head _)) | exact .tail _ (.tail _ (.tail _ (.head _))) | exact .tail _ (.tail _ (.tail _ (.tail _ (.head _)))) | exact .tail _ (.tail _ (.tail _ (.tail _ (.tail _ (.head _))))) | exact .tail _ (.tail _ (.tail _ (.tail _ (.tail _ (.tail _ (.head _)))))) | exact .tail _ (.tail _ (.tail _ (.tail _ (.tail _ (.tail _ (.tail _ (.head _))))))))) 7 _ Tryz.underlying28 rfl infoT (by decide) rfl ?_)
        | ((with_reducible refine at_store (T := 28) ?_); refine wl_stv rfl b4 rfl _ rfl _ (hv.vars.row (by first | exact .head _ | exact .tail _ (.head _) | exact .tail _ (.tail _ (.head _)) | exact .tail _ (.tail _ (.tail _ (.head _))) | exact .tail _ (.tail _ (.tail _ (.tail _ (.head _)))) | exact .tail _ (.tail _ (.tail _ (.tail _ (.tail _ (.head _))))) | exact .tail _ (.tail _ (.tail _ (.tail _ (.tail _ (.tail _ (.head _)))))) | exact .tail _ (.tail _ (.tail _ (.tail _ (.tail _ (.tail _ (.tail _ (.head _))))))))) (hv.vars.sft (by first | exact .head _ | exact .tail _ (.head _) | exact .tail _ (.tail _ (.head _)) | exact .tail _ (.tail _ (.tail _ (.head _))) | exact .tail _ (.tail _ (.tail _ (.tail _ (.head _)))) | exact .tail _ (.tail _ (.tail _ (.tail _ (.tail _ (.head _))))) | exact .tail _ (.tail _ (.tail _ (.tail _ (.tail _ (.tail _ (.head _)))))) | exact .tail _ (.tail _ (.tail _ (.tail _ (.tail _ (.tail _ (.tail _ (.head _))))))))) 7 infoT rfl rfl (by simp [Value.oneCell']) ?_; intro w2 hw2; (first | (replace hv := hv.set 0 rfl hw2) | (replace hv := hv.set 1 rfl hw2) | (replace hv := hv.set 2 rfl hw2) | (replace hv := hv.set 3 rfl hw2) | (replace hv := hv.set 4 rfl hw2)); clear hw2; simp only [List.set] at hv))
      refine ret_cell2 Tryz.results13 rfl (read_row _ _ 28 #[.int .i64 st, .int .i64 pc, (.slice sa sn sc), (.slice ca cn cc), .int .u64 (wk : Nat), .int .i64 sk, .int .i64 er] (hv.vars.row (by first | exact .head _ | exact .tail _ (.head _) | exact .tail _ (.tail _ (.head _)) | exact .tail _ (.tail _ (.tail _ (.head _))) | exact .tail _ (.tail _ (.tail _ (.tail _ (.head _)))))) 7 _ Tryz.underlying28 rfl infoT (by decide) rfl) rfl rfl ?_
      rw [← HR.out]
      exact ⟨_, _, rfl, hv.drop.drop.drop⟩
end Go.Proofs.YthpodinbbmgfoaaGreat
