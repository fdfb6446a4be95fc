/-
 The reference (layer 26): where the bounds hold, the numbers decide.
-/
import Derived.Test.YthenepdbgeafkaaGAY
set_option maxRecDepth 100000
set_option maxHeartbeats 8000000
set_option linter.unusedVariables false
set_option linter.unusedSimpArgs false
namespace Go.Proofs.Ythenepdbgeafkaa
open Go.Proofs.Wi Go.RowKit Go.Proofs Go.Proofs.Tp
theorem kb_t {k : Nat} (h : k = 1 ∨ k = 2) : (k == 1 || k == 2) = true := by rcases h with h | h <;> simp [h]
theorem kb_0 {k : Nat} (h : k = 0) : (k == 1 || k == 2) = false := by rw [h]; rfl
theorem kb_f {k : Nat} (h1 : k ≠ 1) (h2 : k ≠ 2) : (k == 1 || k == 2) = false := by simp [h1, h2]
inductive RNo (k una iss nx dn tm : Nat) (en : Bool) : Bool → Prop
 | z (hk : k = 0) (ht : tm ≠ 0) : RNo k una iss nx dn tm en false
 | c1 (hk : k = 1 ∨ k = 2) (hu : una ≠ iss) : RNo k una iss nx dn tm en false
 | c2 (hk : k = 1 ∨ k = 2) (hu : una = iss) (hi : nx ≠ Tp.u32 (iss + 1)) : RNo k una iss nx dn tm en false
 | c3 (hk : k = 1 ∨ k = 2) (hu : una = iss) (hi : nx = Tp.u32 (iss + 1)) (hd : dn ≠ 0) : RNo k una iss nx dn tm en false
 | c4 (hk : k = 1 ∨ k = 2) (hu : una = iss) (hi : nx = Tp.u32 (iss + 1)) (hd : dn = 0) : RNo k una iss nx dn tm en (!en)
inductive RYe (k una nx dn tm : Nat) (se : Bool) : Bool → Prop
 | y (hk : k = 0) (ht : tm = 0) : RYe k una nx dn tm se true
 | d1 (hk : k ≠ 0) (hk1 : k ≠ 1) (hk2 : k ≠ 2) (hw : ownN nx una se < 0) : RYe k una nx dn tm se false
 | d2 (hk : k ≠ 0) (hk1 : k ≠ 1) (hk2 : k ≠ 2) (hw : 0 ≤ ownN nx una se) (hw2 : ownN nx una se ≤ dn) : RYe k una nx dn tm se true
 | d3 (hk : k ≠ 0) (hk1 : k ≠ 1) (hk2 : k ≠ 2) (hw : 0 ≤ ownN nx una se) (hw2 : ¬ ownN nx una se ≤ dn) : RYe k una nx dn tm se false
theorem RCheck_n {w0 w : World} {L : LV} {R : LR} (hv : Mem w0 w L R) {lo po wnd rto tr er : Int} {k ip iss una nx inx tm : Nat} {en se ed : Bool} {da ba pa : Option Addr} {dn dk bn bk pn pk : Nat} {s : St} {l : List PcV} (hs : InS R inx (.slice ba bn bk) (.slice pa pn pk) s l) (hf : fewB s.bytes l = true) (hnx : inx < 4294967296) (hsq : ∀ p ∈ l, p.1 < 4294967296) (h1 : ¬ (k : Int) < 0) (h2 : ¬ (9 : Int) < (k : Int)) (h3 : 1 ≤ lo ∧ lo ≤ 65535) (h4 : 1 ≤ po ∧ po ≤ 65535) (h5 : dn ≤ 256) (h6 : ¬ wnd < 0) (h7 : ¬ 65535 < wnd) (h8 : chk s = true) (c1 : tm ≤ 1099511627776) (c2 : ¬ rto < 1) (c3 : ¬ 64 < rto) (c4 : ¬ tr < 0) (c5 : ¬ 12 < tr) (c6 : ¬ er < 0) (c7 : ¬ 1000 < er) (hse : se = true → en = true) {v : Bool} (hc : RNo k una iss nx dn tm en v) : Calls Try.prog 22 #[.agg #[.int .i64 k, .int .i64 lo, .int .u32 ip, .int .i64 po, .int .u32 iss, .int .u32 una, .int .u32 nx, .slice da dn dk, .int .i64 wnd, .bool en, .bool se, .int .u32 inx, .slice ba bn bk, .slice pa pn pk, .bool ed, .int .u64 tm, .int .i64 rto, .int .i64 tr, .int .i64 er]] w fun e w' => e = .returned (.bool v) ∧ New w w' := by
 have HR : Hid (∀ w1, New w w1 → Calls Try.prog 50 #[.agg #[.int .u32 inx, .slice ba bn bk, .slice pa pn pk]] w1 fun e w' => e = .returned (.bool true) ∧ New w1 w') := Lib.hid (fun w1 hn => by have := RCheck_S (hv.new hn) hs hf hnx hsq; rwa [h8] at this)
 have HRB : Hid (∀ w1, Calls Try.prog 51 #[.agg #[.int .i64 k, .int .i64 lo, .int .u32 ip, .int .i64 po, .int .u32 iss, .int .u32 una, .int .u32 nx, .slice da dn dk, .int .i64 wnd, .bool en, .bool se, .int .u32 inx, .slice ba bn bk, .slice pa pn pk, .bool ed, .int .u64 tm, .int .i64 rto, .int .i64 tr, .int .i64 er]] w1 fun e w' => e = .returned (.bool (k == 1 || k == 2)) ∧ New w1 w') := Lib.hid (fun w1 => rbegun_v _ _ _ _ _ _ _ _ _ _ _ _ _ _ _ _ _ _ k w1)
 clear hv
 have hv := Mem.nil w
 have G3 := Lib.hid h3
 have G4 := Lib.hid h4
 have y1 : decide ((256 : Int) < (dn : Int)) = false := decide_eq_false (by omega)
 have y2 : decide (256 < dn) = false := decide_eq_false (by omega)
 have x1 : decide ((k : Int) < 0) = false := decide_eq_false (by omega)
 have x2 : decide ((9 : Int) < (k : Int)) = false := decide_eq_false (by omega)
 have x3 : decide (9 < k) = false := decide_eq_false (by omega)
 have x4 : decide (wnd < 0) = false := decide_eq_false (by omega)
 have x5 : decide (65535 < wnd) = false := decide_eq_false (by omega)
 have y3 : decide ((1099511627776 : Int) < (tm : Int)) = false := decide_eq_false (by omega)
 have y4 : decide (1099511627776 < tm) = false := decide_eq_false (by omega)
 have yg2 : decide (rto < 1) = false := decide_eq_false (by omega)
 have yg3 : decide (64 < rto) = false := decide_eq_false (by omega)
 have yg4 : decide (tr < 0) = false := decide_eq_false (by omega)
 have yg5 : decide (12 < tr) = false := decide_eq_false (by omega)
 have yg6 : decide (er < 0) = false := decide_eq_false (by omega)
 have yg7 : decide (1000 < er) = false := decide_eq_false (by omega)
 clear h1 h2 h3 h4 h5 h6 h7 h8 c1 c2 c3 c4 c5 c6 c7 hs hf hnx hsq
 rcases hc with ⟨hk, ht⟩ | ⟨hk, hu⟩ | ⟨hk, hu, hi2⟩ | ⟨hk, hu, hi, hd⟩ | ⟨hk, hu, hi, hd⟩
 all_goals try (have u0 : ((k : Int) == 0) = true := (by rw [hk]; rfl))
 all_goals try (have u0 : ((k : Int) == 0) = false := (by rw [beq_eq_false_iff_ne]; omega))
 all_goals try (rw [kb_t hk] at HRB)
 all_goals try (rw [kb_0 hk] at HRB)
 all_goals try (rw [kb_f hk1 hk2] at HRB)
 all_goals try (have u1 : ((tm : Int) != 0) = true := (by rw [bne_iff_ne]; omega))
 all_goals try (have u2 : ((una : Int) == (iss : Int)) = false := (by rw [beq_eq_false_iff_ne]; omega))
 all_goals try (have u2 : ((una : Int) == (iss : Int)) = true := (by rw [hu]; simp))
 all_goals try (obtain ⟨j, hj⟩ : ∃ j : Nat, j = Tp.u32 (iss + 1) := ⟨_, rfl⟩; rw [← hj] at hi2; have q1 : IntKind.u32.wrap ((iss : Int) + 1) = (j : Int) := (by rw [hj]; unfold Tp.u32; simp [IntKind.wrap, IntKind.bits, IntKind.signed]); have u3 : ((nx : Int) == (j : Int)) = false := (by rw [beq_eq_false_iff_ne]; omega); clear hj)
 all_goals try (have q1 : IntKind.u32.wrap ((iss : Int) + 1) = (nx : Int) := (by rw [hi]; unfold Tp.u32; simp [IntKind.wrap, IntKind.bits, IntKind.signed]))
 all_goals try (have u4 : ((dn : Int) == 0) = false := (by rw [beq_eq_false_iff_ne]; omega))
 all_goals try (have u4 : ((dn : Int) == 0) = true := (by rw [hd]; rfl))
 all_goals ((try clear hk); (try clear ht); (try clear hu); (try clear hi); (try clear hi2); (try clear hd))
 all_goals cases se
 all_goals first
   | (obtain rfl : en = true := hse rfl)
   | skip
 all_goals clear hse
 all_goals
   go_enter Try.func22, Try.ntmps22
   go_wp2_with (first
     | ((with_reducible refine gBx 31 1 ?_); refine nwB hv #[.int .i64 k, .int .i64 lo, .int .u32 ip, .int .i64 po, .int .u32 iss, .int .u32 una, .int .u32 nx, .slice da dn dk, .int .i64 wnd, .bool _, .bool _, .int .u32 inx, .slice ba bn bk, .slice pa pn pk, .bool ed, .int .u64 tm, .int .i64 rto, .int .i64 tr, .int .i64 er] 31 ?_; clear hv; intro b_1 w2 hv)
     | ((with_reducible refine gLd 3 ?_); refine ldC hv b_1 0 (.int .i64 k) Try.underlying3 ?_)
     | ((with_reducible refine gLd 3 ?_); refine ldC hv b_1 1 (.int .i64 lo) Try.underlying3 ?_)
     | ((with_reducible refine gLd 3 ?_); refine ldC hv b_1 3 (.int .i64 po) Try.underlying3 ?_)
     | ((with_reducible refine gLd 23 ?_); refine ldC hv b_1 7 (.slice da dn dk) Try.underlying23 ?_)
     | ((with_reducible refine gLd 3 ?_); refine ldC hv b_1 8 (.int .i64 wnd) Try.underlying3 ?_)
     | ((with_reducible refine at_load (T := 27) ?_); refine wl_ldp rfl b_1 11 rfl _ hv.vars.ro 3 _ Try.underlying27 rfl infoStr (by decide) (by show 11 + 3 ≤ 19; decide) (#[.int .u32 inx, .slice ba bn bk, .slice pa pn pk]) (ext19s _ _ _ _ _ _ _ _ _ _ _ _ _ _ _ _ _ _ _) ?_)
     | (go_at_call 49; (with_reducible refine (rport_ok G3.out _).mono ?_); rintro e w1 ⟨rfl, hn1⟩; replace hv := hv.new hn1; clear hn1)
     | (go_at_call 49; (with_reducible refine (rport_no H3.out _).mono ?_); rintro e w1 ⟨rfl, hn1⟩; replace hv := hv.new hn1; clear hn1)
     | (go_at_call 49; (with_reducible refine (rport_ok G4.out _).mono ?_); rintro e w1 ⟨rfl, hn1⟩; replace hv := hv.new hn1; clear hn1)
     | (go_at_call 49; (with_reducible refine (rport_no H4.out _).mono ?_); rintro e w1 ⟨rfl, hn1⟩; replace hv := hv.new hn1; clear hn1)
     | (go_at_call 50; (with_reducible refine (HR.out _ hv.below).mono ?_); rintro e w1 ⟨rfl, hn1⟩; replace hv := hv.new hn1; clear hn1)
     | ((with_reducible refine gLd 28 ?_); refine ldC hv b_1 15 (.int .u64 tm) Try.underlying28 ?_)
     | ((with_reducible refine gLd 3 ?_); refine ldC hv b_1 16 (.int .i64 rto) Try.underlying3 ?_)
     | ((with_reducible refine gLd 3 ?_); refine ldC hv b_1 17 (.int .i64 tr) Try.underlying3 ?_)
     | ((with_reducible refine gLd 29 ?_); refine ldC hv b_1 18 (.int .i64 er) Try.underlying29 ?_)
     | ((with_reducible refine gLd 4 ?_); refine ldC hv b_1 9 (.bool _) Try.underlying4 ?_)
     | ((with_reducible refine gLd 4 ?_); refine ldC hv b_1 10 (.bool _) Try.underlying4 ?_)
     | ((with_reducible refine gLd 31 ?_); refine ldV hv b_1 19 Try.underlying31 infoT19 ?_)
     | (go_at_call 51; (with_reducible refine (HRB.out _).mono ?_); rintro e w1 ⟨rfl, hn1⟩; replace hv := hv.new hn1; clear hn1)
     | ((with_reducible refine gLd 22 ?_); refine ldC hv b_1 5 (.int .u32 una) Try.underlying22 ?_)
     | ((with_reducible refine gLd 22 ?_); refine ldC hv b_1 4 (.int .u32 iss) Try.underlying22 ?_)
     | ((with_reducible refine gLd 22 ?_); refine ldC hv b_1 6 (.int .u32 nx) Try.underlying22 ?_))
   go_ret
   exact ⟨rfl, hv.below⟩
theorem RCheck_y {w0 w : World} {L : LV} {R : LR} (hv : Mem w0 w L R) {lo po wnd rto tr er : Int} {k ip iss una nx inx tm : Nat} {en se ed : Bool} {da ba pa : Option Addr} {dn dk bn bk pn pk : Nat} {s : St} {l : List PcV} (hs : InS R inx (.slice ba bn bk) (.slice pa pn pk) s l) (hf : fewB s.bytes l = true) (hnx : inx < 4294967296) (hsq : ∀ p ∈ l, p.1 < 4294967296) (h1 : ¬ (k : Int) < 0) (h2 : ¬ (9 : Int) < (k : Int)) (h3 : 1 ≤ lo ∧ lo ≤ 65535) (h4 : 1 ≤ po ∧ po ≤ 65535) (h5 : dn ≤ 256) (h6 : ¬ wnd < 0) (h7 : ¬ 65535 < wnd) (h8 : chk s = true) (c1 : tm ≤ 1099511627776) (c2 : ¬ rto < 1) (c3 : ¬ 64 < rto) (c4 : ¬ tr < 0) (c5 : ¬ 12 < tr) (c6 : ¬ er < 0) (c7 : ¬ 1000 < er) (hse : se = true → en = true) (hna : nx < 4294967296) (hnb : una < 4294967296) {v : Bool} (hc : RYe k una nx dn tm se v) : Calls Try.prog 22 #[.agg #[.int .i64 k, .int .i64 lo, .int .u32 ip, .int .i64 po, .int .u32 iss, .int .u32 una, .int .u32 nx, .slice da dn dk, .int .i64 wnd, .bool en, .bool se, .int .u32 inx, .slice ba bn bk, .slice pa pn pk, .bool ed, .int .u64 tm, .int .i64 rto, .int .i64 tr, .int .i64 er]] w fun e w' => e = .returned (.bool v) ∧ New w w' := by
 have HR : Hid (∀ w1, New w w1 → Calls Try.prog 50 #[.agg #[.int .u32 inx, .slice ba bn bk, .slice pa pn pk]] w1 fun e w' => e = .returned (.bool true) ∧ New w1 w') := Lib.hid (fun w1 hn => by have := RCheck_S (hv.new hn) hs hf hnx hsq; rwa [h8] at this)
 have HRB : Hid (∀ w1, Calls Try.prog 51 #[.agg #[.int .i64 k, .int .i64 lo, .int .u32 ip, .int .i64 po, .int .u32 iss, .int .u32 una, .int .u32 nx, .slice da dn dk, .int .i64 wnd, .bool en, .bool se, .int .u32 inx, .slice ba bn bk, .slice pa pn pk, .bool ed, .int .u64 tm, .int .i64 rto, .int .i64 tr, .int .i64 er]] w1 fun e w' => e = .returned (.bool (k == 1 || k == 2)) ∧ New w1 w') := Lib.hid (fun w1 => rbegun_v _ _ _ _ _ _ _ _ _ _ _ _ _ _ _ _ _ _ k w1)
 clear hv
 have hv := Mem.nil w
 have G3 := Lib.hid h3
 have G4 := Lib.hid h4
 have y1 : decide ((256 : Int) < (dn : Int)) = false := decide_eq_false (by omega)
 have y2 : decide (256 < dn) = false := decide_eq_false (by omega)
 have x1 : decide ((k : Int) < 0) = false := decide_eq_false (by omega)
 have x2 : decide ((9 : Int) < (k : Int)) = false := decide_eq_false (by omega)
 have x3 : decide (9 < k) = false := decide_eq_false (by omega)
 have x4 : decide (wnd < 0) = false := decide_eq_false (by omega)
 have x5 : decide (65535 < wnd) = false := decide_eq_false (by omega)
 have y3 : decide ((1099511627776 : Int) < (tm : Int)) = false := decide_eq_false (by omega)
 have y4 : decide (1099511627776 < tm) = false := decide_eq_false (by omega)
 have yg2 : decide (rto < 1) = false := decide_eq_false (by omega)
 have yg3 : decide (64 < rto) = false := decide_eq_false (by omega)
 have yg4 : decide (tr < 0) = false := decide_eq_false (by omega)
 have yg5 : decide (12 < tr) = false := decide_eq_false (by omega)
 have yg6 : decide (er < 0) = false := decide_eq_false (by omega)
 have yg7 : decide (1000 < er) = false := decide_eq_false (by omega)
 clear h1 h2 h3 h4 h5 h6 h7 h8 c1 c2 c3 c4 c5 c6 c7 hs hf hnx hsq
 have HN := Lib.hid hna
 have HU := Lib.hid hnb
 clear hna hnb
 rcases hc with ⟨hk, ht⟩ | ⟨hk, hk1, hk2, hw⟩ | ⟨hk, hk1, hk2, hw, hw2⟩ | ⟨hk, hk1, hk2, hw, hw3⟩
 all_goals try (have u0 : ((k : Int) == 0) = true := (by rw [hk]; rfl))
 all_goals try (have u0 : ((k : Int) == 0) = false := (by rw [beq_eq_false_iff_ne]; omega))
 all_goals try (rw [kb_t hk] at HRB)
 all_goals try (rw [kb_0 hk] at HRB)
 all_goals try (rw [kb_f hk1 hk2] at HRB)
 all_goals try (have u1 : ((tm : Int) != 0) = false := (by rw [bne_eq_false_iff_eq]; omega))
 all_goals try (have v1 : decide ((0 : Int) ≤ ownN nx una se) = false := decide_eq_false (by omega); clear hw)
 all_goals try (obtain ⟨fr, hfr⟩ : ∃ f : Nat, ownN nx una se = (f : Int) := ⟨(ownN nx una se).toNat, by omega⟩; have hb : (fr : Int) ≤ (dn : Int) := (by omega); have hb2 : fr ≤ dn := (by omega); clear hw2 hw)
 all_goals try (obtain ⟨fr, hfr⟩ : ∃ f : Nat, ownN nx una se = (f : Int) := ⟨(ownN nx una se).toNat, by omega⟩; have hb : decide ((fr : Int) ≤ (dn : Int)) = false := decide_eq_false (by omega); have hb2 : decide (fr ≤ dn) = false := decide_eq_false (by omega); clear hw3 hw)
 all_goals ((try clear hk); (try clear hk1); (try clear hk2); (try clear ht))
 all_goals cases se
 all_goals first
   | (obtain rfl : en = true := hse rfl)
   | skip
 all_goals clear hse
 all_goals
   go_enter Try.func22, Try.ntmps22
   go_wp2_with (first
     | ((with_reducible refine gBx 31 1 ?_); refine nwB hv #[.int .i64 k, .int .i64 lo, .int .u32 ip, .int .i64 po, .int .u32 iss, .int .u32 una, .int .u32 nx, .slice da dn dk, .int .i64 wnd, .bool _, .bool _, .int .u32 inx, .slice ba bn bk, .slice pa pn pk, .bool ed, .int .u64 tm, .int .i64 rto, .int .i64 tr, .int .i64 er] 31 ?_; clear hv; intro b_1 w2 hv)
     | ((with_reducible refine gLd 3 ?_); refine ldC hv b_1 0 (.int .i64 k) Try.underlying3 ?_)
     | ((with_reducible refine gLd 3 ?_); refine ldC hv b_1 1 (.int .i64 lo) Try.underlying3 ?_)
     | ((with_reducible refine gLd 3 ?_); refine ldC hv b_1 3 (.int .i64 po) Try.underlying3 ?_)
     | ((with_reducible refine gLd 23 ?_); refine ldC hv b_1 7 (.slice da dn dk) Try.underlying23 ?_)
     | ((with_reducible refine gLd 3 ?_); refine ldC hv b_1 8 (.int .i64 wnd) Try.underlying3 ?_)
     | ((with_reducible refine at_load (T := 27) ?_); refine wl_ldp rfl b_1 11 rfl _ hv.vars.ro 3 _ Try.underlying27 rfl infoStr (by decide) (by show 11 + 3 ≤ 19; decide) (#[.int .u32 inx, .slice ba bn bk, .slice pa pn pk]) (ext19s _ _ _ _ _ _ _ _ _ _ _ _ _ _ _ _ _ _ _) ?_)
     | (go_at_call 49; (with_reducible refine (rport_ok G3.out _).mono ?_); rintro e w1 ⟨rfl, hn1⟩; replace hv := hv.new hn1; clear hn1)
     | (go_at_call 49; (with_reducible refine (rport_no H3.out _).mono ?_); rintro e w1 ⟨rfl, hn1⟩; replace hv := hv.new hn1; clear hn1)
     | (go_at_call 49; (with_reducible refine (rport_ok G4.out _).mono ?_); rintro e w1 ⟨rfl, hn1⟩; replace hv := hv.new hn1; clear hn1)
     | (go_at_call 49; (with_reducible refine (rport_no H4.out _).mono ?_); rintro e w1 ⟨rfl, hn1⟩; replace hv := hv.new hn1; clear hn1)
     | (go_at_call 50; (with_reducible refine (HR.out _ hv.below).mono ?_); rintro e w1 ⟨rfl, hn1⟩; replace hv := hv.new hn1; clear hn1)
     | ((with_reducible refine gLd 28 ?_); refine ldC hv b_1 15 (.int .u64 tm) Try.underlying28 ?_)
     | ((with_reducible refine gLd 3 ?_); refine ldC hv b_1 16 (.int .i64 rto) Try.underlying3 ?_)
     | ((with_reducible refine gLd 3 ?_); refine ldC hv b_1 17 (.int .i64 tr) Try.underlying3 ?_)
     | ((with_reducible refine gLd 29 ?_); refine ldC hv b_1 18 (.int .i64 er) Try.underlying29 ?_)
     | ((with_reducible refine gLd 4 ?_); refine ldC hv b_1 9 (.bool _) Try.underlying4 ?_)
     | ((with_reducible refine gLd 4 ?_); refine ldC hv b_1 10 (.bool _) Try.underlying4 ?_)
     | ((with_reducible refine gLd 31 ?_); refine ldV hv b_1 19 Try.underlying31 infoT19 ?_)
     | (go_at_call 51; (with_reducible refine (HRB.out _).mono ?_); rintro e w1 ⟨rfl, hn1⟩; replace hv := hv.new hn1; clear hn1)
     | ((with_reducible refine gLd 22 ?_); refine ldC hv b_1 5 (.int .u32 una) Try.underlying22 ?_)
     | ((with_reducible refine gLd 22 ?_); refine ldC hv b_1 4 (.int .u32 iss) Try.underlying22 ?_)
     | ((with_reducible refine gLd 22 ?_); refine ldC hv b_1 6 (.int .u32 nx) Try.underlying22 ?_))
   refine Any.wp_region_walk [⟨[], none⟩, ⟨[1000], none⟩, ⟨[], none⟩, ⟨[], none⟩, ⟨[1000], none⟩, ⟨[], none⟩, ⟨[], none⟩, ⟨[], none⟩, ⟨[1000], none⟩, ⟨[], none⟩, ⟨[], none⟩, ⟨[1000], none⟩] [.val] (by kernel_rfl) (by kernel_rfl) (hv.vars.keep (List.sublist_append_left [(b_1, #[.int .i64 k, .int .i64 lo, .int .u32 ip, .int .i64 po, .int .u32 iss, .int .u32 una, .int .u32 nx, .slice da dn dk, .int .i64 wnd, .bool _, .bool _, .int .u32 inx, .slice ba bn bk, .slice pa pn pk, .bool ed, .int .u64 tm, .int .i64 rto, .int .i64 tr, .int .i64 er])] ([] : LV))) ?_
   simp only [List.length_cons, List.length_nil, Nat.zero_add, Any.someVals]
   iterate 17 apply Exists.intro
   repeat (first
     | (refine Any.E_off rfl ?_; simp only [Act.put, sia, scs, scz])
     | (apply Any.E_pureq rfl rfl rfl
        case h => intro K hK; go_big_quiet_op; (refine hK _ ?_; rfl)
        case hr => exact fun _ => rfl
        simp only [Act.put, sia, scs, scz])
     | (apply Any.E_val rfl rfl rfl rfl
        case h =>
          intro E' hA K hK
          first
            | ((with_reducible refine Any.at_qload (T := 3) ?_); refine Any.q_ldc 1000 hA (by decide) rfl rfl _ Try.underlying3 rfl (.int .i64 k) rfl ?_; refine hK _ ?_; rfl)
            | ((with_reducible refine Any.at_qload (T := 31) ?_); refine Any.q_ldv 1000 hA (by decide) rfl rfl 19 _ Try.underlying31 rfl infoT19 (by decide) rfl ?_; refine hK _ ?_; rfl)
            | ((with_reducible refine Any.at_qload (T := 23) ?_); refine Any.q_ldc 1000 hA (by decide) rfl rfl _ Try.underlying23 rfl (.slice da dn dk) rfl ?_; refine hK _ ?_; rfl)
            | (go_big_quiet_op; first
              | (refine hK _ ?_; rfl)
              | (refine ⟨_, fun _ _ => rfl, ?_⟩; refine hK _ ?_; rfl)
              | (apply Exists.intro; refine ⟨fun w1 hw1 => ?_, ?_⟩; · (first
                  | (go_at_call 52; exact Any.calls_VE (rown_v _ _ _ _ _ _ _ _ _ _ _ _ _ _ _ _ HN.out HU.out _ _) hw1))
                 refine hK _ ?_; rfl))
        case hD => rfl
        simp only [Act.put, sia, scs, scz])
     | ((with_reducible refine Any.at_ealloc ?_); refine Any.E_lay rfl rfl rfl (fun _ => rfl) ?_; intro B; simp only [Act.put, sia, scs, scz]))
   try any_goals exact undef
   refine Any.E_nil ?_
   intro w9 hE9
   replace hv : Mem w w9 ([(b_1, #[.int .i64 k, .int .i64 lo, .int .u32 ip, .int .i64 po, .int .u32 iss, .int .u32 una, .int .u32 nx, .slice da dn dk, .int .i64 wnd, .bool _, .bool _, .int .u32 inx, .slice ba bn bk, .slice pa pn pk, .bool ed, .int .u64 tm, .int .i64 rto, .int .i64 tr, .int .i64 er])] ++ ([] : LV)) _ := hE9.memr hv [1000] (by decide)
   clear hE9
   simp only [List.cons_append, List.nil_append] at hv
   go_wp2
   go_ret
   exact ⟨rfl, hv.below⟩
end Go.Proofs.Ythenepdbgeafkaa
