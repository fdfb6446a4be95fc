import Derived.Test.YthenepdbgeafkaaGAU
import Derived.Test.YthenepdbgeafkaaGAX
set_option linter.unusedSimpArgs false
set_option linter.unusedVariables false
set_option maxRecDepth 100000
set_option maxHeartbeats 8000000
section
/-
 The reference (layers 24, 26): which segments, which connections may be; which connections are not great.
-/
namespace Go.Proofs.Tp
open Go Go.RowKit Go.Proofs.Wi
structure BndI (st lo po wnd rto tr er : Int) (dn tm : Nat) (en se : Bool) (ck : Bool) : Prop where
 h1 : ¬ st < 0
 h2 : ¬ 9 < st
 h3 : 1 ≤ lo ∧ lo ≤ 65535
 h4 : 1 ≤ po ∧ po ≤ 65535
 h5 : dn ≤ 256
 h6 : ¬ wnd < 0
 h7 : ¬ 65535 < wnd
 h8 : ck = true
 h9 : tm ≤ 1099511627776
 i1 : ¬ rto < 1
 i2 : ¬ 64 < rto
 i3 : ¬ tr < 0
 i4 : ¬ 12 < tr
 i5 : ¬ er < 0
 i6 : ¬ 1000 < er
 i7 : se = true → en = true
end Go.Proofs.Tp
namespace Go.Proofs.Ythenepdbgeafkaa
open Go.Proofs.Wi Go.RowKit Go.Proofs Go.Proofs.Tp
theorem rport_any (n : Int) (w : World) : Calls Try.prog 49 #[.int .i64 n] w fun e w' => e = .returned (.bool (decide (1 ≤ n ∧ n ≤ 65535))) ∧ New w w' := by
 have hv := Mem.nil w
 by_cases h1 : 1 ≤ n
 · by_cases h2 : n ≤ 65535
   · rw [decide_eq_true (And.intro h1 h2)]
     go_enter Try.func49, Try.ntmps49
     go_wp2
     go_ret
     exact ⟨rfl, hv.below⟩
   · rw [decide_eq_false (fun h => h2 h.2)]
     go_enter Try.func49, Try.ntmps49
     go_wp2
     go_ret
     exact ⟨rfl, hv.below⟩
 · rw [decide_eq_false (fun h => h1 h.1)]
   go_enter Try.func49, Try.ntmps49
   go_wp2
   go_ret
   exact ⟨rfl, hv.below⟩
theorem rport_ok {n : Int} (h : 1 ≤ n ∧ n ≤ 65535) (w : World) : Calls Try.prog 49 #[.int .i64 n] w fun e w' => e = .returned (.bool true) ∧ New w w' := by
 have := rport_any n w
 rwa [decide_eq_true h] at this
theorem rport_no {n : Int} (h : ¬ (1 ≤ n ∧ n ≤ 65535)) (w : World) : Calls Try.prog 49 #[.int .i64 n] w fun e w' => e = .returned (.bool false) ∧ New w w' := by
 have := rport_any n w
 rwa [decide_eq_false h] at this
theorem sport_any (n : Int) (w : World) : Calls Try.prog 53 #[.int .i64 n] w fun e w' => e = .returned (.bool (decide (1 ≤ n ∧ n ≤ 65535))) ∧ New w w' := by
 have hv := Mem.nil w
 by_cases h1 : 1 ≤ n
 · by_cases h2 : n ≤ 65535
   · rw [decide_eq_true (And.intro h1 h2)]
     go_enter Try.func53, Try.ntmps53
     go_wp2
     go_ret
     exact ⟨rfl, hv.below⟩
   · rw [decide_eq_false (fun h => h2 h.2)]
     go_enter Try.func53, Try.ntmps53
     go_wp2
     go_ret
     exact ⟨rfl, hv.below⟩
 · rw [decide_eq_false (fun h => h1 h.1)]
   go_enter Try.func53, Try.ntmps53
   go_wp2
   go_ret
   exact ⟨rfl, hv.below⟩
theorem sport_ok {n : Int} (h : 1 ≤ n ∧ n ≤ 65535) (w : World) : Calls Try.prog 53 #[.int .i64 n] w fun e w' => e = .returned (.bool true) ∧ New w w' := by
 have := sport_any n w
 rwa [decide_eq_true h] at this
theorem rout_v (a0 a1 a2 a3 a4 a7 a8 a9 a10 a11 a12 a13 a14 a15 a16 a17 a18 : Value) {nx una : Nat} (h1 : nx < 4294967296) (h2 : una < 4294967296) (w : World) : Calls Try.prog 66 #[.agg #[a0, a1, a2, a3, a4, .int .u32 una, .int .u32 nx, a7, a8, a9, a10, a11, a12, a13, a14, a15, a16, a17, a18]] w fun e w' => e = .returned (.int .i64 (dif nx una)) ∧ New w w' := by
 have hv := Mem.nil w
 have H1 := Lib.hid h1
 have H2 := Lib.hid h2
 clear h1 h2
 go_enter Try.func66, Try.ntmps66
 go_wp2_with (first
   | ((with_reducible refine gBx 31 1 ?_); refine nwB hv #[a0, a1, a2, a3, a4, .int .u32 una, .int .u32 nx, a7, a8, a9, a10, a11, a12, a13, a14, a15, a16, a17, a18] 31 ?_; clear hv; intro b_1 w2 hv)
   | ((with_reducible refine gLd 22 ?_); refine ldC hv b_1 6 (.int .u32 nx) Try.underlying22 ?_)
   | ((with_reducible refine gLd 22 ?_); refine ldC hv b_1 5 (.int .u32 una) Try.underlying22 ?_)
   | (go_at_call 23; (with_reducible refine (RDiff_any _ _ H1.out H2.out _).mono ?_); rintro e w1 ⟨rfl, rfl⟩))
 go_ret
 exact ⟨rfl, hv.below⟩
theorem rown_v1 (a0 a1 a2 a3 a4 a7 a8 a9 a11 a12 a13 a14 a15 a16 a17 a18 : Value) {nx una : Nat} (h1 : nx < 4294967296) (h2 : una < 4294967296) (h : 0 < dif nx una) (w : World) : Calls Try.prog 52 #[.agg #[a0, a1, a2, a3, a4, .int .u32 una, .int .u32 nx, a7, a8, a9, .bool true, a11, a12, a13, a14, a15, a16, a17, a18]] w fun e w' => e = .returned (.int .i64 (ownN nx una true)) ∧ New w w' := by
 have hv := Mem.nil w
 have q : IntKind.i64.wrap (dif nx una - 1) = dif nx una - 1 := IntWalk.i64_in _ (by have := dif_lo nx una; have := dif_hi nx una; omega)
 have e : ownN nx una true = dif nx una - 1 := by unfold ownN; rw [if_pos ⟨rfl, h⟩]
 rw [e]
 have H1 := Lib.hid h1
 have H2 := Lib.hid h2
 clear e h1 h2
 go_enter Try.func52, Try.ntmps52
 go_wp2_with (first
   | ((with_reducible refine gBx 31 1 ?_); refine nwB hv #[a0, a1, a2, a3, a4, .int .u32 una, .int .u32 nx, a7, a8, a9, .bool true, a11, a12, a13, a14, a15, a16, a17, a18] 31 ?_; clear hv; intro b_1 w2 hv)
   | ((with_reducible refine gLd 31 ?_); refine ldV hv b_1 19 Try.underlying31 infoT19 ?_)
   | ((with_reducible refine gLd 4 ?_); refine ldC hv b_1 10 (.bool true) Try.underlying4 ?_)
   | (go_at_call 66; (with_reducible refine (rout_v _ _ _ _ _ _ _ _ _ _ _ _ _ _ _ _ _ H1.out H2.out _).mono ?_); rintro e w1 ⟨rfl, hn1⟩; replace hv := hv.new hn1; clear hn1))
 go_ret
 exact ⟨rfl, hv.below⟩
theorem rown_v2 (a0 a1 a2 a3 a4 a7 a8 a9 a11 a12 a13 a14 a15 a16 a17 a18 : Value) {nx una : Nat} (h1 : nx < 4294967296) (h2 : una < 4294967296) (h : ¬ 0 < dif nx una) (w : World) : Calls Try.prog 52 #[.agg #[a0, a1, a2, a3, a4, .int .u32 una, .int .u32 nx, a7, a8, a9, .bool true, a11, a12, a13, a14, a15, a16, a17, a18]] w fun e w' => e = .returned (.int .i64 (ownN nx una true)) ∧ New w w' := by
 have hv := Mem.nil w
 have q : IntKind.i64.wrap (dif nx una - 1) = dif nx una - 1 := IntWalk.i64_in _ (by have := dif_lo nx una; have := dif_hi nx una; omega)
 have e : ownN nx una true = dif nx una := by unfold ownN; rw [if_neg (fun x => h x.2)]
 rw [e]
 have H1 := Lib.hid h1
 have H2 := Lib.hid h2
 clear e h1 h2
 go_enter Try.func52, Try.ntmps52
 go_wp2_with (first
   | ((with_reducible refine gBx 31 1 ?_); refine nwB hv #[a0, a1, a2, a3, a4, .int .u32 una, .int .u32 nx, a7, a8, a9, .bool true, a11, a12, a13, a14, a15, a16, a17, a18] 31 ?_; clear hv; intro b_1 w2 hv)
   | ((with_reducible refine gLd 31 ?_); refine ldV hv b_1 19 Try.underlying31 infoT19 ?_)
   | ((with_reducible refine gLd 4 ?_); refine ldC hv b_1 10 (.bool true) Try.underlying4 ?_)
   | (go_at_call 66; (with_reducible refine (rout_v _ _ _ _ _ _ _ _ _ _ _ _ _ _ _ _ _ H1.out H2.out _).mono ?_); rintro e w1 ⟨rfl, hn1⟩; replace hv := hv.new hn1; clear hn1))
 go_ret
 exact ⟨rfl, hv.below⟩
theorem rown_v3 (a0 a1 a2 a3 a4 a7 a8 a9 a11 a12 a13 a14 a15 a16 a17 a18 : Value) {nx una : Nat} (h1 : nx < 4294967296) (h2 : una < 4294967296) (w : World) : Calls Try.prog 52 #[.agg #[a0, a1, a2, a3, a4, .int .u32 una, .int .u32 nx, a7, a8, a9, .bool false, a11, a12, a13, a14, a15, a16, a17, a18]] w fun e w' => e = .returned (.int .i64 (ownN nx una false)) ∧ New w w' := by
 have hv := Mem.nil w
 have q : IntKind.i64.wrap (dif nx una - 1) = dif nx una - 1 := IntWalk.i64_in _ (by have := dif_lo nx una; have := dif_hi nx una; omega)
 have e : ownN nx una false = dif nx una := by unfold ownN; rw [if_neg (fun x => by cases x.1)]
 rw [e]
 have H1 := Lib.hid h1
 have H2 := Lib.hid h2
 clear e h1 h2
 go_enter Try.func52, Try.ntmps52
 go_wp2_with (first
   | ((with_reducible refine gBx 31 1 ?_); refine nwB hv #[a0, a1, a2, a3, a4, .int .u32 una, .int .u32 nx, a7, a8, a9, .bool false, a11, a12, a13, a14, a15, a16, a17, a18] 31 ?_; clear hv; intro b_1 w2 hv)
   | ((with_reducible refine gLd 31 ?_); refine ldV hv b_1 19 Try.underlying31 infoT19 ?_)
   | ((with_reducible refine gLd 4 ?_); refine ldC hv b_1 10 (.bool false) Try.underlying4 ?_)
   | (go_at_call 66; (with_reducible refine (rout_v _ _ _ _ _ _ _ _ _ _ _ _ _ _ _ _ _ H1.out H2.out _).mono ?_); rintro e w1 ⟨rfl, hn1⟩; replace hv := hv.new hn1; clear hn1))
 go_ret
 exact ⟨rfl, hv.below⟩
theorem rown_v (a0 a1 a2 a3 a4 a7 a8 a9 a11 a12 a13 a14 a15 a16 a17 a18 : Value) {nx una : Nat} (h1 : nx < 4294967296) (h2 : una < 4294967296) (se : Bool) (w : World) : Calls Try.prog 52 #[.agg #[a0, a1, a2, a3, a4, .int .u32 una, .int .u32 nx, a7, a8, a9, .bool se, a11, a12, a13, a14, a15, a16, a17, a18]] w fun e w' => e = .returned (.int .i64 (ownN nx una se)) ∧ New w w' := by
 cases se with
 | false => exact rown_v3 _ _ _ _ _ _ _ _ _ _ _ _ _ _ _ _ h1 h2 w
 | true =>
   by_cases h : 0 < dif nx una
   · exact rown_v1 _ _ _ _ _ _ _ _ _ _ _ _ _ _ _ _ h1 h2 h w
   · exact rown_v2 _ _ _ _ _ _ _ _ _ _ _ _ _ _ _ _ h1 h2 h w
theorem rbegun_v (a1 a2 a3 a4 a5 a6 a7 a8 a9 a10 a11 a12 a13 a14 a15 a16 a17 a18 : Value) (st : Nat) (w : World) : Calls Try.prog 51 #[.agg #[.int .i64 st, a1, a2, a3, a4, a5, a6, a7, a8, a9, a10, a11, a12, a13, a14, a15, a16, a17, a18]] w fun e w' => e = .returned (.bool (st == 1 || st == 2)) ∧ New w w' := by
 have hv := Mem.nil w
 by_cases h1 : st = 1
 · subst h1
   go_enter Try.func51, Try.ntmps51
   go_wp2_with (first
     | ((with_reducible refine gBx 31 1 ?_); refine nwB hv #[.int .i64 (1 : Nat), a1, a2, a3, a4, a5, a6, a7, a8, a9, a10, a11, a12, a13, a14, a15, a16, a17, a18] 31 ?_; clear hv; intro b_1 w2 hv)
     | ((with_reducible refine gLd 3 ?_); refine ldC hv b_1 0 (.int .i64 (1 : Nat)) Try.underlying3 ?_))
   go_ret
   exact ⟨rfl, hv.below⟩
 · by_cases h2 : st = 2
   · subst h2
     go_enter Try.func51, Try.ntmps51
     go_wp2_with (first
       | ((with_reducible refine gBx 31 1 ?_); refine nwB hv #[.int .i64 (2 : Nat), a1, a2, a3, a4, a5, a6, a7, a8, a9, a10, a11, a12, a13, a14, a15, a16, a17, a18] 31 ?_; clear hv; intro b_1 w2 hv)
       | ((with_reducible refine gLd 3 ?_); refine ldC hv b_1 0 (.int .i64 (2 : Nat)) Try.underlying3 ?_))
     go_ret
     exact ⟨rfl, hv.below⟩
   · have e : (st == 1 || st == 2) = false := by simp [h1, h2]
     rw [e]
     have y1 : ((st : Int) == 1) = false := by rw [beq_eq_false_iff_ne]; omega
     have y2 : ((st : Int) == 2) = false := by rw [beq_eq_false_iff_ne]; omega
     clear e h1 h2
     go_enter Try.func51, Try.ntmps51
     go_wp2_with (first
       | ((with_reducible refine gBx 31 1 ?_); refine nwB hv #[.int .i64 st, a1, a2, a3, a4, a5, a6, a7, a8, a9, a10, a11, a12, a13, a14, a15, a16, a17, a18] 31 ?_; clear hv; intro b_1 w2 hv)
       | ((with_reducible refine gLd 3 ?_); refine ldC hv b_1 0 (.int .i64 st) Try.underlying3 ?_))
     go_ret
     exact ⟨rfl, hv.below⟩
theorem RSCheck_ok {w0 w : World} {L : LV} {R : LR} (hv : Mem w0 w L R) {g : G} {sa : Option Addr} {sn sk : Nat} (hd : (1, Value.slice sa sn sk, cellsB g.data) ∈ R) (hc : chkG g = true) : Calls Try.prog 24 #[.agg #[.int .i64 g.src, .int .i64 g.dst, .int .u32 g.seq, .int .u32 g.ack, .int .i64 g.fl, .int .i64 g.wnd, .slice sa sn sk]] w fun e w' => e = .returned (.bool true) ∧ New w w' := by
 have h := chkG_facts hc
 have hsn := len_rd1 (hv.rd hd)
 have H1 : Hid (1 ≤ (g.src : Int) ∧ (g.src : Int) ≤ 65535) := Lib.hid (by omega)
 have H2 : Hid (1 ≤ (g.dst : Int) ∧ (g.dst : Int) ≤ 65535) := Lib.hid (by omega)
 have y1 : (0 : Int) ≤ (g.fl : Int) := by omega
 have y2 : (g.fl : Int) ≤ 31 := by omega
 have y3 : (0 : Int) ≤ (g.wnd : Int) := by omega
 have y4 : (g.wnd : Int) ≤ 65535 := by omega
 have y5 : (sn : Int) ≤ 64 := by omega
 have y6 : sn ≤ 64 := by omega
 clear hv
 have hv := Mem.nil w
 clear h hsn hd hc
 go_enter Try.func24, Try.ntmps24
 go_wp2_with (first
   | ((with_reducible refine gBx 42 1 ?_); refine nwB hv #[.int .i64 g.src, .int .i64 g.dst, .int .u32 g.seq, .int .u32 g.ack, .int .i64 g.fl, .int .i64 g.wnd, .slice sa sn sk] 42 ?_; clear hv; intro b_1 w2 hv)
   | ((with_reducible refine gLd 3 ?_); refine ldC hv b_1 0 (.int .i64 g.src) Try.underlying3 ?_)
   | ((with_reducible refine gLd 3 ?_); refine ldC hv b_1 1 (.int .i64 g.dst) Try.underlying3 ?_)
   | ((with_reducible refine gLd 3 ?_); refine ldC hv b_1 4 (.int .i64 g.fl) Try.underlying3 ?_)
   | ((with_reducible refine gLd 3 ?_); refine ldC hv b_1 5 (.int .i64 g.wnd) Try.underlying3 ?_)
   | ((with_reducible refine gLd 23 ?_); refine ldC hv b_1 6 (.slice sa sn sk) Try.underlying23 ?_)
   | (go_at_call 53; (with_reducible refine (sport_ok H1.out _).mono ?_); rintro e w1 ⟨rfl, hn1⟩; replace hv := hv.new hn1; clear hn1)
   | (go_at_call 53; (with_reducible refine (sport_ok H2.out _).mono ?_); rintro e w1 ⟨rfl, hn1⟩; replace hv := hv.new hn1; clear hn1))
 go_ret
 exact ⟨rfl, hv.below⟩
theorem RFew_any {w0 w : World} {L : LV} {R : LR} (hv : Mem w0 w L R) {st lo po wnd rto tr er : Int} {ip iss una nx inx tm : Nat} {en se ed : Bool} {da ba pa : Option Addr} {dn dk bn bk pn pk : Nat} {s : St} {l : List PcV} (hs : InS R inx (.slice ba bn bk) (.slice pa pn pk) s l) : Calls Try.prog 21 #[.agg #[.int .i64 st, .int .i64 lo, .int .u32 ip, .int .i64 po, .int .u32 iss, .int .u32 una, .int .u32 nx, .slice da dn dk, .int .i64 wnd, .bool en, .bool se, .int .u32 inx, .slice ba bn bk, .slice pa pn pk, .bool ed, .int .u64 tm, .int .i64 rto, .int .i64 tr, .int .i64 er]] w fun e w' => e = .returned (.bool (decide (dn ≤ 600) && fewB s.bytes l)) ∧ New w w' := by
 have HF : Hid (∀ w1, New w w1 → Calls Try.prog 48 #[.agg #[.int .u32 inx, .slice ba bn bk, .slice pa pn pk]] w1 fun e w' => e = .returned (.bool (fewB s.bytes l)) ∧ New w1 w') := Lib.hid (fun w1 hn => Few_S (hv.new hn) hs)
 clear hv
 have hv := Mem.nil w
 clear hs
 by_cases h : dn ≤ 600
 · rw [decide_eq_true h, Bool.true_and]
   have y1 : (dn : Int) ≤ 600 := by omega
   go_enter Try.func21, Try.ntmps21
   go_wp2_with (first
     | ((with_reducible refine gBx 31 1 ?_); refine nwB hv #[.int .i64 st, .int .i64 lo, .int .u32 ip, .int .i64 po, .int .u32 iss, .int .u32 una, .int .u32 nx, .slice da dn dk, .int .i64 wnd, .bool en, .bool se, .int .u32 inx, .slice ba bn bk, .slice pa pn pk, .bool ed, .int .u64 tm, .int .i64 rto, .int .i64 tr, .int .i64 er] 31 ?_; clear hv; intro b_1 w2 hv)
     | ((with_reducible refine gLd 23 ?_); refine ldC hv b_1 7 (.slice da dn dk) Try.underlying23 ?_)
     | ((with_reducible refine at_load (T := 27) ?_); refine wl_ldp rfl b_1 11 rfl _ hv.vars.ro 3 _ Try.underlying27 rfl infoStr (by decide) (by show 11 + 3 ≤ 19; decide) (#[.int .u32 inx, .slice ba bn bk, .slice pa pn pk]) (ext19s _ _ _ _ _ _ _ _ _ _ _ _ _ _ _ _ _ _ _) ?_)
     | (go_at_call 48; (with_reducible refine (HF.out _ hv.below).mono ?_); rintro e w1 ⟨rfl, hn1⟩; replace hv := hv.new hn1; clear hn1))
   go_ret
   exact ⟨rfl, hv.below⟩
 · rw [decide_eq_false h, Bool.false_and]
   have y1 : ¬ (dn : Int) ≤ 600 := by omega
   go_enter Try.func21, Try.ntmps21
   go_wp2_with (first
     | ((with_reducible refine gBx 31 1 ?_); refine nwB hv #[.int .i64 st, .int .i64 lo, .int .u32 ip, .int .i64 po, .int .u32 iss, .int .u32 una, .int .u32 nx, .slice da dn dk, .int .i64 wnd, .bool en, .bool se, .int .u32 inx, .slice ba bn bk, .slice pa pn pk, .bool ed, .int .u64 tm, .int .i64 rto, .int .i64 tr, .int .i64 er] 31 ?_; clear hv; intro b_1 w2 hv)
     | ((with_reducible refine gLd 23 ?_); refine ldC hv b_1 7 (.slice da dn dk) Try.underlying23 ?_))
   go_ret
   exact ⟨rfl, hv.below⟩
end Go.Proofs.Ythenepdbgeafkaa
end

section
/-
 The reference (layer 26): which connections may be.
-/
namespace Go.Proofs.Tp
open Go Go.RowKit Go.Proofs.Wi
inductive BadI (st lo po wnd rto tr er : Int) (dn tm : Nat) (en se ck : Bool) : Prop
 | a1 (h : st < 0)
 | a2 (g1 : ¬ st < 0) (h : 9 < st)
 | a3 (g1 : ¬ st < 0) (g2 : ¬ 9 < st) (h : ¬ (1 ≤ lo ∧ lo ≤ 65535))
 | a4 (g1 : ¬ st < 0) (g2 : ¬ 9 < st) (g3 : 1 ≤ lo ∧ lo ≤ 65535) (h : ¬ (1 ≤ po ∧ po ≤ 65535))
 | a5 (g1 : ¬ st < 0) (g2 : ¬ 9 < st) (g3 : 1 ≤ lo ∧ lo ≤ 65535) (g4 : 1 ≤ po ∧ po ≤ 65535) (h : ¬ dn ≤ 256)
 | a6 (g1 : ¬ st < 0) (g2 : ¬ 9 < st) (g3 : 1 ≤ lo ∧ lo ≤ 65535) (g4 : 1 ≤ po ∧ po ≤ 65535) (g5 : dn ≤ 256) (h : wnd < 0)
 | a7 (g1 : ¬ st < 0) (g2 : ¬ 9 < st) (g3 : 1 ≤ lo ∧ lo ≤ 65535) (g4 : 1 ≤ po ∧ po ≤ 65535) (g5 : dn ≤ 256) (g6 : ¬ wnd < 0) (h : 65535 < wnd)
 | a8 (g1 : ¬ st < 0) (g2 : ¬ 9 < st) (g3 : 1 ≤ lo ∧ lo ≤ 65535) (g4 : 1 ≤ po ∧ po ≤ 65535) (g5 : dn ≤ 256) (g6 : ¬ wnd < 0) (g7 : ¬ 65535 < wnd) (h : ck = false)
theorem bad_or (st lo po wnd rto tr er : Int) (dn tm : Nat) (en se ck : Bool) : BadI st lo po wnd rto tr er dn tm en se ck ∨ (¬ st < 0 ∧ ¬ 9 < st ∧ (1 ≤ lo ∧ lo ≤ 65535) ∧ (1 ≤ po ∧ po ≤ 65535) ∧ dn ≤ 256 ∧ ¬ wnd < 0 ∧ ¬ 65535 < wnd ∧ ck = true) := by
 by_cases h1 : st < 0
 · exact .inl (.a1 h1)
 by_cases h2 : 9 < st
 · exact .inl (.a2 h1 h2)
 by_cases h3 : 1 ≤ lo ∧ lo ≤ 65535
 rotate_left
 · exact .inl (.a3 h1 h2 h3)
 by_cases h4 : 1 ≤ po ∧ po ≤ 65535
 rotate_left
 · exact .inl (.a4 h1 h2 h3 h4)
 by_cases h5 : dn ≤ 256
 rotate_left
 · exact .inl (.a5 h1 h2 h3 h4 h5)
 by_cases h6 : wnd < 0
 · exact .inl (.a6 h1 h2 h3 h4 h5 h6)
 by_cases h7 : 65535 < wnd
 · exact .inl (.a7 h1 h2 h3 h4 h5 h6 h7)
 cases ck with
 | false => exact .inl (.a8 h1 h2 h3 h4 h5 h6 h7 rfl)
 | true => exact .inr ⟨h1, h2, h3, h4, h5, h6, h7, rfl⟩
inductive BadJ (st rto tr er : Int) (tm : Nat) (en se : Bool) : Prop
 | b1 (h : ¬ tm ≤ 1099511627776)
 | b2 (g1 : tm ≤ 1099511627776) (h : rto < 1)
 | b3 (g1 : tm ≤ 1099511627776) (g2 : ¬ rto < 1) (h : 64 < rto)
 | b4 (g1 : tm ≤ 1099511627776) (g2 : ¬ rto < 1) (g3 : ¬ 64 < rto) (h : tr < 0)
 | b5 (g1 : tm ≤ 1099511627776) (g2 : ¬ rto < 1) (g3 : ¬ 64 < rto) (g4 : ¬ tr < 0) (h : 12 < tr)
 | b6 (g1 : tm ≤ 1099511627776) (g2 : ¬ rto < 1) (g3 : ¬ 64 < rto) (g4 : ¬ tr < 0) (g5 : ¬ 12 < tr) (h : er < 0)
 | b7 (g1 : tm ≤ 1099511627776) (g2 : ¬ rto < 1) (g3 : ¬ 64 < rto) (g4 : ¬ tr < 0) (g5 : ¬ 12 < tr) (g6 : ¬ er < 0) (h : 1000 < er)
 | b8 (g1 : tm ≤ 1099511627776) (g2 : ¬ rto < 1) (g3 : ¬ 64 < rto) (g4 : ¬ tr < 0) (g5 : ¬ 12 < tr) (g6 : ¬ er < 0) (g7 : ¬ 1000 < er) (h : se = true) (h2 : en = false)
theorem badj_or (st rto tr er : Int) (tm : Nat) (en se : Bool) : BadJ st rto tr er tm en se ∨ (tm ≤ 1099511627776 ∧ ¬ rto < 1 ∧ ¬ 64 < rto ∧ ¬ tr < 0 ∧ ¬ 12 < tr ∧ ¬ er < 0 ∧ ¬ 1000 < er ∧ (se = true → en = true)) := by
 by_cases h1 : tm ≤ 1099511627776
 rotate_left
 · exact .inl (.b1 h1)
 by_cases h2 : rto < 1
 · exact .inl (.b2 h1 h2)
 by_cases h3 : 64 < rto
 · exact .inl (.b3 h1 h2 h3)
 by_cases h4 : tr < 0
 · exact .inl (.b4 h1 h2 h3 h4)
 by_cases h5 : 12 < tr
 · exact .inl (.b5 h1 h2 h3 h4 h5)
 by_cases h6 : er < 0
 · exact .inl (.b6 h1 h2 h3 h4 h5 h6)
 by_cases h7 : 1000 < er
 · exact .inl (.b7 h1 h2 h3 h4 h5 h6 h7)
 cases hs : se with
 | false => exact .inr ⟨h1, h2, h3, h4, h5, h6, h7, fun h => by cases h⟩
 | true =>
   cases he : en with
   | false => subst hs; subst he; exact .inl (.b8 h1 h2 h3 h4 h5 h6 h7 rfl rfl)
   | true => exact .inr ⟨h1, h2, h3, h4, h5, h6, h7, fun _ => rfl⟩
end Go.Proofs.Tp
namespace Go.Proofs.Ythenepdbgeafkaa
open Go.Proofs.Wi Go.RowKit Go.Proofs Go.Proofs.Tp
theorem RCheck_bad {w0 w : World} {L : LV} {R : LR} (hv : Mem w0 w L R) {st lo po wnd rto tr er : Int} {ip iss una nx inx tm : Nat} {en se ed : Bool} {da ba pa : Option Addr} {dn dk bn bk pn pk : Nat} {s : St} {l : List PcV} (hs : InS R inx (.slice ba bn bk) (.slice pa pn pk) s l) (hf : fewB s.bytes l = true) (hnx : inx < 4294967296) (hsq : ∀ p ∈ l, p.1 < 4294967296) (h : BadI st lo po wnd rto tr er dn tm en se (chk s)) : Calls Try.prog 22 #[.agg #[.int .i64 st, .int .i64 lo, .int .u32 ip, .int .i64 po, .int .u32 iss, .int .u32 una, .int .u32 nx, .slice da dn dk, .int .i64 wnd, .bool en, .bool se, .int .u32 inx, .slice ba bn bk, .slice pa pn pk, .bool ed, .int .u64 tm, .int .i64 rto, .int .i64 tr, .int .i64 er]] w fun e w' => e = .returned (.bool false) ∧ New w w' := by
 have HR : Hid (∀ w1, New w w1 → Calls Try.prog 50 #[.agg #[.int .u32 inx, .slice ba bn bk, .slice pa pn pk]] w1 fun e w' => e = .returned (.bool (chk s)) ∧ New w1 w') := Lib.hid (fun w1 hn => RCheck_S (hv.new hn) hs hf hnx hsq)
 have hv0 := hv
 clear hv
 have hv := Mem.nil w
 rcases h with ⟨h⟩ | ⟨g1, h⟩ | ⟨g1, g2, k3⟩ | ⟨g1, g2, g3, k4⟩ | ⟨g1, g2, g3, g4, h⟩ | ⟨g1, g2, g3, g4, g5, h⟩ | ⟨g1, g2, g3, g4, g5, g6, h⟩ | ⟨g1, g2, g3, g4, g5, g6, g7, h8⟩
 all_goals try (have G3 := Lib.hid g3; clear g3)
 all_goals try (have G4 := Lib.hid g4; clear g4)
 all_goals try (have H3 := Lib.hid k3; clear k3)
 all_goals try (have H4 := Lib.hid k4; clear k4)
 all_goals try (rw [h8] at HR; clear h8)
 all_goals try (have y1 : (256 : Int) < (dn : Int) := (by omega))
 all_goals try (have y1 : decide ((256 : Int) < (dn : Int)) = false := decide_eq_false (by omega))
 all_goals try (have y2 : decide (256 < dn) = false := decide_eq_false (by omega))
 all_goals try (have zg6 : decide (wnd < 0) = false := decide_eq_false (by omega))
 all_goals try (have zg7 : decide (65535 < wnd) = false := decide_eq_false (by omega))
 all_goals clear hs hf hnx hsq hv0
 all_goals
   go_enter Try.func22, Try.ntmps22
   go_wp2_with (first
     | ((with_reducible refine gBx 31 1 ?_); refine nwB hv #[.int .i64 st, .int .i64 lo, .int .u32 ip, .int .i64 po, .int .u32 iss, .int .u32 una, .int .u32 nx, .slice da dn dk, .int .i64 wnd, .bool en, .bool se, .int .u32 inx, .slice ba bn bk, .slice pa pn pk, .bool ed, .int .u64 tm, .int .i64 rto, .int .i64 tr, .int .i64 er] 31 ?_; clear hv; intro b_1 w2 hv)
     | ((with_reducible refine gLd 3 ?_); refine ldC hv b_1 0 (.int .i64 st) Try.underlying3 ?_)
     | ((with_reducible refine gLd 3 ?_); refine ldC hv b_1 1 (.int .i64 lo) Try.underlying3 ?_)
     | ((with_reducible refine gLd 3 ?_); refine ldC hv b_1 3 (.int .i64 po) Try.underlying3 ?_)
     | ((with_reducible refine gLd 23 ?_); refine ldC hv b_1 7 (.slice da dn dk) Try.underlying23 ?_)
     | ((with_reducible refine gLd 3 ?_); refine ldC hv b_1 8 (.int .i64 wnd) Try.underlying3 ?_)
     | ((with_reducible refine at_load (T := 27) ?_); refine wl_ldp rfl b_1 11 rfl _ hv.vars.ro 3 _ Try.underlying27 rfl infoStr (by decide) (by show 11 + 3 ≤ 19; decide) (#[.int .u32 inx, .slice ba bn bk, .slice pa pn pk]) (ext19s _ _ _ _ _ _ _ _ _ _ _ _ _ _ _ _ _ _ _) ?_)
     | (go_at_call 49; (with_reducible refine (rport_ok G3.out _).mono ?_); rintro e w1 ⟨rfl, hn1⟩; replace hv := hv.new hn1; clear hn1)
     | (go_at_call 49; (with_reducible refine (rport_no H3.out _).mono ?_); rintro e w1 ⟨rfl, hn1⟩; replace hv := hv.new hn1; clear hn1)
     | (go_at_call 49; (with_reducible refine (rport_ok G4.out _).mono ?_); rintro e w1 ⟨rfl, hn1⟩; replace hv := hv.new hn1; clear hn1)
     | (go_at_call 49; (with_reducible refine (rport_no H4.out _).mono ?_); rintro e w1 ⟨rfl, hn1⟩; replace hv := hv.new hn1; clear hn1)
     | (go_at_call 50; (with_reducible refine (HR.out _ hv.below).mono ?_); rintro e w1 ⟨rfl, hn1⟩; replace hv := hv.new hn1; clear hn1))
   go_ret
   exact ⟨rfl, hv.below⟩
theorem RCheck_badj {w0 w : World} {L : LV} {R : LR} (hv : Mem w0 w L R) {st lo po wnd rto tr er : Int} {ip iss una nx inx tm : Nat} {en se ed : Bool} {da ba pa : Option Addr} {dn dk bn bk pn pk : Nat} {s : St} {l : List PcV} (hs : InS R inx (.slice ba bn bk) (.slice pa pn pk) s l) (hf : fewB s.bytes l = true) (hnx : inx < 4294967296) (hsq : ∀ p ∈ l, p.1 < 4294967296) (h1 : ¬ st < 0) (h2 : ¬ 9 < st) (h3 : 1 ≤ lo ∧ lo ≤ 65535) (h4 : 1 ≤ po ∧ po ≤ 65535) (h5 : dn ≤ 256) (h6 : ¬ wnd < 0) (h7 : ¬ 65535 < wnd) (h8 : chk s = true) (h : BadJ st rto tr er tm en se) : Calls Try.prog 22 #[.agg #[.int .i64 st, .int .i64 lo, .int .u32 ip, .int .i64 po, .int .u32 iss, .int .u32 una, .int .u32 nx, .slice da dn dk, .int .i64 wnd, .bool en, .bool se, .int .u32 inx, .slice ba bn bk, .slice pa pn pk, .bool ed, .int .u64 tm, .int .i64 rto, .int .i64 tr, .int .i64 er]] w fun e w' => e = .returned (.bool false) ∧ New w w' := by
 have HR : Hid (∀ w1, New w w1 → Calls Try.prog 50 #[.agg #[.int .u32 inx, .slice ba bn bk, .slice pa pn pk]] w1 fun e w' => e = .returned (.bool true) ∧ New w1 w') := Lib.hid (fun w1 hn => by have := RCheck_S (hv.new hn) hs hf hnx hsq; rwa [h8] at this)
 have hv0 := hv
 clear hv
 have hv := Mem.nil w
 have G3 := Lib.hid h3
 have G4 := Lib.hid h4
 have y1 : decide ((256 : Int) < (dn : Int)) = false := decide_eq_false (by omega)
 have y2 : decide (256 < dn) = false := decide_eq_false (by omega)
 clear h3 h4 h8
 rcases h with ⟨h⟩ | ⟨g1, h⟩ | ⟨g1, g2, h⟩ | ⟨g1, g2, g3, h⟩ | ⟨g1, g2, g3, g4, h⟩ | ⟨g1, g2, g3, g4, g5, h⟩ | ⟨g1, g2, g3, g4, g5, g6, h⟩ | ⟨g1, g2, g3, g4, g5, g6, g7, h, h2x⟩
 all_goals try (have y3 : (1099511627776 : Int) < (tm : Int) := (by omega); have y4 : 1099511627776 < tm := (by omega))
 all_goals try (have y3 : decide ((1099511627776 : Int) < (tm : Int)) = false := decide_eq_false (by omega))
 all_goals try (have y4 : decide (1099511627776 < tm) = false := decide_eq_false (by omega))
 all_goals try (have zg6 : decide (wnd < 0) = false := decide_eq_false (by omega))
 all_goals try (have zg7 : decide (65535 < wnd) = false := decide_eq_false (by omega))
 all_goals try (have yg2 : decide (rto < 1) = false := decide_eq_false (by omega))
 all_goals try (have yg3 : decide (64 < rto) = false := decide_eq_false (by omega))
 all_goals try (have yg4 : decide (tr < 0) = false := decide_eq_false (by omega))
 all_goals try (have yg5 : decide (12 < tr) = false := decide_eq_false (by omega))
 all_goals try (have yg6 : decide (er < 0) = false := decide_eq_false (by omega))
 all_goals try (have yg7 : decide (1000 < er) = false := decide_eq_false (by omega))
 all_goals clear hs hf hnx hsq hv0
 all_goals
   go_enter Try.func22, Try.ntmps22
   go_wp2_with (first
     | ((with_reducible refine gBx 31 1 ?_); refine nwB hv #[.int .i64 st, .int .i64 lo, .int .u32 ip, .int .i64 po, .int .u32 iss, .int .u32 una, .int .u32 nx, .slice da dn dk, .int .i64 wnd, .bool en, .bool se, .int .u32 inx, .slice ba bn bk, .slice pa pn pk, .bool ed, .int .u64 tm, .int .i64 rto, .int .i64 tr, .int .i64 er] 31 ?_; clear hv; intro b_1 w2 hv)
     | ((with_reducible refine gLd 3 ?_); refine ldC hv b_1 0 (.int .i64 st) Try.underlying3 ?_)
     | ((with_reducible refine gLd 3 ?_); refine ldC hv b_1 1 (.int .i64 lo) Try.underlying3 ?_)
     | ((with_reducible refine gLd 3 ?_); refine ldC hv b_1 3 (.int .i64 po) Try.underlying3 ?_)
     | ((with_reducible refine gLd 23 ?_); refine ldC hv b_1 7 (.slice da dn dk) Try.underlying23 ?_)
     | ((with_reducible refine gLd 3 ?_); refine ldC hv b_1 8 (.int .i64 wnd) Try.underlying3 ?_)
     | ((with_reducible refine at_load (T := 27) ?_); refine wl_ldp rfl b_1 11 rfl _ hv.vars.ro 3 _ Try.underlying27 rfl infoStr (by decide) (by show 11 + 3 ≤ 19; decide) (#[.int .u32 inx, .slice ba bn bk, .slice pa pn pk]) (ext19s _ _ _ _ _ _ _ _ _ _ _ _ _ _ _ _ _ _ _) ?_)
     | (go_at_call 49; (with_reducible refine (rport_ok G3.out _).mono ?_); rintro e w1 ⟨rfl, hn1⟩; replace hv := hv.new hn1; clear hn1)
     | (go_at_call 49; (with_reducible refine (rport_no H3.out _).mono ?_); rintro e w1 ⟨rfl, hn1⟩; replace hv := hv.new hn1; clear hn1)
     | (go_at_call 49; (with_reducible refine (rport_ok G4.out _).mono ?_); rintro e w1 ⟨rfl, hn1⟩; replace hv := hv.new hn1; clear hn1)
     | (go_at_call 49; (with_reducible refine (rport_no H4.out _).mono ?_); rintro e w1 ⟨rfl, hn1⟩; replace hv := hv.new hn1; clear hn1)
     | (go_at_call 50; (with_reducible refine (HR.out _ hv.below).mono ?_); rintro e w1 ⟨rfl, hn1⟩; replace hv := hv.new hn1; clear hn1)
     | ((with_reducible refine gLd 28 ?_); refine ldC hv b_1 15 (.int .u64 tm) Try.underlying28 ?_)
     | ((with_reducible refine gLd 3 ?_); refine ldC hv b_1 16 (.int .i64 rto) Try.underlying3 ?_)
     | ((with_reducible refine gLd 3 ?_); refine ldC hv b_1 17 (.int .i64 tr) Try.underlying3 ?_)
     | ((with_reducible refine gLd 29 ?_); refine ldC hv b_1 18 (.int .i64 er) Try.underlying29 ?_)
     | ((with_reducible refine gLd 4 ?_); refine ldC hv b_1 10 (.bool se) Try.underlying4 ?_)
     | ((with_reducible refine gLd 4 ?_); refine ldC hv b_1 9 (.bool en) Try.underlying4 ?_))
   go_ret
   exact ⟨rfl, hv.below⟩
end Go.Proofs.Ythenepdbgeafkaa
end

section
/-
 Connections (layer 26): Take of a segment that may not be: nothing changes.
-/
namespace Go.Proofs.Tp
open Go Go.RowKit Go.Proofs.Wi
def KBd (t : T) (LL : LV) (c' : C) (L' : LV) (_ : LR) : Prop := c' = ⟨t, []⟩ ∧ L' = LL
def BadP (w0 : World) (bc : Nat) (L : LV) (R : LR) (nw : Nat) (t : T) (e : Ending) (w' : World) : Prop :=
 ∃ R', e = .returned (.tuple #[]) ∧ CM w0 w' bc L (R' ++ R) nw ⟨t, []⟩
end Go.Proofs.Tp
namespace Go.Proofs.Ythenepdbgeafkaa
open Go.Proofs.Wi Go.RowKit Go.Proofs Go.Proofs.Tp
variable {L : LV} {R : LR} {t : T}
theorem take_bad {w0 w : World} {bc nw bs9 : Nat} {s0 s1 s2 s3 s4 s5 s6 : Value} (hc : CM w0 w bc ((bs9, #[s0, s1, s2, s3, s4, s5, s6]) :: L) R nw ⟨t, []⟩) (hsk : ∀ w, Calls Try.prog 32 #[.agg #[s0, s1, s2, s3, s4, s5, s6]] w fun e w' => e = .returned (.bool false) ∧ New w w') : Calls Try.prog 31 #[.pointer (some ⟨bc, 0, none⟩), .pointer (some ⟨bs9, 0, none⟩)] w (BadP w0 bc ((bs9, #[s0, s1, s2, s3, s4, s5, s6]) :: L) R nw t) := by
 obtain ⟨da, dn, dk, ba, bn, bk, pa, pn, pk, l, ov, gs, O, hv0, hI, hO⟩ := hc
 have hv : Mem w0 w ((bs9, #[s0, s1, s2, s3, s4, s5, s6]) :: (bc, #[.int .i64 t.st, .int .i64 t.lo, .int .u32 t.ip, .int .i64 t.po, .int .u32 t.iss, .int .u32 t.una, .int .u32 t.nx, .slice da dn dk, .int .i64 t.wnd, .bool t.en, .bool t.se, .int .u32 t.inn.next, .slice ba bn bk, .slice pa pn pk, .bool t.ed, .int .u64 t.tm, .int .i64 t.rto, .int .i64 t.tr, .int .i64 t.er, .int .u64 nw, ov]) :: (O ++ L)) R := hv0.perm (List.perm_middle (l₁ := (bc, _) :: O))
 have HI := Lib.hid hI
 have HO := Lib.hid hO
 have HSK := Lib.hid hsk
 clear hv0 hI hO hsk
 go_enter Try.func31, Try.ntmps31
 go_wp2
 refine Any.wr2 32 [(0, [1000], none), (5, [1000], none), (10, [1001], none), (15, [1000], none), (20, [1001], none), (28, [1001], none)] [] hv ?_
 simp only [Any.someVals]
 iterate 32 apply Exists.intro
 repeat ((first
  | refine Any.E_off rfl ?_
  | ((with_reducible refine Any.gE 42 ?_); refine Any.eW 1000 7 Try.underlying42 infoG7 ?_)
  | ((with_reducible refine Any.gE 3 ?_); refine Any.eC 1000 (s0) Try.underlying3 ?_)
  | ((with_reducible refine Any.gE 3 ?_); refine Any.eC 1000 (s1) Try.underlying3 ?_)
  | ((with_reducible refine Any.gE 3 ?_); refine Any.eC 1001 (.int .i64 t.po) Try.underlying3 ?_)
  | ((with_reducible refine Any.gE 3 ?_); refine Any.eC 1001 (.int .i64 t.lo) Try.underlying3 ?_)
  | ((with_reducible refine Any.gE 3 ?_); refine Any.eC 1001 (.int .i64 t.st) Try.underlying3 ?_)
  | (apply Any.E_val rfl rfl rfl rfl
     case h =>
      intro E' hA K hK
      first
       | (go_big_quiet_op; first
          | (refine hK _ ?_; rfl)
          | (refine ⟨_, fun _ _ => rfl, ?_⟩; refine hK _ ?_; rfl)
          | (apply Exists.intro; refine ⟨fun w1 hw1 => ?_, ?_⟩; · (first
              | (go_at_call 32; exact Any.calls_VE (HSK.out _) hw1))
             refine hK _ ?_; rfl))
     case hD => rfl)); simp only [Act.put, sia, scs, scz])
 try any_goals exact undef
 refine Any.fin2 hv [1000, 1001] ?_; clear hv; intro w9 hv
 clear HSK
 go_wp2
 go_end0
 exact ⟨[], rfl, CM.of (A := [_]) (O := O) (c := ⟨t, []⟩) hv HI.out HO.out⟩
theorem take_bad_do {w0 : World} {nw b4 : Nat} {s0 s1 s2 s3 s4 s5 s6 : Value} {x6 x3 : Nat × Array Value} (hsk : ∀ w, Calls Try.prog 32 #[.agg #[s0, s1, s2, s3, s4, s5, s6]] w fun e w' => e = .returned (.bool false) ∧ New w w') (w1 : World) (bc : Nat) (A : LV)
   (hc : CM w0 w1 bc (A ++ (x6 :: (b4, #[s0, s1, s2, s3, s4, s5, s6]) :: x3 :: L)) R nw ⟨t, []⟩) :
   Calls Try.prog 31 (#[.pointer (some ⟨bc, 0, none⟩)] ++ #[.pointer (some ⟨b4, 0, none⟩)]) w1 (DoP (KBd t (x6 :: (b4, #[s0, s1, s2, s3, s4, s5, s6]) :: x3 :: L)) w0 bc A R nw) := by
 rw [app2]
 refine (take_bad (bs9 := b4) (hc.perm (permA1 A _ _ _)) hsk).mono ?_
 rintro e w' ⟨R', rfl, h2⟩
 exact ⟨_, _, R', rfl, ⟨rfl, rfl⟩, h2.perm (permA1 A _ _ _).symm⟩
theorem Take_bad_T {w0 w : World} (hv : Mem w0 w L R) {da ba pa : Option Addr} {dn dk bn bk pn pk : Nat} {l : List PcV} (hI : InC R t da dn dk ba bn bk pa pn pk l) (hck : chkT t = true) {nw : Nat} {s0 s1 s2 s3 s4 s5 s6 : Value} (hsk : ∀ w, Calls Try.prog 32 #[.agg #[s0, s1, s2, s3, s4, s5, s6]] w fun e w' => e = .returned (.bool false) ∧ New w w') : Calls Try.prog 13 #[.agg #[.int .i64 t.st, .int .i64 t.lo, .int .u32 t.ip, .int .i64 t.po, .int .u32 t.iss, .int .u32 t.una, .int .u32 t.nx, .slice da dn dk, .int .i64 t.wnd, .bool t.en, .bool t.se, .int .u32 t.inn.next, .slice ba bn bk, .slice pa pn pk, .bool t.ed, .int .u64 t.tm, .int .i64 t.rto, .int .i64 t.tr, .int .i64 t.er], .agg #[s0, s1, s2, s3, s4, s5, s6], .int .u64 nw] w (RTP w0 L R ⟨t, []⟩) := by
 have HSK := Lib.hid hsk
 have HI := Lib.hid hI
 have HCK := Lib.hid hck
 clear hI hck
 clear hsk
 go_enter Try.func13, Try.ntmps13
 go_wp2_with (first
   | ((with_reducible refine gBx 31 3 ?_); refine nwB hv #[.int .i64 t.st, .int .i64 t.lo, .int .u32 t.ip, .int .i64 t.po, .int .u32 t.iss, .int .u32 t.una, .int .u32 t.nx, .slice da dn dk, .int .i64 t.wnd, .bool t.en, .bool t.se, .int .u32 t.inn.next, .slice ba bn bk, .slice pa pn pk, .bool t.ed, .int .u64 t.tm, .int .i64 t.rto, .int .i64 t.tr, .int .i64 t.er] 31 ?_; clear hv; intro b_3 w2 hv)
   | ((with_reducible refine gBx 42 4 ?_); refine nwB hv #[s0, s1, s2, s3, s4, s5, s6] 42 ?_; clear hv; intro b_4 w2 hv)
   | ((with_reducible refine gAl 31 6 ?_); refine nwB hv #[.int .i64 0, .int .i64 0, .int .u32 0, .int .i64 0, .int .u32 0, .int .u32 0, .int .u32 0, .slice none 0 0, .int .i64 0, .bool false, .bool false, .int .u32 0, .slice none 0 0, .slice none 0 0, .bool false, .int .u64 0, .int .i64 0, .int .i64 0, .int .i64 0] 31 ?_; clear hv; intro b_6 w2 hv)
   | ((with_reducible refine gLd 31 ?_); refine ldV hv b_3 19 Try.underlying31 infoT19 ?_)
   | (go_at_call 25; (refine (done_C (K := KBd t ((b_6, #[.int .i64 0, .int .i64 0, .int .u32 0, .int .i64 0, .int .u32 0, .int .u32 0, .int .u32 0, .slice none 0 0, .int .i64 0, .bool false, .bool false, .int .u32 0, .slice none 0 0, .slice none 0 0, .bool false, .int .u64 0, .int .i64 0, .int .i64 0, .int .i64 0]) :: (b_4, #[s0, s1, s2, s3, s4, s5, s6]) :: (b_3, #[.int .i64 t.st, .int .i64 t.lo, .int .u32 t.ip, .int .i64 t.po, .int .u32 t.iss, .int .u32 t.una, .int .u32 t.nx, .slice da dn dk, .int .i64 t.wnd, .bool t.en, .bool t.se, .int .u32 t.inn.next, .slice ba bn bk, .slice pa pn pk, .bool t.ed, .int .u64 t.tm, .int .i64 t.rto, .int .i64 t.tr, .int .i64 t.er]) :: L)) hv HI.out HCK.out (nw := nw) (f := 31) (cap := #[.pointer (some ⟨b_4, 0, none⟩)]) (Go.Proofs.enters_of Try.func31 (by kernel_rfl) rfl) (take_bad_do (b4 := b_4) (x6 := (b_6, #[.int .i64 0, .int .i64 0, .int .u32 0, .int .i64 0, .int .u32 0, .int .u32 0, .int .u32 0, .slice none 0 0, .int .i64 0, .bool false, .bool false, .int .u32 0, .slice none 0 0, .slice none 0 0, .bool false, .int .u64 0, .int .i64 0, .int .i64 0, .int .i64 0])) (x3 := (b_3, #[.int .i64 t.st, .int .i64 t.lo, .int .u32 t.ip, .int .i64 t.po, .int .u32 t.iss, .int .u32 t.una, .int .u32 t.nx, .slice da dn dk, .int .i64 t.wnd, .bool t.en, .bool t.se, .int .u32 t.inn.next, .slice ba bn bk, .slice pa pn pk, .bool t.ed, .int .u64 t.tm, .int .i64 t.rto, .int .i64 t.tr, .int .i64 t.er])) (L := L) HSK.out)).mono ?_); rintro e w1 ⟨c1, L1, R1, vt, ov1, rfl, ⟨rfl, rfl⟩, hr1⟩; obtain ⟨da1, dn1, dk1, ba1, bn1, bk1, pa1, pn1, pk1, l1, gs1, O1, rfl, hv1, hI1, hO1⟩ := hr1; clear hv; have hv := hv1; clear hv1; have HI1 := Lib.hid hI1; have HO1 := Lib.hid hO1; clear hI1 hO1; have hv2 : Mem w0 _ ([(b_6, #[.int .i64 0, .int .i64 0, .int .u32 0, .int .i64 0, .int .u32 0, .int .u32 0, .int .u32 0, .slice none 0 0, .int .i64 0, .bool false, .bool false, .int .u32 0, .slice none 0 0, .slice none 0 0, .bool false, .int .u64 0, .int .i64 0, .int .i64 0, .int .i64 0]), (b_4, #[s0, s1, s2, s3, s4, s5, s6]), (b_3, #[.int .i64 t.st, .int .i64 t.lo, .int .u32 t.ip, .int .i64 t.po, .int .u32 t.iss, .int .u32 t.una, .int .u32 t.nx, .slice da dn dk, .int .i64 t.wnd, .bool t.en, .bool t.se, .int .u32 t.inn.next, .slice ba bn bk, .slice pa pn pk, .bool t.ed, .int .u64 t.tm, .int .i64 t.rto, .int .i64 t.tr, .int .i64 t.er])] ++ (O1 ++ L)) _ := hv.perm (perm_out O1 [(b_6, #[.int .i64 0, .int .i64 0, .int .u32 0, .int .i64 0, .int .u32 0, .int .u32 0, .int .u32 0, .slice none 0 0, .int .i64 0, .bool false, .bool false, .int .u32 0, .slice none 0 0, .slice none 0 0, .bool false, .int .u64 0, .int .i64 0, .int .i64 0, .int .i64 0]), (b_4, #[s0, s1, s2, s3, s4, s5, s6]), (b_3, #[.int .i64 t.st, .int .i64 t.lo, .int .u32 t.ip, .int .i64 t.po, .int .u32 t.iss, .int .u32 t.una, .int .u32 t.nx, .slice da dn dk, .int .i64 t.wnd, .bool t.en, .bool t.se, .int .u32 t.inn.next, .slice ba bn bk, .slice pa pn pk, .bool t.ed, .int .u64 t.tm, .int .i64 t.rto, .int .i64 t.tr, .int .i64 t.er])] L); clear hv; have hv := hv2; clear hv2; simp only [List.cons_append, List.nil_append] at hv)
   | ((with_reducible refine gSt 31 ?_); refine stV hv b_6 19 infoT19 ?_ (h1 := (rowT_one _ _ _ _ _ _ _ _ _ _)); clear hv; intro w2 hv))
 try simp only [Exit.inBlock, Exit.then]
 refine ret_cell2 (v := .agg (rowT t (.slice da1 dn1 dk1) (.slice ba1 bn1 bk1) (.slice pa1 pn1 pk1))) (v1 := ov1) rfl rfl (read_row _ b_6 31 _ (hv.vars.ro (b := b_6)) 19 _ Try.underlying31 rfl infoT19 (by decide) rfl) rfl rfl ?_
 exact ⟨R1, _, ov1, rfl, _, _, _, _, _, _, _, _, _, _, _, _, rfl, hv.drop.drop.drop, HI1.out, HO1.out⟩
end Go.Proofs.Ythenepdbgeafkaa
end
