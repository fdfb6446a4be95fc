/-
 TcpWaits: nothing is sent beyond the peer's window.
-/
import Derived.Test.YthenepdbgeafkaaGAY
import Derived.Test.YthenepdbgeafkaaTcOp
import Derived.Test.YthenepdbgeafkaaTcY
set_option maxRecDepth 100000
set_option maxHeartbeats 8000000
set_option linter.unusedVariables false
set_option linter.unusedSimpArgs false
namespace Go.Proofs.Ythenepdbgeafkaa
open Go.Proofs.Wi Go.RowKit Go.Proofs Go.Proofs.Tp
theorem Waits_a (w : World) (R : List (Nat × Value × List Value)) (hv : Mem w w [] R) {st lo po wnd rto tr er : Int} {ip iss una nx inx tm : Nat} {en se ed : Bool} {da ba pa : Option Addr} {dn dk bn bk pn pk : Nat} {xa : Option Addr} {xn xk now : Nat} (hF : ∀ w' L', Mem w w' L' R → Calls Try.prog 21 #[.agg #[.int .i64 st, .int .i64 lo, .int .u32 ip, .int .i64 po, .int .u32 iss, .int .u32 una, .int .u32 nx, .slice da dn dk, .int .i64 wnd, .bool en, .bool se, .int .u32 inx, .slice ba bn bk, .slice pa pn pk, .bool ed, .int .u64 tm, .int .i64 rto, .int .i64 tr, .int .i64 er]] w' fun e w2 => e = .returned (.bool false) ∧ New w' w2) : Calls Try.prog 6 #[.agg #[.int .i64 st, .int .i64 lo, .int .u32 ip, .int .i64 po, .int .u32 iss, .int .u32 una, .int .u32 nx, .slice da dn dk, .int .i64 wnd, .bool en, .bool se, .int .u32 inx, .slice ba bn bk, .slice pa pn pk, .bool ed, .int .u64 tm, .int .i64 rto, .int .i64 tr, .int .i64 er], .slice xa xn xk, .int .u64 now] w (fun e w' => e = .returned (.bool true) ∧ New w w') := by
 have HF := Lib.hid hF
 clear hF
 go_enter Try.func6, Try.ntmps6
 go_wp2_with (first
   | ((with_reducible refine gBx 31 3 ?_); refine nwB hv #[.int .i64 st, .int .i64 lo, .int .u32 ip, .int .i64 po, .int .u32 iss, .int .u32 una, .int .u32 nx, .slice da dn dk, .int .i64 wnd, .bool en, .bool se, .int .u32 inx, .slice ba bn bk, .slice pa pn pk, .bool ed, .int .u64 tm, .int .i64 rto, .int .i64 tr, .int .i64 er] 31 ?_; clear hv; intro b_3 w2 hv)
   | ((with_reducible refine gLd 31 ?_); refine ldV hv b_3 19 Try.underlying31 infoT19 ?_)
   | (go_at_call 21; (with_reducible refine (HF.out _ _ hv).mono ?_); rintro e w1 ⟨rfl, hn1⟩; replace hv := hv.new hn1; clear hn1)
   | (go_at_call 9; (with_reducible refine (heads26 _).mono ?_); rintro e w1 ⟨rfl, hn1⟩; replace hv := hv.new hn1; clear hn1))
 go_ret
 exact ⟨rfl, hv.below⟩
theorem Waits_b (w : World) (R : List (Nat × Value × List Value)) (hv : Mem w w [] R) {st lo po wnd rto tr er : Int} {ip iss una nx inx tm : Nat} {en se ed : Bool} {da ba pa : Option Addr} {dn dk bn bk pn pk : Nat} {xa : Option Addr} {xn xk now : Nat} (hF : ∀ w' L', Mem w w' L' R → Calls Try.prog 21 #[.agg #[.int .i64 st, .int .i64 lo, .int .u32 ip, .int .i64 po, .int .u32 iss, .int .u32 una, .int .u32 nx, .slice da dn dk, .int .i64 wnd, .bool en, .bool se, .int .u32 inx, .slice ba bn bk, .slice pa pn pk, .bool ed, .int .u64 tm, .int .i64 rto, .int .i64 tr, .int .i64 er]] w' fun e w2 => e = .returned (.bool true) ∧ New w' w2) (hC : ∀ w' L', Mem w w' L' R → Calls Try.prog 22 #[.agg #[.int .i64 st, .int .i64 lo, .int .u32 ip, .int .i64 po, .int .u32 iss, .int .u32 una, .int .u32 nx, .slice da dn dk, .int .i64 wnd, .bool en, .bool se, .int .u32 inx, .slice ba bn bk, .slice pa pn pk, .bool ed, .int .u64 tm, .int .i64 rto, .int .i64 tr, .int .i64 er]] w' fun e w2 => e = .returned (.bool false) ∧ New w' w2) : Calls Try.prog 6 #[.agg #[.int .i64 st, .int .i64 lo, .int .u32 ip, .int .i64 po, .int .u32 iss, .int .u32 una, .int .u32 nx, .slice da dn dk, .int .i64 wnd, .bool en, .bool se, .int .u32 inx, .slice ba bn bk, .slice pa pn pk, .bool ed, .int .u64 tm, .int .i64 rto, .int .i64 tr, .int .i64 er], .slice xa xn xk, .int .u64 now] w (fun e w' => e = .returned (.bool true) ∧ New w w') := by
 have HF := Lib.hid hF
 have HC := Lib.hid hC
 clear hF hC
 go_enter Try.func6, Try.ntmps6
 go_wp2_with (first
   | ((with_reducible refine gBx 31 3 ?_); refine nwB hv #[.int .i64 st, .int .i64 lo, .int .u32 ip, .int .i64 po, .int .u32 iss, .int .u32 una, .int .u32 nx, .slice da dn dk, .int .i64 wnd, .bool en, .bool se, .int .u32 inx, .slice ba bn bk, .slice pa pn pk, .bool ed, .int .u64 tm, .int .i64 rto, .int .i64 tr, .int .i64 er] 31 ?_; clear hv; intro b_3 w2 hv)
   | ((with_reducible refine gLd 31 ?_); refine ldV hv b_3 19 Try.underlying31 infoT19 ?_)
   | (go_at_call 21; (with_reducible refine (HF.out _ _ hv).mono ?_); rintro e w1 ⟨rfl, hn1⟩; replace hv := hv.new hn1; clear hn1)
   | (go_at_call 22; (with_reducible refine (HC.out _ _ hv).mono ?_); rintro e w1 ⟨rfl, hn1⟩; replace hv := hv.new hn1; clear hn1)
   | (go_at_call 9; (with_reducible refine (heads26 _).mono ?_); rintro e w1 ⟨rfl, hn1⟩; replace hv := hv.new hn1; clear hn1))
 go_ret
 exact ⟨rfl, hv.below⟩
theorem Waits_c (w : World) (R : List (Nat × Value × List Value)) (hv : Mem w w [] R) {t : T} {da ba pa : Option Addr} {dn dk bn bk pn pk : Nat} {xa : Option Addr} {xn xk now : Nat} (hF : ∀ w' L', Mem w w' L' R → Calls Try.prog 21 #[.agg #[.int .i64 (t.st : Nat), .int .i64 (t.lo : Nat), .int .u32 (t.ip : Nat), .int .i64 (t.po : Nat), .int .u32 (t.iss : Nat), .int .u32 (t.una : Nat), .int .u32 (t.nx : Nat), .slice da dn dk, .int .i64 (t.wnd : Nat), .bool t.en, .bool t.se, .int .u32 (t.inn.next : Nat), .slice ba bn bk, .slice pa pn pk, .bool t.ed, .int .u64 (t.tm : Nat), .int .i64 (t.rto : Nat), .int .i64 (t.tr : Nat), .int .i64 (t.er : Nat)]] w' fun e w2 => e = .returned (.bool true) ∧ New w' w2) (hC : ∀ w' L', Mem w w' L' R → Calls Try.prog 22 #[.agg #[.int .i64 (t.st : Nat), .int .i64 (t.lo : Nat), .int .u32 (t.ip : Nat), .int .i64 (t.po : Nat), .int .u32 (t.iss : Nat), .int .u32 (t.una : Nat), .int .u32 (t.nx : Nat), .slice da dn dk, .int .i64 (t.wnd : Nat), .bool t.en, .bool t.se, .int .u32 (t.inn.next : Nat), .slice ba bn bk, .slice pa pn pk, .bool t.ed, .int .u64 (t.tm : Nat), .int .i64 (t.rto : Nat), .int .i64 (t.tr : Nat), .int .i64 (t.er : Nat)]] w' fun e w2 => e = .returned (.bool true) ∧ New w' w2) (h3 : t.st ≠ 3) : Calls Try.prog 6 #[.agg #[.int .i64 (t.st : Nat), .int .i64 (t.lo : Nat), .int .u32 (t.ip : Nat), .int .i64 (t.po : Nat), .int .u32 (t.iss : Nat), .int .u32 (t.una : Nat), .int .u32 (t.nx : Nat), .slice da dn dk, .int .i64 (t.wnd : Nat), .bool t.en, .bool t.se, .int .u32 (t.inn.next : Nat), .slice ba bn bk, .slice pa pn pk, .bool t.ed, .int .u64 (t.tm : Nat), .int .i64 (t.rto : Nat), .int .i64 (t.tr : Nat), .int .i64 (t.er : Nat)], .slice xa xn xk, .int .u64 now] w (fun e w' => e = .returned (.bool true) ∧ New w w') := by
 have y3 : ((t.st : Int) != 3) = true := by rw [bne_iff_ne]; omega
 have HF := Lib.hid hF
 have HC := Lib.hid hC
 clear hF hC
 clear h3
 go_enter Try.func6, Try.ntmps6
 go_wp2_with (first
   | ((with_reducible refine gBx 31 3 ?_); refine nwB hv #[.int .i64 (t.st : Nat), .int .i64 (t.lo : Nat), .int .u32 (t.ip : Nat), .int .i64 (t.po : Nat), .int .u32 (t.iss : Nat), .int .u32 (t.una : Nat), .int .u32 (t.nx : Nat), .slice da dn dk, .int .i64 (t.wnd : Nat), .bool t.en, .bool t.se, .int .u32 (t.inn.next : Nat), .slice ba bn bk, .slice pa pn pk, .bool t.ed, .int .u64 (t.tm : Nat), .int .i64 (t.rto : Nat), .int .i64 (t.tr : Nat), .int .i64 (t.er : Nat)] 31 ?_; clear hv; intro b_3 w2 hv)
   | ((with_reducible refine gLd 31 ?_); refine ldV hv b_3 19 Try.underlying31 infoT19 ?_)
   | (go_at_call 21; (with_reducible refine (HF.out _ _ hv).mono ?_); rintro e w1 ⟨rfl, hn1⟩; replace hv := hv.new hn1; clear hn1)
   | (go_at_call 22; (with_reducible refine (HC.out _ _ hv).mono ?_); rintro e w1 ⟨rfl, hn1⟩; replace hv := hv.new hn1; clear hn1)
   | ((with_reducible refine gLd 3 ?_); refine ldC hv b_3 0 (.int .i64 (t.st : Nat)) Try.underlying3 ?_)
   | (go_at_call 9; (with_reducible refine (heads26 _).mono ?_); rintro e w1 ⟨rfl, hn1⟩; replace hv := hv.new hn1; clear hn1))
 go_ret
 exact ⟨rfl, hv.below⟩
theorem Waits_d (w : World) (R : List (Nat × Value × List Value)) (hv : Mem w w [] R) {t : T} {da ba pa : Option Addr} {dn dk bn bk pn pk : Nat} {xa : Option Addr} {xn xk now : Nat} (hF : ∀ w' L', Mem w w' L' R → Calls Try.prog 21 #[.agg #[.int .i64 (t.st : Nat), .int .i64 (t.lo : Nat), .int .u32 (t.ip : Nat), .int .i64 (t.po : Nat), .int .u32 (t.iss : Nat), .int .u32 (t.una : Nat), .int .u32 (t.nx : Nat), .slice da dn dk, .int .i64 (t.wnd : Nat), .bool t.en, .bool t.se, .int .u32 (t.inn.next : Nat), .slice ba bn bk, .slice pa pn pk, .bool t.ed, .int .u64 (t.tm : Nat), .int .i64 (t.rto : Nat), .int .i64 (t.tr : Nat), .int .i64 (t.er : Nat)]] w' fun e w2 => e = .returned (.bool true) ∧ New w' w2) (hC : ∀ w' L', Mem w w' L' R → Calls Try.prog 22 #[.agg #[.int .i64 (t.st : Nat), .int .i64 (t.lo : Nat), .int .u32 (t.ip : Nat), .int .i64 (t.po : Nat), .int .u32 (t.iss : Nat), .int .u32 (t.una : Nat), .int .u32 (t.nx : Nat), .slice da dn dk, .int .i64 (t.wnd : Nat), .bool t.en, .bool t.se, .int .u32 (t.inn.next : Nat), .slice ba bn bk, .slice pa pn pk, .bool t.ed, .int .u64 (t.tm : Nat), .int .i64 (t.rto : Nat), .int .i64 (t.tr : Nat), .int .i64 (t.er : Nat)]] w' fun e w2 => e = .returned (.bool true) ∧ New w' w2) (h3 : t.st = 3) (he : t.en = true) : Calls Try.prog 6 #[.agg #[.int .i64 (t.st : Nat), .int .i64 (t.lo : Nat), .int .u32 (t.ip : Nat), .int .i64 (t.po : Nat), .int .u32 (t.iss : Nat), .int .u32 (t.una : Nat), .int .u32 (t.nx : Nat), .slice da dn dk, .int .i64 (t.wnd : Nat), .bool t.en, .bool t.se, .int .u32 (t.inn.next : Nat), .slice ba bn bk, .slice pa pn pk, .bool t.ed, .int .u64 (t.tm : Nat), .int .i64 (t.rto : Nat), .int .i64 (t.tr : Nat), .int .i64 (t.er : Nat)], .slice xa xn xk, .int .u64 now] w (fun e w' => e = .returned (.bool true) ∧ New w w') := by
 have y3 : ((t.st : Int) != 3) = false := by rw [h3]; rfl
 have HF := Lib.hid hF
 have HC := Lib.hid hC
 clear hF hC
 have HE := Lib.hid he
 clear h3 he
 go_enter Try.func6, Try.ntmps6
 go_wp2_with (first
   | ((with_reducible refine gBx 31 3 ?_); refine nwB hv #[.int .i64 (t.st : Nat), .int .i64 (t.lo : Nat), .int .u32 (t.ip : Nat), .int .i64 (t.po : Nat), .int .u32 (t.iss : Nat), .int .u32 (t.una : Nat), .int .u32 (t.nx : Nat), .slice da dn dk, .int .i64 (t.wnd : Nat), .bool t.en, .bool t.se, .int .u32 (t.inn.next : Nat), .slice ba bn bk, .slice pa pn pk, .bool t.ed, .int .u64 (t.tm : Nat), .int .i64 (t.rto : Nat), .int .i64 (t.tr : Nat), .int .i64 (t.er : Nat)] 31 ?_; clear hv; intro b_3 w2 hv)
   | ((with_reducible refine gLd 31 ?_); refine ldV hv b_3 19 Try.underlying31 infoT19 ?_)
   | (go_at_call 21; (with_reducible refine (HF.out _ _ hv).mono ?_); rintro e w1 ⟨rfl, hn1⟩; replace hv := hv.new hn1; clear hn1)
   | (go_at_call 22; (with_reducible refine (HC.out _ _ hv).mono ?_); rintro e w1 ⟨rfl, hn1⟩; replace hv := hv.new hn1; clear hn1)
   | ((with_reducible refine gLd 3 ?_); refine ldC hv b_3 0 (.int .i64 (t.st : Nat)) Try.underlying3 ?_)
   | ((with_reducible refine at_load (T := 4) ?_); refine wl_ldc rfl b_3 9 rfl _ hv.vars.ro _ Try.underlying4 rfl (.bool true) (by show some (Value.bool t.en) = _; rw [HE.out]) ?_)
   | (go_at_call 9; (with_reducible refine (heads26 _).mono ?_); rintro e w1 ⟨rfl, hn1⟩; replace hv := hv.new hn1; clear hn1))
 go_ret
 exact ⟨rfl, hv.below⟩
theorem Waits_e (w : World) (R : List (Nat × Value × List Value)) (hv : Mem w w [] R) {t : T} {da ba pa : Option Addr} {dn dk bn bk pn pk : Nat} {xa : Option Addr} {xn xk now : Nat} (hF : ∀ w' L', Mem w w' L' R → Calls Try.prog 21 #[.agg #[.int .i64 (t.st : Nat), .int .i64 (t.lo : Nat), .int .u32 (t.ip : Nat), .int .i64 (t.po : Nat), .int .u32 (t.iss : Nat), .int .u32 (t.una : Nat), .int .u32 (t.nx : Nat), .slice da dn dk, .int .i64 (t.wnd : Nat), .bool t.en, .bool t.se, .int .u32 (t.inn.next : Nat), .slice ba bn bk, .slice pa pn pk, .bool t.ed, .int .u64 (t.tm : Nat), .int .i64 (t.rto : Nat), .int .i64 (t.tr : Nat), .int .i64 (t.er : Nat)]] w' fun e w2 => e = .returned (.bool true) ∧ New w' w2) (hC : ∀ w' L', Mem w w' L' R → Calls Try.prog 22 #[.agg #[.int .i64 (t.st : Nat), .int .i64 (t.lo : Nat), .int .u32 (t.ip : Nat), .int .i64 (t.po : Nat), .int .u32 (t.iss : Nat), .int .u32 (t.una : Nat), .int .u32 (t.nx : Nat), .slice da dn dk, .int .i64 (t.wnd : Nat), .bool t.en, .bool t.se, .int .u32 (t.inn.next : Nat), .slice ba bn bk, .slice pa pn pk, .bool t.ed, .int .u64 (t.tm : Nat), .int .i64 (t.rto : Nat), .int .i64 (t.tr : Nat), .int .i64 (t.er : Nat)]] w' fun e w2 => e = .returned (.bool true) ∧ New w' w2) (h3 : t.st = 3) (he : t.en = false) (hx : 600 < xn) : Calls Try.prog 6 #[.agg #[.int .i64 (t.st : Nat), .int .i64 (t.lo : Nat), .int .u32 (t.ip : Nat), .int .i64 (t.po : Nat), .int .u32 (t.iss : Nat), .int .u32 (t.una : Nat), .int .u32 (t.nx : Nat), .slice da dn dk, .int .i64 (t.wnd : Nat), .bool t.en, .bool t.se, .int .u32 (t.inn.next : Nat), .slice ba bn bk, .slice pa pn pk, .bool t.ed, .int .u64 (t.tm : Nat), .int .i64 (t.rto : Nat), .int .i64 (t.tr : Nat), .int .i64 (t.er : Nat)], .slice xa xn xk, .int .u64 now] w (fun e w' => e = .returned (.bool true) ∧ New w w') := by
 have y3 : ((t.st : Int) != 3) = false := by rw [h3]; rfl
 have y6 : decide ((600 : Int) < (xn : Int)) = true := decide_eq_true (by omega)
 have z6 : decide (600 < xn) = true := decide_eq_true hx
 have HF := Lib.hid hF
 have HC := Lib.hid hC
 clear hF hC
 have HE := Lib.hid he
 clear h3 hx he
 go_enter Try.func6, Try.ntmps6
 go_wp2_with (first
   | ((with_reducible refine gBx 31 3 ?_); refine nwB hv #[.int .i64 (t.st : Nat), .int .i64 (t.lo : Nat), .int .u32 (t.ip : Nat), .int .i64 (t.po : Nat), .int .u32 (t.iss : Nat), .int .u32 (t.una : Nat), .int .u32 (t.nx : Nat), .slice da dn dk, .int .i64 (t.wnd : Nat), .bool t.en, .bool t.se, .int .u32 (t.inn.next : Nat), .slice ba bn bk, .slice pa pn pk, .bool t.ed, .int .u64 (t.tm : Nat), .int .i64 (t.rto : Nat), .int .i64 (t.tr : Nat), .int .i64 (t.er : Nat)] 31 ?_; clear hv; intro b_3 w2 hv)
   | ((with_reducible refine gLd 31 ?_); refine ldV hv b_3 19 Try.underlying31 infoT19 ?_)
   | (go_at_call 21; (with_reducible refine (HF.out _ _ hv).mono ?_); rintro e w1 ⟨rfl, hn1⟩; replace hv := hv.new hn1; clear hn1)
   | (go_at_call 22; (with_reducible refine (HC.out _ _ hv).mono ?_); rintro e w1 ⟨rfl, hn1⟩; replace hv := hv.new hn1; clear hn1)
   | ((with_reducible refine gLd 3 ?_); refine ldC hv b_3 0 (.int .i64 (t.st : Nat)) Try.underlying3 ?_)
   | ((with_reducible refine at_load (T := 4) ?_); refine wl_ldc rfl b_3 9 rfl _ hv.vars.ro _ Try.underlying4 rfl (.bool false) (by show some (Value.bool t.en) = _; rw [HE.out]) ?_)
   | (go_at_call 9; (with_reducible refine (heads26 _).mono ?_); rintro e w1 ⟨rfl, hn1⟩; replace hv := hv.new hn1; clear hn1))
 go_ret
 exact ⟨rfl, hv.below⟩
theorem on_le {w : World} {oa : Option Addr} {on ok : Nat} {gs : List Gv} {out : List G} (h : Rd w 7 (.slice oa on ok) (cellsG gs)) (he : gs.map (·.1) = out) (hl : out.length ≤ 1) : decide ((on : Int) ≤ 1) = true ∧ decide (on ≤ 1) = true := by
 obtain ⟨_, _, _, e, h1, _⟩ := h
 cases e
 rw [cellsG_len] at h1
 have : gs.length = out.length := by rw [← he]; simp
 exact ⟨decide_eq_true (by omega), decide_eq_true (by omega)⟩
theorem dif_one {a : Nat} (h : a < 4294967296) : dif a a ≤ 1 ∧ dif (Tp.u32 (a + 1)) a ≤ 1 := by
 rw [dif_self]
 refine ⟨by decide, ?_⟩
 unfold dif Tp.u32
 split <;> omega
theorem Waits_f (w : World) (R : List (Nat × Value × List Value)) (hv : Mem w w [] R) {t : T} {da ba pa : Option Addr} {dn dk bn bk pn pk : Nat} {xa : Option Addr} {xn xk now : Nat} (hF : ∀ w' L', Mem w w' L' R → Calls Try.prog 21 #[.agg #[.int .i64 (t.st : Nat), .int .i64 (t.lo : Nat), .int .u32 (t.ip : Nat), .int .i64 (t.po : Nat), .int .u32 (t.iss : Nat), .int .u32 (t.una : Nat), .int .u32 (t.nx : Nat), .slice da dn dk, .int .i64 (t.wnd : Nat), .bool t.en, .bool t.se, .int .u32 (t.inn.next : Nat), .slice ba bn bk, .slice pa pn pk, .bool t.ed, .int .u64 (t.tm : Nat), .int .i64 (t.rto : Nat), .int .i64 (t.tr : Nat), .int .i64 (t.er : Nat)]] w' fun e w2 => e = .returned (.bool true) ∧ New w' w2) (hC : ∀ w' L', Mem w w' L' R → Calls Try.prog 22 #[.agg #[.int .i64 (t.st : Nat), .int .i64 (t.lo : Nat), .int .u32 (t.ip : Nat), .int .i64 (t.po : Nat), .int .u32 (t.iss : Nat), .int .u32 (t.una : Nat), .int .u32 (t.nx : Nat), .slice da dn dk, .int .i64 (t.wnd : Nat), .bool t.en, .bool t.se, .int .u32 (t.inn.next : Nat), .slice ba bn bk, .slice pa pn pk, .bool t.ed, .int .u64 (t.tm : Nat), .int .i64 (t.rto : Nat), .int .i64 (t.tr : Nat), .int .i64 (t.er : Nat)]] w' fun e w2 => e = .returned (.bool true) ∧ New w' w2) {l : List PcV} (hI : InC R t da dn dk ba bn bk pa pn pk l) (hck : chkT t = true) {b : List Nat} (hb : (1, .slice xa xn xk, cellsB b) ∈ R) (h3 : t.st = 3) (he : t.en = false) (hx : ¬ 600 < xn) : Calls Try.prog 6 #[.agg #[.int .i64 (t.st : Nat), .int .i64 (t.lo : Nat), .int .u32 (t.ip : Nat), .int .i64 (t.po : Nat), .int .u32 (t.iss : Nat), .int .u32 (t.una : Nat), .int .u32 (t.nx : Nat), .slice da dn dk, .int .i64 (t.wnd : Nat), .bool t.en, .bool t.se, .int .u32 (t.inn.next : Nat), .slice ba bn bk, .slice pa pn pk, .bool t.ed, .int .u64 (t.tm : Nat), .int .i64 (t.rto : Nat), .int .i64 (t.tr : Nat), .int .i64 (t.er : Nat)], .slice xa xn xk, .int .u64 now] w (fun e w' => e = .returned (.bool true) ∧ New w w') := by
 have y3 : ((t.st : Int) != 3) = false := by rw [h3]; rfl
 have y6 : decide ((600 : Int) < (xn : Int)) = false := decide_eq_false (by omega)
 have z6 : decide (600 < xn) = false := decide_eq_false hx
 have hf := chkT_facts hck
 have hdn : t.data.length = dn := len_rd1 (hv.rd hI.d)
 have hxn : b.length = xn := len_rd1 (hv.rd hb)
 have hdl := hf.2.2.2.2.2.1
 obtain ⟨c, hc⟩ : ∃ c, write b now t = c := ⟨_, rfl⟩
 obtain ⟨w1, w2, w3, w4, w5, w6, w7⟩ := write_waits hck h3 he b now
 have wk := (write_kept hck (.inl h3) b now).chk
 rw [hc] at w1 w2 w3 w4 w5 w6 w7 wk
 obtain ⟨d, hd⟩ : ∃ d, tick c.t.tm ⟨c.t, []⟩ = d := ⟨_, rfl⟩
 obtain ⟨k1, k2⟩ := tick_waits c.t c.t.tm w5 w7 w2
 rw [hd] at k1 k2
 obtain ⟨m, hm⟩ : ∃ m : Nat, 256 - dn = m := ⟨_, rfl⟩
 obtain ⟨n, hn⟩ : ∃ n : Nat, min b.length (256 - t.data.length) = n := ⟨_, rfl⟩
 have q1 : IntKind.i64.wrap (256 - (dn : Int)) = (m : Int) := by rw [IntWalk.i64_in _ (by omega)]; omega
 have q2 : min (xn : Int) (m : Int) = (n : Int) := by omega
 have q3 : min xn m = n := by omega
 have HI := Lib.hid hI
 have HCK := Lib.hid hck
 have HB := Lib.hid hb
 have HBL : Hid (b.length ≤ 1000) := Lib.hid (by omega)
 have HS := Lib.hid h3
 have HN := Lib.hid hn
 have HWE := Lib.hid hc
 have HTE := Lib.hid hd
 have HCU := Lib.hid wk
 have HTL := Lib.hid k1
 have y7 : decide (max (dif t.nx t.una) (t.wnd : Int) < dif c.t.nx c.t.una) = false := decide_eq_false (by unfold flight at w1; omega)
 have y8 : ((c.t.una : Int) != (t.una : Int)) = false := by rw [w3]; simp
 have y9 : ((n : Int) != (n : Int)) = false := by simp
 have HDD : Hid (d.t.nx = c.t.nx ∨ d.t.nx = Tp.u32 (c.t.nx + 1)) := Lib.hid k2
 have HOT := Lib.hid w4
 have HE := Lib.hid he
 have HF := Lib.hid hF
 have HC := Lib.hid hC
 clear hF hC
 clear he hI hck hb h3 hf hdn hxn hdl hc w1 w2 w3 w4 w5 w6 w7 wk hd k1 k2 hm hn hx
 go_enter Try.func6, Try.ntmps6
 try simp only [List.append_eq, List.cons_append, List.nil_append]
 go_wp2_with (first
   | ((with_reducible refine gBx 31 3 ?_); refine nwB hv #[.int .i64 (t.st : Nat), .int .i64 (t.lo : Nat), .int .u32 (t.ip : Nat), .int .i64 (t.po : Nat), .int .u32 (t.iss : Nat), .int .u32 (t.una : Nat), .int .u32 (t.nx : Nat), .slice da dn dk, .int .i64 (t.wnd : Nat), .bool t.en, .bool t.se, .int .u32 (t.inn.next : Nat), .slice ba bn bk, .slice pa pn pk, .bool t.ed, .int .u64 (t.tm : Nat), .int .i64 (t.rto : Nat), .int .i64 (t.tr : Nat), .int .i64 (t.er : Nat)] 31 ?_; clear hv; intro b_3 w2 hv)
   | ((with_reducible refine gLd 31 ?_); refine ldV hv b_3 19 Try.underlying31 infoT19 ?_)
   | (go_at_call 21; (with_reducible refine (HF.out _ _ hv).mono ?_); rintro e w1 ⟨rfl, hn1⟩; replace hv := hv.new hn1; clear hn1)
   | (go_at_call 22; (with_reducible refine (HC.out _ _ hv).mono ?_); rintro e w1 ⟨rfl, hn1⟩; replace hv := hv.new hn1; clear hn1)
   | ((with_reducible refine gLd 3 ?_); refine ldC hv b_3 0 (.int .i64 (t.st : Nat)) Try.underlying3 ?_)
   | ((with_reducible refine at_load (T := 4) ?_); refine wl_ldc rfl b_3 9 rfl _ hv.vars.ro _ Try.underlying4 rfl (.bool false) (by show some (Value.bool t.en) = _; rw [HE.out]) ?_)
   | ((with_reducible refine gLd 22 ?_); refine ldC hv b_3 6 (.int .u32 (t.nx : Nat)) Try.underlying22 ?_)
   | ((with_reducible refine gLd 22 ?_); refine ldC hv b_3 5 (.int .u32 (t.una : Nat)) Try.underlying22 ?_)
   | (go_at_call 23; (with_reducible refine (RDiff_any _ _ HI.out.u.nx HI.out.u.una _).mono ?_); rintro e w1 ⟨rfl, rfl⟩)
   | (go_at_call 11; (refine (Write_E hv HI.out HCK.out (nw := now) HB.out HBL.out (.inl HS.out) (n := n) HN.out).mono ?_); rintro e w1 ⟨vt, ov, rfl, hr1⟩; rw [HWE.out] at hr1; obtain ⟨R1, da1, dn1, dk1, ba1, bn1, bk1, pa1, pn1, pk1, l1, oa1, on1, ok1, gs1, rfl, rfl, hm1, hs1, hq1, hI1, hA1, hE1, hk1, hl1⟩ := hr1; clear hv; have hv := hm1; clear hm1; have HQ1 := Lib.hid hq1; have HI1 := Lib.hid hI1; have HA1 := Lib.hid hA1; have HGE1 := Lib.hid hE1; have HL1 := Lib.hid hl1; clear hs1 hq1 hI1 hA1 hE1 hk1 hl1)
   | ((with_reducible refine gAl 31 8 ?_); refine nwB hv #[.int .i64 0, .int .i64 0, .int .u32 0, .int .i64 0, .int .u32 0, .int .u32 0, .int .u32 0, .slice none 0 0, .int .i64 0, .bool false, .bool false, .int .u32 0, .slice none 0 0, .slice none 0 0, .bool false, .int .u64 0, .int .i64 0, .int .i64 0, .int .i64 0] 31 ?_; clear hv; intro b_8 w2 hv)
   | ((with_reducible refine gSt 31 ?_); refine stV hv b_8 19 infoT19 ?_ (h1 := (rowT_one _ _ _ _ _ _ _ _ _ _)); clear hv; intro w2 hv)
   | ((with_reducible refine gLd 22 ?_); refine ldC hv b_8 6 (.int .u32 (c.t.nx : Nat)) Try.underlying22 ?_)
   | ((with_reducible refine gLd 22 ?_); refine ldC hv b_8 5 (.int .u32 (c.t.una : Nat)) Try.underlying22 ?_)
   | (go_at_call 23; (with_reducible refine (RDiff_any _ _ HI1.out.u.nx HI1.out.u.una _).mono ?_); rintro e w1 ⟨rfl, rfl⟩)
   | ((with_reducible refine gLd 23 ?_); refine ldC hv b_3 7 (.slice da dn dk) Try.underlying23 ?_)
   | ((with_reducible refine gLd 3 ?_); refine ldC hv b_3 8 (.int .i64 (t.wnd : Nat)) Try.underlying3 ?_))
 go_loopw [13] (fun iv wr => ∃ i : Nat, i ≤ on1 ∧ iv = .int .i64 i ∧ Mem w wr [(b_8, (rowT c.t (.slice da1 dn1 dk1) (.slice ba1 bn1 bk1) (.slice pa1 pn1 pk1))), (b_3, #[.int .i64 (t.st : Nat), .int .i64 (t.lo : Nat), .int .u32 (t.ip : Nat), .int .i64 (t.po : Nat), .int .u32 (t.iss : Nat), .int .u32 (t.una : Nat), .int .u32 (t.nx : Nat), .slice da dn dk, .int .i64 (t.wnd : Nat), .bool t.en, .bool t.se, .int .u32 (t.inn.next : Nat), .slice ba bn bk, .slice pa pn pk, .bool t.ed, .int .u64 (t.tm : Nat), .int .i64 (t.rto : Nat), .int .i64 (t.tr : Nat), .int .i64 (t.er : Nat)])] R1) (fun iv _ => on1 - (intOf iv).toNat)
 case atStart => exact ⟨0, Nat.zero_le _, rfl, hv⟩
 case round =>
   clear hv
   obtain ⟨i, hi0, rfl, hv⟩ := hrel
   have hgl : gs1.length = on1 := by
     obtain ⟨_, _, _, e, g, _⟩ := hv.rd HQ1.out
     cases e; rw [cellsG_len] at g; omega
   have hm9 : on1 ≤ 300 := by have := HL1.out; omega
   by_cases hi : i < on1
   · have y1 : decide ((i : Int) < (on1 : Int)) = true := decide_eq_true (by omega)
     have z1 : decide (i < on1) = true := decide_eq_true hi
     have q4 : IntKind.i64.wrap ((i : Int) + 1) = (i : Int) + 1 := IntWalk.i64_in _ (by omega)
     have hil : i < gs1.length := by omega
     obtain ⟨x, hx⟩ : ∃ x, gs1[i] = x := ⟨_, rfl⟩
     have hxm : x ∈ gs1 := by rw [← hx]; exact List.getElem_mem _
     obtain ⟨x1, x2⟩ := x
     obtain ⟨sa, sn, sk, rfl, hsn, _⟩ := hv.rd (HA1.out _ hxm)
     have hsl : x1.data.length = sn := by simpa [cellsB] using hsn
     have hot := HOT.out x1 (by rw [← HGE1.out]; exact List.mem_map.2 ⟨_, hxm, rfl⟩)
     have y2 : ((sn : Int) == 0) = false := by rw [beq_eq_false_iff_ne]; omega
     have y2' : decide ((sn : Int) = 0) = false := decide_eq_false (by omega)
     have y2'' : decide (sn = 0) = false := decide_eq_false (by omega)
     have y4 : decide ((64 : Int) < (sn : Int)) = false := decide_eq_false (by omega)
     have z4 : decide (64 < sn) = false := decide_eq_false (by omega)
     have HX : Hid ((cellsG gs1)[i * 7 + 6]? = some (.slice sa sn sk)) := Lib.hid (by
       have h := congrArg (·[6]?) (cellsG_part gs1 i hil)
       simp only [List.getElem?_take, List.getElem?_drop, hx] at h
       simpa [Tp.encG] using h)
     obtain ⟨ob, oo, _, _, e, _⟩ := (hv.rd HQ1.out).some (by rw [cellsG_len]; omega)
     cases e
     have HIN := Lib.hid hi
     clear hgl hil hx hxm hsl hot hsn hi0 hi
     go_wp2_with (first
       | ((with_reducible refine at_load (T := 23) ?_); refine wl_rd rfl (c := cellsG gs1) (hv.rd HQ1.out) (i * 7 + 6) rfl _ Try.underlying23 rfl (.slice sa sn sk) HX.out ?_))
     have hin := HIN.out
     go_roundw
     case rel => exact ⟨i + 1, by omega, by go_num, hv⟩
     case measure => simp [intOf]; omega
   · have y1 : decide ((i : Int) < (on1 : Int)) = false := decide_eq_false (by omega)
     have z1 : decide (i < on1) = false := decide_eq_false hi
     obtain ⟨e0, e1⟩ := dif_one HI1.out.u.nx
     have HDF : ∀ z : Nat, (z = c.t.nx ∨ z = Tp.u32 (c.t.nx + 1)) → decide (dif z c.t.nx ≤ 1) = true := fun z hz => decide_eq_true (by rcases hz with rfl | rfl <;> assumption)
     have y5 : decide (dif d.t.nx c.t.nx ≤ 1) = true := HDF _ HDD.out
     clear hi hi0 hgl hm9 e0 e1 HDF
     go_wp2_with (first
       | ((with_reducible refine gLd 31 ?_); refine ldV hv b_8 19 Try.underlying31 infoT19 ?_)
       | ((with_reducible refine gLd 28 ?_); refine ldC hv b_8 15 (.int .u64 (c.t.tm : Nat)) Try.underlying28 ?_)
       | (go_at_call 19; (refine (Tick_E hv HI1.out HCU.out (nw := c.t.tm)).mono ?_); rintro e w1 ⟨vt, ov, rfl, hr1⟩; rw [HTE.out] at hr1; obtain ⟨R2, da2, dn2, dk2, ba2, bn2, bk2, pa2, pn2, pk2, l2, oa2, on2, ok2, gs2, rfl, rfl, hm1, hs1, hq1, hI1, hA1, hE1, hk1, hl1⟩ := hr1; clear hv; have hv := hm1; clear hm1; have HQ2 := Lib.hid hq1; have HI2 := Lib.hid hI1; have HA2 := Lib.hid hA1; have HGE2 := Lib.hid hE1; have HL2 := Lib.hid hl1; clear hs1 hq1 hI1 hA1 hE1 hk1 hl1; obtain ⟨zle, zle2⟩ : decide ((on2 : Int) ≤ 1) = true ∧ decide (on2 ≤ 1) = true := (on_le (hv.rd HQ2.out) HGE2.out HTL.out))
       | ((with_reducible refine gAl 31 14 ?_); refine nwB hv #[.int .i64 0, .int .i64 0, .int .u32 0, .int .i64 0, .int .u32 0, .int .u32 0, .int .u32 0, .slice none 0 0, .int .i64 0, .bool false, .bool false, .int .u32 0, .slice none 0 0, .slice none 0 0, .bool false, .int .u64 0, .int .i64 0, .int .i64 0, .int .i64 0] 31 ?_; clear hv; intro b_14 w2 hv)
       | ((with_reducible refine gSt 31 ?_); refine stV hv b_14 19 infoT19 ?_ (h1 := (rowT_one _ _ _ _ _ _ _ _ _ _)); clear hv; intro w2 hv)
       | ((with_reducible refine gLd 22 ?_); refine ldC hv b_14 6 (.int .u32 (d.t.nx : Nat)) Try.underlying22 ?_)
       | ((with_reducible refine gLd 22 ?_); refine ldC hv b_8 6 (.int .u32 (c.t.nx : Nat)) Try.underlying22 ?_)
       | (go_at_call 23; (with_reducible refine (RDiff_any _ _ HI2.out.u.nx HI1.out.u.nx _).mono ?_); rintro e w1 ⟨rfl, rfl⟩)
       | (go_at_call 9; (with_reducible refine (heads26 _).mono ?_); rintro e w1 ⟨rfl, hn1⟩; replace hv := hv.new hn1; clear hn1))
     go_ret
     exact ⟨rfl, hv.below⟩
theorem TcpWaits_any {W : World} {v : Value} {st lo po wnd rto tr er : Int} {ip iss una nx inx tm : Nat} {en se ed : Bool} {dv bv pv : Value} {D bs : List Nat} {l : List PcV} (hT : RdTc W v st lo po wnd rto tr er ip iss una nx inx tm en se ed dv bv pv D bs l) {xv : Value} {b : List Nat} (hb : Rd W 1 xv (cellsB b)) (now : Nat) : Calls Try.prog 6 #[v, xv, .int .u64 now] W (fun e w' => e = .returned (.bool true) ∧ New W w') := by
 obtain ⟨xa, xn, xk, rfl, _⟩ := id hb
 obtain ⟨da, ba, pa, dn, dk, bn, bk, pn, pk, R, rfl, hv, hX, f, hF, h1⟩ := tcb_in hT [(1, .slice xa xn xk, cellsB b)] (fun x hx => by rw [List.mem_singleton.1 hx]; exact hb)
 have hbm := hX _ (List.mem_singleton_self _)
 cases f with
 | false => exact Waits_a W R hv (xa := xa) (xn := xn) (xk := xk) (now := now) hF
 | true =>
   obtain ⟨c, hC, h2⟩ := h1 rfl
   cases c with
   | false => exact Waits_b W R hv (xa := xa) (xn := xn) (xk := xk) (now := now) hF hC
   | true =>
     obtain ⟨t, hck, hI, rfl, rfl, rfl, rfl, rfl, rfl, rfl, rfl, rfl, rfl, rfl, rfl, rfl, rfl, rfl, rfl, rfl⟩ := h2 rfl
     by_cases h3 : t.st = 3
     · rcases Bool.eq_false_or_eq_true t.en with he | he
       · exact Waits_d W R hv (t := t) (xa := xa) (xn := xn) (xk := xk) (now := now) hF hC h3 he
       · by_cases hx : 600 < xn
         · exact Waits_e W R hv (t := t) (xa := xa) (xn := xn) (xk := xk) (now := now) hF hC h3 he hx
         · exact Waits_f W R hv (t := t) (xa := xa) (xn := xn) (xk := xk) (now := now) hF hC hI hck hbm h3 he hx
     · exact Waits_c W R hv (t := t) (xa := xa) (xn := xn) (xk := xk) (now := now) hF hC h3
end Go.Proofs.Ythenepdbgeafkaa
