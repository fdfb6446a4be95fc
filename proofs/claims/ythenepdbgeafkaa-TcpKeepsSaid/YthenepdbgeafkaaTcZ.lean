/-
 TcpKeeps: whatever comes a connection stays one that may be.
-/
import Derived.Test.YthenepdbgeafkaaGAZ
import Derived.Test.YthenepdbgeafkaaTcOp
import Derived.Test.YthenepdbgeafkaaGAI
set_option maxRecDepth 100000
set_option maxHeartbeats 8000000
set_option linter.unusedVariables false
set_option linter.unusedSimpArgs false
namespace Go.Proofs.Ythenepdbgeafkaa
open Go.Proofs.Wi Go.RowKit Go.Proofs Go.Proofs.Tp
variable {w0 w : World} {R : LR} {t : T} {da ba pa : Option Addr} {dn dk bn bk pn pk : Nat}
theorem cellsG_one {L : LV} {l : List Gv} (h : AllG R l) (hv : Mem w0 w L R) : ∀ x ∈ cellsG l, x.oneCell' = true := by
 intro x hx
 obtain ⟨g, hg, hx⟩ := List.mem_flatMap.1 hx
 obtain ⟨_, _, _, e, _⟩ := hv.rd (h g hg)
 simp only [Tp.encG, List.mem_cons, List.not_mem_nil, or_false] at hx
 rcases hx with rfl | rfl | rfl | rfl | rfl | rfl | rfl <;> first | rfl | (rw [e]; rfl)
theorem Keeps_a (w : World) (R : LR) (hv : Mem w w [] R) {st lo po wnd rto tr er : Int} {ip iss una nx inx tm : Nat} {en se ed : Bool} {src dst fl swn n : Int} {seq ack now : Nat} {sa xa : Option Addr} {sn sk xn xk : Nat} (hF : ∀ w' L', Mem w w' L' R → Calls Try.prog 21 #[.agg #[.int .i64 st, .int .i64 lo, .int .u32 ip, .int .i64 po, .int .u32 iss, .int .u32 una, .int .u32 nx, .slice da dn dk, .int .i64 wnd, .bool en, .bool se, .int .u32 inx, .slice ba bn bk, .slice pa pn pk, .bool ed, .int .u64 tm, .int .i64 rto, .int .i64 tr, .int .i64 er]] w' fun e w2 => e = .returned (.bool false) ∧ New w' w2) : Calls Try.prog 7 #[.agg #[.int .i64 st, .int .i64 lo, .int .u32 ip, .int .i64 po, .int .u32 iss, .int .u32 una, .int .u32 nx, .slice da dn dk, .int .i64 wnd, .bool en, .bool se, .int .u32 inx, .slice ba bn bk, .slice pa pn pk, .bool ed, .int .u64 tm, .int .i64 rto, .int .i64 tr, .int .i64 er], .agg #[.int .i64 src, .int .i64 dst, .int .u32 seq, .int .u32 ack, .int .i64 fl, .int .i64 swn, .slice sa sn sk], .slice xa xn xk, .int .i64 n, .int .u64 now] w (fun e w' => e = .returned (.bool true) ∧ New w w') := by
 have HF := Lib.hid hF
 clear hF
 go_enter Try.func7, Try.ntmps7
 go_wp2_with (first
   | ((with_reducible refine gBx 31 5 ?_); refine nwB hv #[.int .i64 st, .int .i64 lo, .int .u32 ip, .int .i64 po, .int .u32 iss, .int .u32 una, .int .u32 nx, .slice da dn dk, .int .i64 wnd, .bool en, .bool se, .int .u32 inx, .slice ba bn bk, .slice pa pn pk, .bool ed, .int .u64 tm, .int .i64 rto, .int .i64 tr, .int .i64 er] 31 ?_; clear hv; intro b_5 w2 hv)
   | ((with_reducible refine gBx 42 6 ?_); refine nwB hv #[.int .i64 src, .int .i64 dst, .int .u32 seq, .int .u32 ack, .int .i64 fl, .int .i64 swn, .slice sa sn sk] 42 ?_; clear hv; intro b_6 w2 hv)
   | ((with_reducible refine gLd 31 ?_); refine ldV hv b_5 19 Try.underlying31 infoT19 ?_)
   | (go_at_call 21; (with_reducible refine (HF.out _ _ hv).mono ?_); rintro e w1 ⟨rfl, hn1⟩; replace hv := hv.new hn1; clear hn1)
   | (go_at_call 9; (with_reducible refine (heads26 _).mono ?_); rintro e w1 ⟨rfl, hn1⟩; replace hv := hv.new hn1; clear hn1))
 go_ret
 exact ⟨rfl, hv.below⟩
theorem Keeps_b (w : World) (R : LR) (hv : Mem w w [] R) {st lo po wnd rto tr er : Int} {ip iss una nx inx tm : Nat} {en se ed : Bool} {src dst fl swn n : Int} {seq ack now : Nat} {sa xa : Option Addr} {sn sk xn xk : Nat} (hF : ∀ w' L', Mem w w' L' R → Calls Try.prog 21 #[.agg #[.int .i64 st, .int .i64 lo, .int .u32 ip, .int .i64 po, .int .u32 iss, .int .u32 una, .int .u32 nx, .slice da dn dk, .int .i64 wnd, .bool en, .bool se, .int .u32 inx, .slice ba bn bk, .slice pa pn pk, .bool ed, .int .u64 tm, .int .i64 rto, .int .i64 tr, .int .i64 er]] w' fun e w2 => e = .returned (.bool true) ∧ New w' w2) (hC : ∀ w' L', Mem w w' L' R → Calls Try.prog 22 #[.agg #[.int .i64 st, .int .i64 lo, .int .u32 ip, .int .i64 po, .int .u32 iss, .int .u32 una, .int .u32 nx, .slice da dn dk, .int .i64 wnd, .bool en, .bool se, .int .u32 inx, .slice ba bn bk, .slice pa pn pk, .bool ed, .int .u64 tm, .int .i64 rto, .int .i64 tr, .int .i64 er]] w' fun e w2 => e = .returned (.bool false) ∧ New w' w2) : Calls Try.prog 7 #[.agg #[.int .i64 st, .int .i64 lo, .int .u32 ip, .int .i64 po, .int .u32 iss, .int .u32 una, .int .u32 nx, .slice da dn dk, .int .i64 wnd, .bool en, .bool se, .int .u32 inx, .slice ba bn bk, .slice pa pn pk, .bool ed, .int .u64 tm, .int .i64 rto, .int .i64 tr, .int .i64 er], .agg #[.int .i64 src, .int .i64 dst, .int .u32 seq, .int .u32 ack, .int .i64 fl, .int .i64 swn, .slice sa sn sk], .slice xa xn xk, .int .i64 n, .int .u64 now] w (fun e w' => e = .returned (.bool true) ∧ New w w') := by
 have HF := Lib.hid hF
 have HC := Lib.hid hC
 clear hF hC
 go_enter Try.func7, Try.ntmps7
 go_wp2_with (first
   | ((with_reducible refine gBx 31 5 ?_); refine nwB hv #[.int .i64 st, .int .i64 lo, .int .u32 ip, .int .i64 po, .int .u32 iss, .int .u32 una, .int .u32 nx, .slice da dn dk, .int .i64 wnd, .bool en, .bool se, .int .u32 inx, .slice ba bn bk, .slice pa pn pk, .bool ed, .int .u64 tm, .int .i64 rto, .int .i64 tr, .int .i64 er] 31 ?_; clear hv; intro b_5 w2 hv)
   | ((with_reducible refine gBx 42 6 ?_); refine nwB hv #[.int .i64 src, .int .i64 dst, .int .u32 seq, .int .u32 ack, .int .i64 fl, .int .i64 swn, .slice sa sn sk] 42 ?_; clear hv; intro b_6 w2 hv)
   | ((with_reducible refine gLd 31 ?_); refine ldV hv b_5 19 Try.underlying31 infoT19 ?_)
   | (go_at_call 21; (with_reducible refine (HF.out _ _ hv).mono ?_); rintro e w1 ⟨rfl, hn1⟩; replace hv := hv.new hn1; clear hn1)
   | (go_at_call 22; (with_reducible refine (HC.out _ _ hv).mono ?_); rintro e w1 ⟨rfl, hn1⟩; replace hv := hv.new hn1; clear hn1)
   | (go_at_call 9; (with_reducible refine (heads26 _).mono ?_); rintro e w1 ⟨rfl, hn1⟩; replace hv := hv.new hn1; clear hn1))
 go_ret
 exact ⟨rfl, hv.below⟩
theorem Keeps_c (w : World) (R : LR) (hv : Mem w w [] R) {src dst fl swn n : Int} {seq ack now : Nat} {sa xa : Option Addr} {sn sk xn xk : Nat} (hF : ∀ w' L', Mem w w' L' R → Calls Try.prog 21 #[.agg #[.int .i64 t.st, .int .i64 t.lo, .int .u32 t.ip, .int .i64 t.po, .int .u32 t.iss, .int .u32 t.una, .int .u32 t.nx, .slice da dn dk, .int .i64 t.wnd, .bool t.en, .bool t.se, .int .u32 t.inn.next, .slice ba bn bk, .slice pa pn pk, .bool t.ed, .int .u64 t.tm, .int .i64 t.rto, .int .i64 t.tr, .int .i64 t.er]] w' fun e w2 => e = .returned (.bool true) ∧ New w' w2) (hC : ∀ w' L', Mem w w' L' R → Calls Try.prog 22 #[.agg #[.int .i64 t.st, .int .i64 t.lo, .int .u32 t.ip, .int .i64 t.po, .int .u32 t.iss, .int .u32 t.una, .int .u32 t.nx, .slice da dn dk, .int .i64 t.wnd, .bool t.en, .bool t.se, .int .u32 t.inn.next, .slice ba bn bk, .slice pa pn pk, .bool t.ed, .int .u64 t.tm, .int .i64 t.rto, .int .i64 t.tr, .int .i64 t.er]] w' fun e w2 => e = .returned (.bool true) ∧ New w' w2) (h3 : 300 < sn) : Calls Try.prog 7 #[.agg #[.int .i64 t.st, .int .i64 t.lo, .int .u32 t.ip, .int .i64 t.po, .int .u32 t.iss, .int .u32 t.una, .int .u32 t.nx, .slice da dn dk, .int .i64 t.wnd, .bool t.en, .bool t.se, .int .u32 t.inn.next, .slice ba bn bk, .slice pa pn pk, .bool t.ed, .int .u64 t.tm, .int .i64 t.rto, .int .i64 t.tr, .int .i64 t.er], .agg #[.int .i64 src, .int .i64 dst, .int .u32 seq, .int .u32 ack, .int .i64 fl, .int .i64 swn, .slice sa sn sk], .slice xa xn xk, .int .i64 n, .int .u64 now] w (fun e w' => e = .returned (.bool true) ∧ New w w') := by
 have y3 : decide ((300 : Int) < (sn : Int)) = true := decide_eq_true (by omega)
 have z3 : decide (300 < sn) = true := decide_eq_true h3
 have HF := Lib.hid hF
 have HC := Lib.hid hC
 clear hF hC
 clear h3
 go_enter Try.func7, Try.ntmps7
 go_wp2_with (first
   | ((with_reducible refine gBx 31 5 ?_); refine nwB hv #[.int .i64 t.st, .int .i64 t.lo, .int .u32 t.ip, .int .i64 t.po, .int .u32 t.iss, .int .u32 t.una, .int .u32 t.nx, .slice da dn dk, .int .i64 t.wnd, .bool t.en, .bool t.se, .int .u32 t.inn.next, .slice ba bn bk, .slice pa pn pk, .bool t.ed, .int .u64 t.tm, .int .i64 t.rto, .int .i64 t.tr, .int .i64 t.er] 31 ?_; clear hv; intro b_5 w2 hv)
   | ((with_reducible refine gBx 42 6 ?_); refine nwB hv #[.int .i64 src, .int .i64 dst, .int .u32 seq, .int .u32 ack, .int .i64 fl, .int .i64 swn, .slice sa sn sk] 42 ?_; clear hv; intro b_6 w2 hv)
   | ((with_reducible refine gLd 31 ?_); refine ldV hv b_5 19 Try.underlying31 infoT19 ?_)
   | (go_at_call 21; (with_reducible refine (HF.out _ _ hv).mono ?_); rintro e w1 ⟨rfl, hn1⟩; replace hv := hv.new hn1; clear hn1)
   | (go_at_call 22; (with_reducible refine (HC.out _ _ hv).mono ?_); rintro e w1 ⟨rfl, hn1⟩; replace hv := hv.new hn1; clear hn1)
   | ((with_reducible refine gLd 23 ?_); refine ldC hv b_6 6 (.slice sa sn sk) Try.underlying23 ?_)
   | (go_at_call 9; (with_reducible refine (heads26 _).mono ?_); rintro e w1 ⟨rfl, hn1⟩; replace hv := hv.new hn1; clear hn1))
 go_ret
 exact ⟨rfl, hv.below⟩
theorem Keeps_d (w : World) (R : LR) (hv : Mem w w [] R) {src dst fl swn n : Int} {seq ack now : Nat} {sa xa : Option Addr} {sn sk xn xk : Nat} (hF : ∀ w' L', Mem w w' L' R → Calls Try.prog 21 #[.agg #[.int .i64 t.st, .int .i64 t.lo, .int .u32 t.ip, .int .i64 t.po, .int .u32 t.iss, .int .u32 t.una, .int .u32 t.nx, .slice da dn dk, .int .i64 t.wnd, .bool t.en, .bool t.se, .int .u32 t.inn.next, .slice ba bn bk, .slice pa pn pk, .bool t.ed, .int .u64 t.tm, .int .i64 t.rto, .int .i64 t.tr, .int .i64 t.er]] w' fun e w2 => e = .returned (.bool true) ∧ New w' w2) (hC : ∀ w' L', Mem w w' L' R → Calls Try.prog 22 #[.agg #[.int .i64 t.st, .int .i64 t.lo, .int .u32 t.ip, .int .i64 t.po, .int .u32 t.iss, .int .u32 t.una, .int .u32 t.nx, .slice da dn dk, .int .i64 t.wnd, .bool t.en, .bool t.se, .int .u32 t.inn.next, .slice ba bn bk, .slice pa pn pk, .bool t.ed, .int .u64 t.tm, .int .i64 t.rto, .int .i64 t.tr, .int .i64 t.er]] w' fun e w2 => e = .returned (.bool true) ∧ New w' w2) (h3 : ¬ 300 < sn) (hx : 600 < xn) : Calls Try.prog 7 #[.agg #[.int .i64 t.st, .int .i64 t.lo, .int .u32 t.ip, .int .i64 t.po, .int .u32 t.iss, .int .u32 t.una, .int .u32 t.nx, .slice da dn dk, .int .i64 t.wnd, .bool t.en, .bool t.se, .int .u32 t.inn.next, .slice ba bn bk, .slice pa pn pk, .bool t.ed, .int .u64 t.tm, .int .i64 t.rto, .int .i64 t.tr, .int .i64 t.er], .agg #[.int .i64 src, .int .i64 dst, .int .u32 seq, .int .u32 ack, .int .i64 fl, .int .i64 swn, .slice sa sn sk], .slice xa xn xk, .int .i64 n, .int .u64 now] w (fun e w' => e = .returned (.bool true) ∧ New w w') := by
 have y3 : decide ((300 : Int) < (sn : Int)) = false := decide_eq_false (by omega)
 have z3 : decide (300 < sn) = false := decide_eq_false h3
 have y6 : decide ((600 : Int) < (xn : Int)) = true := decide_eq_true (by omega)
 have z6 : decide (600 < xn) = true := decide_eq_true hx
 have HF := Lib.hid hF
 have HC := Lib.hid hC
 clear hF hC
 clear h3 hx
 go_enter Try.func7, Try.ntmps7
 go_wp2_with (first
   | ((with_reducible refine gBx 31 5 ?_); refine nwB hv #[.int .i64 t.st, .int .i64 t.lo, .int .u32 t.ip, .int .i64 t.po, .int .u32 t.iss, .int .u32 t.una, .int .u32 t.nx, .slice da dn dk, .int .i64 t.wnd, .bool t.en, .bool t.se, .int .u32 t.inn.next, .slice ba bn bk, .slice pa pn pk, .bool t.ed, .int .u64 t.tm, .int .i64 t.rto, .int .i64 t.tr, .int .i64 t.er] 31 ?_; clear hv; intro b_5 w2 hv)
   | ((with_reducible refine gBx 42 6 ?_); refine nwB hv #[.int .i64 src, .int .i64 dst, .int .u32 seq, .int .u32 ack, .int .i64 fl, .int .i64 swn, .slice sa sn sk] 42 ?_; clear hv; intro b_6 w2 hv)
   | ((with_reducible refine gLd 31 ?_); refine ldV hv b_5 19 Try.underlying31 infoT19 ?_)
   | (go_at_call 21; (with_reducible refine (HF.out _ _ hv).mono ?_); rintro e w1 ⟨rfl, hn1⟩; replace hv := hv.new hn1; clear hn1)
   | (go_at_call 22; (with_reducible refine (HC.out _ _ hv).mono ?_); rintro e w1 ⟨rfl, hn1⟩; replace hv := hv.new hn1; clear hn1)
   | ((with_reducible refine gLd 23 ?_); refine ldC hv b_6 6 (.slice sa sn sk) Try.underlying23 ?_)
   | (go_at_call 9; (with_reducible refine (heads26 _).mono ?_); rintro e w1 ⟨rfl, hn1⟩; replace hv := hv.new hn1; clear hn1))
 go_ret
 exact ⟨rfl, hv.below⟩
theorem mem_a0 {A O : LV} (h : Mem w0 w (A ++ O) R) : Mem w0 w (A ++ O ++ []) R := by rw [List.append_nil]; exact h
theorem mem_b0 {A O : LV} (h : Mem w0 w (A ++ O ++ []) R) : Mem w0 w (A ++ O) R := by rw [List.append_nil] at h; exact h
theorem mem_c0 {A : LV} (h : Mem w0 w (A ++ []) R) : Mem w0 w A R := by rw [List.append_nil] at h; exact h
theorem app_b {l m : List Gv} (h : l.length + m.length ≤ 2000) : ((cellsG l).length + (cellsG m).length) / 7 ≤ maxLen ∧ ((cellsG l).length + (cellsG m).length) / 7 * 64 ≤ 140737488355328 := by
 rw [cellsG_len, cellsG_len]
 unfold maxLen
 omega
theorem RSC_rd {w : World} {g : G} {sa : Option Addr} {sn sk : Nat} (hd : Rd w 1 (Value.slice sa sn sk) (cellsB g.data)) (hc : chkG g = true) : Calls Try.prog 24 #[.agg #[.int .i64 g.src, .int .i64 g.dst, .int .u32 g.seq, .int .u32 g.ack, .int .i64 g.fl, .int .i64 g.wnd, .slice sa sn sk]] w fun e w' => e = .returned (.bool true) ∧ New w w' :=
 RSCheck_ok (Mem.all (R := [(1, Value.slice sa sn sk, cellsB g.data)]) (fun x hx => by rw [List.mem_singleton.1 hx]; exact hd)) Mem.z hc
theorem Keeps_f (w : World) (R : LR) (hv : Mem w w [] R) {src dst fl swn n : Int} {seq ack now : Nat} {sa xa : Option Addr} {sn sk xn xk : Nat} (hF : ∀ w' L', Mem w w' L' R → Calls Try.prog 21 #[.agg #[.int .i64 t.st, .int .i64 t.lo, .int .u32 t.ip, .int .i64 t.po, .int .u32 t.iss, .int .u32 t.una, .int .u32 t.nx, .slice da dn dk, .int .i64 t.wnd, .bool t.en, .bool t.se, .int .u32 t.inn.next, .slice ba bn bk, .slice pa pn pk, .bool t.ed, .int .u64 t.tm, .int .i64 t.rto, .int .i64 t.tr, .int .i64 t.er]] w' fun e w2 => e = .returned (.bool true) ∧ New w' w2) (hC : ∀ w' L', Mem w w' L' R → Calls Try.prog 22 #[.agg #[.int .i64 t.st, .int .i64 t.lo, .int .u32 t.ip, .int .i64 t.po, .int .u32 t.iss, .int .u32 t.una, .int .u32 t.nx, .slice da dn dk, .int .i64 t.wnd, .bool t.en, .bool t.se, .int .u32 t.inn.next, .slice ba bn bk, .slice pa pn pk, .bool t.ed, .int .u64 t.tm, .int .i64 t.rto, .int .i64 t.tr, .int .i64 t.er]] w' fun e w2 => e = .returned (.bool true) ∧ New w' w2) {l : List PcV} (hI : InC R t da dn dk ba bn bk pa pn pk l) (hck : chkT t = true) {b D : List Nat} (hb : (1, .slice xa xn xk, cellsB b) ∈ R) (hd : (1, .slice sa sn sk, cellsB D) ∈ R) (hsq : seq < 4294967296) (hak : ack < 4294967296) (hfl : -9223372036854775808 ≤ fl ∧ fl ≤ 9223372036854775807) (h3 : ¬ 300 < sn) (hx : ¬ 600 < xn) : Calls Try.prog 7 #[.agg #[.int .i64 t.st, .int .i64 t.lo, .int .u32 t.ip, .int .i64 t.po, .int .u32 t.iss, .int .u32 t.una, .int .u32 t.nx, .slice da dn dk, .int .i64 t.wnd, .bool t.en, .bool t.se, .int .u32 t.inn.next, .slice ba bn bk, .slice pa pn pk, .bool t.ed, .int .u64 t.tm, .int .i64 t.rto, .int .i64 t.tr, .int .i64 t.er], .agg #[.int .i64 src, .int .i64 dst, .int .u32 seq, .int .u32 ack, .int .i64 fl, .int .i64 swn, .slice sa sn sk], .slice xa xn xk, .int .i64 n, .int .u64 now] w (fun e w' => e = .returned (.bool true) ∧ New w w') := by
 have y3 : decide ((300 : Int) < (sn : Int)) = false := decide_eq_false (by omega)
 have z3 : decide (300 < sn) = false := decide_eq_false h3
 have y6 : decide ((600 : Int) < (xn : Int)) = false := decide_eq_false (by omega)
 have z6 : decide (600 < xn) = false := decide_eq_false hx
 have hxn : b.length = xn := len_rd1 (hv.rd hb)
 have HI := Lib.hid hI
 have HCK := Lib.hid hck
 have HB := Lib.hid hb
 have HD := Lib.hid hd
 have HSQ := Lib.hid hsq
 have HAK := Lib.hid hak
 have HFL := Lib.hid hfl
 have HBL : Hid (b.length ≤ 1000) := Lib.hid (by omega)
 have HF := Lib.hid hF
 have HC := Lib.hid hC
 clear hF hC
 clear hI hck hb hd hsq hak hfl hxn h3 hx
 go_enter Try.func7, Try.ntmps7
 try simp only [List.append_eq, List.cons_append, List.nil_append]
 go_wp2_with (first
   | ((with_reducible refine gBx 31 5 ?_); refine nwB hv #[.int .i64 t.st, .int .i64 t.lo, .int .u32 t.ip, .int .i64 t.po, .int .u32 t.iss, .int .u32 t.una, .int .u32 t.nx, .slice da dn dk, .int .i64 t.wnd, .bool t.en, .bool t.se, .int .u32 t.inn.next, .slice ba bn bk, .slice pa pn pk, .bool t.ed, .int .u64 t.tm, .int .i64 t.rto, .int .i64 t.tr, .int .i64 t.er] 31 ?_; clear hv; intro b_5 w2 hv)
   | ((with_reducible refine gBx 42 6 ?_); refine nwB hv #[.int .i64 src, .int .i64 dst, .int .u32 seq, .int .u32 ack, .int .i64 fl, .int .i64 swn, .slice sa sn sk] 42 ?_; clear hv; intro b_6 w2 hv)
   | ((with_reducible refine gLd 31 ?_); refine ldV hv b_5 19 Try.underlying31 infoT19 ?_)
   | (go_at_call 21; (with_reducible refine (HF.out _ _ hv).mono ?_); rintro e w1 ⟨rfl, hn1⟩; replace hv := hv.new hn1; clear hn1)
   | (go_at_call 22; (with_reducible refine (HC.out _ _ hv).mono ?_); rintro e w1 ⟨rfl, hn1⟩; replace hv := hv.new hn1; clear hn1)
   | ((with_reducible refine gLd 23 ?_); refine ldC hv b_6 6 (.slice sa sn sk) Try.underlying23 ?_)
   | ((with_reducible refine gLd 42 ?_); refine ldV hv b_6 7 Try.underlying42 infoG7 ?_)
   | (go_at_call 13; (refine (Take_K hv HI.out HCK.out (nw := now) HD.out HSQ.out HAK.out HFL.out).mono ?_); rintro e w1 ⟨c1, vt, ov, rfl, hr1⟩; obtain ⟨R1, da1, dn1, dk1, ba1, bn1, bk1, pa1, pn1, pk1, l1, oa1, on1, ok1, gs1, O1, rfl, rfl, hm1, hs1, hq1, hI1, hA1, hE1, hk1, hl1⟩ := hr1; clear hv; have hv := hm1; clear hm1; have HO1 := Lib.hid (cellsG_one hA1 hv); have HS1 := Lib.hid hs1; have HQ1 := Lib.hid hq1; have HI1 := Lib.hid hI1; have HA1 := Lib.hid hA1; have HEA1 := Lib.hid (Kept.each hk1 hE1); have HK1 := Lib.hid hk1.chk; have HL1 := Lib.hid hl1; clear hs1 hq1 hI1 hA1 hE1 hk1 hl1; simp only [List.cons_append, List.nil_append] at hv)
   | ((with_reducible refine gAl 31 11 ?_); refine nwB hv #[.int .i64 0, .int .i64 0, .int .u32 0, .int .i64 0, .int .u32 0, .int .u32 0, .int .u32 0, .slice none 0 0, .int .i64 0, .bool false, .bool false, .int .u32 0, .slice none 0 0, .slice none 0 0, .bool false, .int .u64 0, .int .i64 0, .int .i64 0, .int .i64 0] 31 ?_; clear hv; intro b_11 w2 hv)
   | ((with_reducible refine gSt 31 ?_); refine stV hv b_11 19 infoT19 ?_ (h1 := (rowT_one _ _ _ _ _ _ _ _ _ _)); clear hv; intro w2 hv)
   | (go_at_call 19; (refine (Tick_K hv (HI.out.mono (fun x hx => HS1.out x hx)) HCK.out (nw := now)).mono ?_); rintro e w1 ⟨c2, vt, ov, rfl, hr1⟩; obtain ⟨R2, da2, dn2, dk2, ba2, bn2, bk2, pa2, pn2, pk2, l2, oa2, on2, ok2, gs2, rfl, rfl, hm1, hs1, hq1, hI1, hA1, hE1, hk1, hl1⟩ := hr1; clear hv; have hv := hm1; clear hm1; have HO2 := Lib.hid (cellsG_one hA1 hv); have HS2 := Lib.hid hs1; have HQ2 := Lib.hid hq1; have HI2 := Lib.hid hI1; have HA2 := Lib.hid hA1; have HEA2 := Lib.hid (Kept.each hk1 hE1); have HK2 := Lib.hid hk1.chk; have HL2 := Lib.hid hl1; clear hs1 hq1 hI1 hA1 hE1 hk1 hl1)
   | ((with_reducible refine gAl 31 13 ?_); refine nwB hv #[.int .i64 0, .int .i64 0, .int .u32 0, .int .i64 0, .int .u32 0, .int .u32 0, .int .u32 0, .slice none 0 0, .int .i64 0, .bool false, .bool false, .int .u32 0, .slice none 0 0, .slice none 0 0, .bool false, .int .u64 0, .int .i64 0, .int .i64 0, .int .i64 0] 31 ?_; clear hv; intro b_13 w2 hv)
   | ((with_reducible refine gSt 31 ?_); refine stV hv b_13 19 infoT19 ?_ (h1 := (rowT_one _ _ _ _ _ _ _ _ _ _)); clear hv; intro w2 hv)
   | (go_at_call 12; (refine (Close_K hv (HI.out.mono (fun x hx => HS2.out x (HS1.out x hx))) HCK.out (nw := now)).mono ?_); rintro e w1 ⟨c3, vt, ov, rfl, hr1⟩; obtain ⟨R3, da3, dn3, dk3, ba3, bn3, bk3, pa3, pn3, pk3, l3, oa3, on3, ok3, gs3, rfl, rfl, hm1, hs1, hq1, hI1, hA1, hE1, hk1, hl1⟩ := hr1; clear hv; have hv := hm1; clear hm1; have HO3 := Lib.hid (cellsG_one hA1 hv); have HS3 := Lib.hid hs1; have HQ3 := Lib.hid hq1; have HI3 := Lib.hid hI1; have HA3 := Lib.hid hA1; have HEA3 := Lib.hid (Kept.each hk1 hE1); have HK3 := Lib.hid hk1.chk; have HL3 := Lib.hid hl1; clear hs1 hq1 hI1 hA1 hE1 hk1 hl1)
   | ((with_reducible refine gAl 31 15 ?_); refine nwB hv #[.int .i64 0, .int .i64 0, .int .u32 0, .int .i64 0, .int .u32 0, .int .u32 0, .int .u32 0, .slice none 0 0, .int .i64 0, .bool false, .bool false, .int .u32 0, .slice none 0 0, .slice none 0 0, .bool false, .int .u64 0, .int .i64 0, .int .i64 0, .int .i64 0] 31 ?_; clear hv; intro b_15 w2 hv)
   | ((with_reducible refine gSt 31 ?_); refine stV hv b_15 19 infoT19 ?_ (h1 := (rowT_one _ _ _ _ _ _ _ _ _ _)); clear hv; intro w2 hv)
   | (go_at_call 11; (refine (Write_K hv (HI.out.mono (fun x hx => HS3.out x (HS2.out x (HS1.out x hx)))) HCK.out (nw := now) ((fun x hx => HS3.out x (HS2.out x (HS1.out x hx))) _ HB.out) HBL.out).mono ?_); rintro e w1 ⟨c4, vt, ov, n4, er4, rfl, hr1⟩; obtain ⟨R4, da4, dn4, dk4, ba4, bn4, bk4, pa4, pn4, pk4, l4, oa4, on4, ok4, gs4, rfl, rfl, hm1, hs1, hq1, hI1, hA1, hE1, hk1, hl1⟩ := hr1; clear hv; have hv := hm1; clear hm1; have HO4 := Lib.hid (cellsG_one hA1 hv); have HS4 := Lib.hid hs1; have HQ4 := Lib.hid hq1; have HI4 := Lib.hid hI1; have HA4 := Lib.hid hA1; have HEA4 := Lib.hid (Kept.each hk1 hE1); have HK4 := Lib.hid hk1.chk; have HL4 := Lib.hid hl1; clear hs1 hq1 hI1 hA1 hE1 hk1 hl1)
   | ((with_reducible refine gAl 31 17 ?_); refine nwB hv #[.int .i64 0, .int .i64 0, .int .u32 0, .int .i64 0, .int .u32 0, .int .u32 0, .int .u32 0, .slice none 0 0, .int .i64 0, .bool false, .bool false, .int .u32 0, .slice none 0 0, .slice none 0 0, .bool false, .int .u64 0, .int .i64 0, .int .i64 0, .int .i64 0] 31 ?_; clear hv; intro b_17 w2 hv)
   | ((with_reducible refine gSt 31 ?_); refine stV hv b_17 19 infoT19 ?_ (h1 := (rowT_one _ _ _ _ _ _ _ _ _ _)); clear hv; intro w2 hv)
   | (go_at_call 14; (refine (Read_K hv (HI.out.mono (fun x hx => HS4.out x (HS3.out x (HS2.out x (HS1.out x hx))))) HCK.out (n := n)).mono ?_); rintro e w1 ⟨c5, vt, ov, gv, rfl, hr1⟩; obtain ⟨R5, da5, dn5, dk5, ba5, bn5, bk5, pa5, pn5, pk5, l5, oa5, on5, ok5, gs5, rfl, rfl, hm1, hs1, hq1, hI1, hA1, hE1, hk1, hl1⟩ := hr1; clear hv; have hv := hm1; clear hm1; have HO5 := Lib.hid (cellsG_one hA1 hv); have HS5 := Lib.hid hs1; have HQ5 := Lib.hid hq1; have HI5 := Lib.hid hI1; have HA5 := Lib.hid hA1; have HEA5 := Lib.hid (Kept.each hk1 hE1); have HK5 := Lib.hid hk1.chk; have HL5 := Lib.hid hl1; clear hs1 hq1 hI1 hA1 hE1 hk1 hl1)
   | ((with_reducible refine gAl 31 21 ?_); refine nwB hv #[.int .i64 0, .int .i64 0, .int .u32 0, .int .i64 0, .int .u32 0, .int .u32 0, .int .u32 0, .slice none 0 0, .int .i64 0, .bool false, .bool false, .int .u32 0, .slice none 0 0, .slice none 0 0, .bool false, .int .u64 0, .int .i64 0, .int .i64 0, .int .i64 0] 31 ?_; clear hv; intro b_21 w2 hv)
   | ((with_reducible refine gSt 31 ?_); refine stV hv b_21 19 infoT19 ?_ (h1 := (rowT_one _ _ _ _ _ _ _ _ _ _)); clear hv; intro w2 hv)
   | ((with_reducible refine at_append (t := 32) (dst := some 83) ?_); have hvA := mem_a0 (A := [(b_21, (rowT c5.t (.slice da5 dn5 dk5) (.slice ba5 bn5 bk5) (.slice pa5 pn5 pk5))), (b_17, (rowT c4.t (.slice da4 dn4 dk4) (.slice ba4 bn4 bk4) (.slice pa4 pn4 pk4))), (b_15, (rowT c3.t (.slice da3 dn3 dk3) (.slice ba3 bn3 bk3) (.slice pa3 pn3 pk3))), (b_13, (rowT c2.t (.slice da2 dn2 dk2) (.slice ba2 bn2 bk2) (.slice pa2 pn2 pk2))), (b_11, (rowT c1.t (.slice da1 dn1 dk1) (.slice ba1 bn1 bk1) (.slice pa1 pn1 pk1))), (b_6, #[.int .i64 src, .int .i64 dst, .int .u32 seq, .int .u32 ack, .int .i64 fl, .int .i64 swn, .slice sa sn sk]), (b_5, #[.int .i64 t.st, .int .i64 t.lo, .int .u32 t.ip, .int .i64 t.po, .int .u32 t.iss, .int .u32 t.una, .int .u32 t.nx, .slice da dn dk, .int .i64 t.wnd, .bool t.en, .bool t.se, .int .u32 t.inn.next, .slice ba bn bk, .slice pa pn pk, .bool t.ed, .int .u64 t.tm, .int .i64 t.rto, .int .i64 t.tr, .int .i64 t.er])]) (O := O1) hv; refine wl_appQ (A := [(b_21, (rowT c5.t (.slice da5 dn5 dk5) (.slice ba5 bn5 bk5) (.slice pa5 pn5 pk5))), (b_17, (rowT c4.t (.slice da4 dn4 dk4) (.slice ba4 bn4 bk4) (.slice pa4 pn4 pk4))), (b_15, (rowT c3.t (.slice da3 dn3 dk3) (.slice ba3 bn3 bk3) (.slice pa3 pn3 pk3))), (b_13, (rowT c2.t (.slice da2 dn2 dk2) (.slice ba2 bn2 bk2) (.slice pa2 pn2 pk2))), (b_11, (rowT c1.t (.slice da1 dn1 dk1) (.slice ba1 bn1 bk1) (.slice pa1 pn1 pk1))), (b_6, #[.int .i64 src, .int .i64 dst, .int .u32 seq, .int .u32 ack, .int .i64 fl, .int .i64 swn, .slice sa sn sk]), (b_5, #[.int .i64 t.st, .int .i64 t.lo, .int .u32 t.ip, .int .i64 t.po, .int .u32 t.iss, .int .u32 t.una, .int .u32 t.nx, .slice da dn dk, .int .i64 t.wnd, .bool t.en, .bool t.se, .int .u32 t.inn.next, .slice ba bn bk, .slice pa pn pk, .bool t.ed, .int .u64 t.tm, .int .i64 t.rto, .int .i64 t.tr, .int .i64 t.er])]) (B := []) rfl rfl HQ1.out hvA (.agg #[.int .i64 0, .int .i64 0, .int .u32 0, .int .u32 0, .int .i64 0, .int .i64 0, .slice none 0 0]) 64 Try.underlying32 infoGz rfl (by decide) rfl (hvA.rd (HS5.out _ (HS4.out _ (HS3.out _ HQ2.out)))) HO2.out (app_b (by have := HL1.out; have := HL2.out; have := HL3.out; have := HL4.out; have := HL5.out; (try simp only [List.length_append]); omega)).1 (app_b (by have := HL1.out; have := HL2.out; have := HL3.out; have := HL4.out; have := HL5.out; (try simp only [List.length_append]); omega)).2 ?_; intro v2 w7 P2 hP hv1; clear hv hvA; have hv := mem_b0 (A := [(b_21, (rowT c5.t (.slice da5 dn5 dk5) (.slice ba5 bn5 bk5) (.slice pa5 pn5 pk5))), (b_17, (rowT c4.t (.slice da4 dn4 dk4) (.slice ba4 bn4 bk4) (.slice pa4 pn4 pk4))), (b_15, (rowT c3.t (.slice da3 dn3 dk3) (.slice ba3 bn3 bk3) (.slice pa3 pn3 pk3))), (b_13, (rowT c2.t (.slice da2 dn2 dk2) (.slice ba2 bn2 bk2) (.slice pa2 pn2 pk2))), (b_11, (rowT c1.t (.slice da1 dn1 dk1) (.slice ba1 bn1 bk1) (.slice pa1 pn1 pk1))), (b_6, #[.int .i64 src, .int .i64 dst, .int .u32 seq, .int .u32 ack, .int .i64 fl, .int .i64 swn, .slice sa sn sk]), (b_5, #[.int .i64 t.st, .int .i64 t.lo, .int .u32 t.ip, .int .i64 t.po, .int .u32 t.iss, .int .u32 t.una, .int .u32 t.nx, .slice da dn dk, .int .i64 t.wnd, .bool t.en, .bool t.se, .int .u32 t.inn.next, .slice ba bn bk, .slice pa pn pk, .bool t.ed, .int .u64 t.tm, .int .i64 t.rto, .int .i64 t.tr, .int .i64 t.er])]) (O := P2) hv1; clear hv1; rw [← cellsG_app] at hP; obtain ⟨pa2', pn2', pk2', rfl, hq3⟩ := hP.slice; clear hq3; have HP2 := Lib.hid hP; clear hP; simp only [List.cons_append, List.nil_append] at hv)
   | ((with_reducible refine at_append (t := 32) (dst := some 85) ?_); have hvA := mem_a0 (A := [(b_21, (rowT c5.t (.slice da5 dn5 dk5) (.slice ba5 bn5 bk5) (.slice pa5 pn5 pk5))), (b_17, (rowT c4.t (.slice da4 dn4 dk4) (.slice ba4 bn4 bk4) (.slice pa4 pn4 pk4))), (b_15, (rowT c3.t (.slice da3 dn3 dk3) (.slice ba3 bn3 bk3) (.slice pa3 pn3 pk3))), (b_13, (rowT c2.t (.slice da2 dn2 dk2) (.slice ba2 bn2 bk2) (.slice pa2 pn2 pk2))), (b_11, (rowT c1.t (.slice da1 dn1 dk1) (.slice ba1 bn1 bk1) (.slice pa1 pn1 pk1))), (b_6, #[.int .i64 src, .int .i64 dst, .int .u32 seq, .int .u32 ack, .int .i64 fl, .int .i64 swn, .slice sa sn sk]), (b_5, #[.int .i64 t.st, .int .i64 t.lo, .int .u32 t.ip, .int .i64 t.po, .int .u32 t.iss, .int .u32 t.una, .int .u32 t.nx, .slice da dn dk, .int .i64 t.wnd, .bool t.en, .bool t.se, .int .u32 t.inn.next, .slice ba bn bk, .slice pa pn pk, .bool t.ed, .int .u64 t.tm, .int .i64 t.rto, .int .i64 t.tr, .int .i64 t.er])]) (O := P2) hv; refine wl_appQ (A := [(b_21, (rowT c5.t (.slice da5 dn5 dk5) (.slice ba5 bn5 bk5) (.slice pa5 pn5 pk5))), (b_17, (rowT c4.t (.slice da4 dn4 dk4) (.slice ba4 bn4 bk4) (.slice pa4 pn4 pk4))), (b_15, (rowT c3.t (.slice da3 dn3 dk3) (.slice ba3 bn3 bk3) (.slice pa3 pn3 pk3))), (b_13, (rowT c2.t (.slice da2 dn2 dk2) (.slice ba2 bn2 bk2) (.slice pa2 pn2 pk2))), (b_11, (rowT c1.t (.slice da1 dn1 dk1) (.slice ba1 bn1 bk1) (.slice pa1 pn1 pk1))), (b_6, #[.int .i64 src, .int .i64 dst, .int .u32 seq, .int .u32 ack, .int .i64 fl, .int .i64 swn, .slice sa sn sk]), (b_5, #[.int .i64 t.st, .int .i64 t.lo, .int .u32 t.ip, .int .i64 t.po, .int .u32 t.iss, .int .u32 t.una, .int .u32 t.nx, .slice da dn dk, .int .i64 t.wnd, .bool t.en, .bool t.se, .int .u32 t.inn.next, .slice ba bn bk, .slice pa pn pk, .bool t.ed, .int .u64 t.tm, .int .i64 t.rto, .int .i64 t.tr, .int .i64 t.er])]) (B := []) rfl rfl HP2.out hvA (.agg #[.int .i64 0, .int .i64 0, .int .u32 0, .int .u32 0, .int .i64 0, .int .i64 0, .slice none 0 0]) 64 Try.underlying32 infoGz rfl (by decide) rfl (hvA.rd (HS5.out _ (HS4.out _ HQ3.out))) HO3.out (app_b (by have := HL1.out; have := HL2.out; have := HL3.out; have := HL4.out; have := HL5.out; (try simp only [List.length_append]); omega)).1 (app_b (by have := HL1.out; have := HL2.out; have := HL3.out; have := HL4.out; have := HL5.out; (try simp only [List.length_append]); omega)).2 ?_; intro v2 w7 P3 hP hv1; clear hv hvA; have hv := mem_b0 (A := [(b_21, (rowT c5.t (.slice da5 dn5 dk5) (.slice ba5 bn5 bk5) (.slice pa5 pn5 pk5))), (b_17, (rowT c4.t (.slice da4 dn4 dk4) (.slice ba4 bn4 bk4) (.slice pa4 pn4 pk4))), (b_15, (rowT c3.t (.slice da3 dn3 dk3) (.slice ba3 bn3 bk3) (.slice pa3 pn3 pk3))), (b_13, (rowT c2.t (.slice da2 dn2 dk2) (.slice ba2 bn2 bk2) (.slice pa2 pn2 pk2))), (b_11, (rowT c1.t (.slice da1 dn1 dk1) (.slice ba1 bn1 bk1) (.slice pa1 pn1 pk1))), (b_6, #[.int .i64 src, .int .i64 dst, .int .u32 seq, .int .u32 ack, .int .i64 fl, .int .i64 swn, .slice sa sn sk]), (b_5, #[.int .i64 t.st, .int .i64 t.lo, .int .u32 t.ip, .int .i64 t.po, .int .u32 t.iss, .int .u32 t.una, .int .u32 t.nx, .slice da dn dk, .int .i64 t.wnd, .bool t.en, .bool t.se, .int .u32 t.inn.next, .slice ba bn bk, .slice pa pn pk, .bool t.ed, .int .u64 t.tm, .int .i64 t.rto, .int .i64 t.tr, .int .i64 t.er])]) (O := P3) hv1; clear hv1; rw [← cellsG_app] at hP; obtain ⟨pa3', pn3', pk3', rfl, hq3⟩ := hP.slice; clear hq3; have HP3 := Lib.hid hP; clear hP; simp only [List.cons_append, List.nil_append] at hv)
   | ((with_reducible refine at_append (t := 32) (dst := some 87) ?_); have hvA := mem_a0 (A := [(b_21, (rowT c5.t (.slice da5 dn5 dk5) (.slice ba5 bn5 bk5) (.slice pa5 pn5 pk5))), (b_17, (rowT c4.t (.slice da4 dn4 dk4) (.slice ba4 bn4 bk4) (.slice pa4 pn4 pk4))), (b_15, (rowT c3.t (.slice da3 dn3 dk3) (.slice ba3 bn3 bk3) (.slice pa3 pn3 pk3))), (b_13, (rowT c2.t (.slice da2 dn2 dk2) (.slice ba2 bn2 bk2) (.slice pa2 pn2 pk2))), (b_11, (rowT c1.t (.slice da1 dn1 dk1) (.slice ba1 bn1 bk1) (.slice pa1 pn1 pk1))), (b_6, #[.int .i64 src, .int .i64 dst, .int .u32 seq, .int .u32 ack, .int .i64 fl, .int .i64 swn, .slice sa sn sk]), (b_5, #[.int .i64 t.st, .int .i64 t.lo, .int .u32 t.ip, .int .i64 t.po, .int .u32 t.iss, .int .u32 t.una, .int .u32 t.nx, .slice da dn dk, .int .i64 t.wnd, .bool t.en, .bool t.se, .int .u32 t.inn.next, .slice ba bn bk, .slice pa pn pk, .bool t.ed, .int .u64 t.tm, .int .i64 t.rto, .int .i64 t.tr, .int .i64 t.er])]) (O := P3) hv; refine wl_appQ (A := [(b_21, (rowT c5.t (.slice da5 dn5 dk5) (.slice ba5 bn5 bk5) (.slice pa5 pn5 pk5))), (b_17, (rowT c4.t (.slice da4 dn4 dk4) (.slice ba4 bn4 bk4) (.slice pa4 pn4 pk4))), (b_15, (rowT c3.t (.slice da3 dn3 dk3) (.slice ba3 bn3 bk3) (.slice pa3 pn3 pk3))), (b_13, (rowT c2.t (.slice da2 dn2 dk2) (.slice ba2 bn2 bk2) (.slice pa2 pn2 pk2))), (b_11, (rowT c1.t (.slice da1 dn1 dk1) (.slice ba1 bn1 bk1) (.slice pa1 pn1 pk1))), (b_6, #[.int .i64 src, .int .i64 dst, .int .u32 seq, .int .u32 ack, .int .i64 fl, .int .i64 swn, .slice sa sn sk]), (b_5, #[.int .i64 t.st, .int .i64 t.lo, .int .u32 t.ip, .int .i64 t.po, .int .u32 t.iss, .int .u32 t.una, .int .u32 t.nx, .slice da dn dk, .int .i64 t.wnd, .bool t.en, .bool t.se, .int .u32 t.inn.next, .slice ba bn bk, .slice pa pn pk, .bool t.ed, .int .u64 t.tm, .int .i64 t.rto, .int .i64 t.tr, .int .i64 t.er])]) (B := []) rfl rfl HP3.out hvA (.agg #[.int .i64 0, .int .i64 0, .int .u32 0, .int .u32 0, .int .i64 0, .int .i64 0, .slice none 0 0]) 64 Try.underlying32 infoGz rfl (by decide) rfl (hvA.rd (HS5.out _ HQ4.out)) HO4.out (app_b (by have := HL1.out; have := HL2.out; have := HL3.out; have := HL4.out; have := HL5.out; (try simp only [List.length_append]); omega)).1 (app_b (by have := HL1.out; have := HL2.out; have := HL3.out; have := HL4.out; have := HL5.out; (try simp only [List.length_append]); omega)).2 ?_; intro v2 w7 P4 hP hv1; clear hv hvA; have hv := mem_b0 (A := [(b_21, (rowT c5.t (.slice da5 dn5 dk5) (.slice ba5 bn5 bk5) (.slice pa5 pn5 pk5))), (b_17, (rowT c4.t (.slice da4 dn4 dk4) (.slice ba4 bn4 bk4) (.slice pa4 pn4 pk4))), (b_15, (rowT c3.t (.slice da3 dn3 dk3) (.slice ba3 bn3 bk3) (.slice pa3 pn3 pk3))), (b_13, (rowT c2.t (.slice da2 dn2 dk2) (.slice ba2 bn2 bk2) (.slice pa2 pn2 pk2))), (b_11, (rowT c1.t (.slice da1 dn1 dk1) (.slice ba1 bn1 bk1) (.slice pa1 pn1 pk1))), (b_6, #[.int .i64 src, .int .i64 dst, .int .u32 seq, .int .u32 ack, .int .i64 fl, .int .i64 swn, .slice sa sn sk]), (b_5, #[.int .i64 t.st, .int .i64 t.lo, .int .u32 t.ip, .int .i64 t.po, .int .u32 t.iss, .int .u32 t.una, .int .u32 t.nx, .slice da dn dk, .int .i64 t.wnd, .bool t.en, .bool t.se, .int .u32 t.inn.next, .slice ba bn bk, .slice pa pn pk, .bool t.ed, .int .u64 t.tm, .int .i64 t.rto, .int .i64 t.tr, .int .i64 t.er])]) (O := P4) hv1; clear hv1; rw [← cellsG_app] at hP; obtain ⟨pa4', pn4', pk4', rfl, hq3⟩ := hP.slice; clear hq3; have HP4 := Lib.hid hP; clear hP; simp only [List.cons_append, List.nil_append] at hv)
   | ((with_reducible refine at_append (t := 32) (dst := some 89) ?_); have hvA := mem_a0 (A := [(b_21, (rowT c5.t (.slice da5 dn5 dk5) (.slice ba5 bn5 bk5) (.slice pa5 pn5 pk5))), (b_17, (rowT c4.t (.slice da4 dn4 dk4) (.slice ba4 bn4 bk4) (.slice pa4 pn4 pk4))), (b_15, (rowT c3.t (.slice da3 dn3 dk3) (.slice ba3 bn3 bk3) (.slice pa3 pn3 pk3))), (b_13, (rowT c2.t (.slice da2 dn2 dk2) (.slice ba2 bn2 bk2) (.slice pa2 pn2 pk2))), (b_11, (rowT c1.t (.slice da1 dn1 dk1) (.slice ba1 bn1 bk1) (.slice pa1 pn1 pk1))), (b_6, #[.int .i64 src, .int .i64 dst, .int .u32 seq, .int .u32 ack, .int .i64 fl, .int .i64 swn, .slice sa sn sk]), (b_5, #[.int .i64 t.st, .int .i64 t.lo, .int .u32 t.ip, .int .i64 t.po, .int .u32 t.iss, .int .u32 t.una, .int .u32 t.nx, .slice da dn dk, .int .i64 t.wnd, .bool t.en, .bool t.se, .int .u32 t.inn.next, .slice ba bn bk, .slice pa pn pk, .bool t.ed, .int .u64 t.tm, .int .i64 t.rto, .int .i64 t.tr, .int .i64 t.er])]) (O := P4) hv; refine wl_appQ (A := [(b_21, (rowT c5.t (.slice da5 dn5 dk5) (.slice ba5 bn5 bk5) (.slice pa5 pn5 pk5))), (b_17, (rowT c4.t (.slice da4 dn4 dk4) (.slice ba4 bn4 bk4) (.slice pa4 pn4 pk4))), (b_15, (rowT c3.t (.slice da3 dn3 dk3) (.slice ba3 bn3 bk3) (.slice pa3 pn3 pk3))), (b_13, (rowT c2.t (.slice da2 dn2 dk2) (.slice ba2 bn2 bk2) (.slice pa2 pn2 pk2))), (b_11, (rowT c1.t (.slice da1 dn1 dk1) (.slice ba1 bn1 bk1) (.slice pa1 pn1 pk1))), (b_6, #[.int .i64 src, .int .i64 dst, .int .u32 seq, .int .u32 ack, .int .i64 fl, .int .i64 swn, .slice sa sn sk]), (b_5, #[.int .i64 t.st, .int .i64 t.lo, .int .u32 t.ip, .int .i64 t.po, .int .u32 t.iss, .int .u32 t.una, .int .u32 t.nx, .slice da dn dk, .int .i64 t.wnd, .bool t.en, .bool t.se, .int .u32 t.inn.next, .slice ba bn bk, .slice pa pn pk, .bool t.ed, .int .u64 t.tm, .int .i64 t.rto, .int .i64 t.tr, .int .i64 t.er])]) (B := []) rfl rfl HP4.out hvA (.agg #[.int .i64 0, .int .i64 0, .int .u32 0, .int .u32 0, .int .i64 0, .int .i64 0, .slice none 0 0]) 64 Try.underlying32 infoGz rfl (by decide) rfl (hvA.rd (HQ5.out)) HO5.out (app_b (by have := HL1.out; have := HL2.out; have := HL3.out; have := HL4.out; have := HL5.out; (try simp only [List.length_append]); omega)).1 (app_b (by have := HL1.out; have := HL2.out; have := HL3.out; have := HL4.out; have := HL5.out; (try simp only [List.length_append]); omega)).2 ?_; intro v2 w7 P5 hP hv1; clear hv hvA; have hv := mem_b0 (A := [(b_21, (rowT c5.t (.slice da5 dn5 dk5) (.slice ba5 bn5 bk5) (.slice pa5 pn5 pk5))), (b_17, (rowT c4.t (.slice da4 dn4 dk4) (.slice ba4 bn4 bk4) (.slice pa4 pn4 pk4))), (b_15, (rowT c3.t (.slice da3 dn3 dk3) (.slice ba3 bn3 bk3) (.slice pa3 pn3 pk3))), (b_13, (rowT c2.t (.slice da2 dn2 dk2) (.slice ba2 bn2 bk2) (.slice pa2 pn2 pk2))), (b_11, (rowT c1.t (.slice da1 dn1 dk1) (.slice ba1 bn1 bk1) (.slice pa1 pn1 pk1))), (b_6, #[.int .i64 src, .int .i64 dst, .int .u32 seq, .int .u32 ack, .int .i64 fl, .int .i64 swn, .slice sa sn sk]), (b_5, #[.int .i64 t.st, .int .i64 t.lo, .int .u32 t.ip, .int .i64 t.po, .int .u32 t.iss, .int .u32 t.una, .int .u32 t.nx, .slice da dn dk, .int .i64 t.wnd, .bool t.en, .bool t.se, .int .u32 t.inn.next, .slice ba bn bk, .slice pa pn pk, .bool t.ed, .int .u64 t.tm, .int .i64 t.rto, .int .i64 t.tr, .int .i64 t.er])]) (O := P5) hv1; clear hv1; rw [← cellsG_app] at hP; obtain ⟨pa5', pn5', pk5', rfl, hq3⟩ := hP.slice; clear hq3; have HP5 := Lib.hid hP; clear hP; simp only [List.cons_append, List.nil_append] at hv))
 obtain ⟨gsA, hgA⟩ : ∃ g, g = gs1 ++ gs2 ++ gs3 ++ gs4 ++ gs5 := ⟨_, rfl⟩
 have hp5 := HP5.out
 rw [← hgA] at hp5
 have hv9 := hp5.yield (A := [(b_21, (rowT c5.t (.slice da5 dn5 dk5) (.slice ba5 bn5 bk5) (.slice pa5 pn5 pk5))), (b_17, (rowT c4.t (.slice da4 dn4 dk4) (.slice ba4 bn4 bk4) (.slice pa4 pn4 pk4))), (b_15, (rowT c3.t (.slice da3 dn3 dk3) (.slice ba3 bn3 bk3) (.slice pa3 pn3 pk3))), (b_13, (rowT c2.t (.slice da2 dn2 dk2) (.slice ba2 bn2 bk2) (.slice pa2 pn2 pk2))), (b_11, (rowT c1.t (.slice da1 dn1 dk1) (.slice ba1 bn1 bk1) (.slice pa1 pn1 pk1))), (b_6, #[.int .i64 src, .int .i64 dst, .int .u32 seq, .int .u32 ack, .int .i64 fl, .int .i64 swn, .slice sa sn sk]), (b_5, #[.int .i64 t.st, .int .i64 t.lo, .int .u32 t.ip, .int .i64 t.po, .int .u32 t.iss, .int .u32 t.una, .int .u32 t.nx, .slice da dn dk, .int .i64 t.wnd, .bool t.en, .bool t.se, .int .u32 t.inn.next, .slice ba bn bk, .slice pa pn pk, .bool t.ed, .int .u64 t.tm, .int .i64 t.rto, .int .i64 t.tr, .int .i64 t.er])]) (B := []) (mem_a0 (A := [(b_21, (rowT c5.t (.slice da5 dn5 dk5) (.slice ba5 bn5 bk5) (.slice pa5 pn5 pk5))), (b_17, (rowT c4.t (.slice da4 dn4 dk4) (.slice ba4 bn4 bk4) (.slice pa4 pn4 pk4))), (b_15, (rowT c3.t (.slice da3 dn3 dk3) (.slice ba3 bn3 bk3) (.slice pa3 pn3 pk3))), (b_13, (rowT c2.t (.slice da2 dn2 dk2) (.slice ba2 bn2 bk2) (.slice pa2 pn2 pk2))), (b_11, (rowT c1.t (.slice da1 dn1 dk1) (.slice ba1 bn1 bk1) (.slice pa1 pn1 pk1))), (b_6, #[.int .i64 src, .int .i64 dst, .int .u32 seq, .int .u32 ack, .int .i64 fl, .int .i64 swn, .slice sa sn sk]), (b_5, #[.int .i64 t.st, .int .i64 t.lo, .int .u32 t.ip, .int .i64 t.po, .int .u32 t.iss, .int .u32 t.una, .int .u32 t.nx, .slice da dn dk, .int .i64 t.wnd, .bool t.en, .bool t.se, .int .u32 t.inn.next, .slice ba bn bk, .slice pa pn pk, .bool t.ed, .int .u64 t.tm, .int .i64 t.rto, .int .i64 t.tr, .int .i64 t.er])]) (O := P5) hv)
 clear hv
 have hv := mem_c0 (A := [(b_21, (rowT c5.t (.slice da5 dn5 dk5) (.slice ba5 bn5 bk5) (.slice pa5 pn5 pk5))), (b_17, (rowT c4.t (.slice da4 dn4 dk4) (.slice ba4 bn4 bk4) (.slice pa4 pn4 pk4))), (b_15, (rowT c3.t (.slice da3 dn3 dk3) (.slice ba3 bn3 bk3) (.slice pa3 pn3 pk3))), (b_13, (rowT c2.t (.slice da2 dn2 dk2) (.slice ba2 bn2 bk2) (.slice pa2 pn2 pk2))), (b_11, (rowT c1.t (.slice da1 dn1 dk1) (.slice ba1 bn1 bk1) (.slice pa1 pn1 pk1))), (b_6, #[.int .i64 src, .int .i64 dst, .int .u32 seq, .int .u32 ack, .int .i64 fl, .int .i64 swn, .slice sa sn sk]), (b_5, #[.int .i64 t.st, .int .i64 t.lo, .int .u32 t.ip, .int .i64 t.po, .int .u32 t.iss, .int .u32 t.una, .int .u32 t.nx, .slice da dn dk, .int .i64 t.wnd, .bool t.en, .bool t.se, .int .u32 t.inn.next, .slice ba bn bk, .slice pa pn pk, .bool t.ed, .int .u64 t.tm, .int .i64 t.rto, .int .i64 t.tr, .int .i64 t.er])]) hv9
 have HGA : Hid (∀ g ∈ gsA, (chkG g.1 = true ∧ g.1.src = t.lo ∧ g.1.dst = t.po) ∧ (1, g.2, cellsB g.1.data) ∈ R5) := Lib.hid (by
   intro g hg
   rw [hgA] at hg
   simp only [List.mem_append] at hg
   rcases hg with (((hg | hg) | hg) | hg) | hg
   · exact ⟨HEA1.out g hg, HS5.out _ (HS4.out _ (HS3.out _ (HS2.out _ (HA1.out g hg))))⟩
   · exact ⟨HEA2.out g hg, HS5.out _ (HS4.out _ (HS3.out _ (HA2.out g hg)))⟩
   · exact ⟨HEA3.out g hg, HS5.out _ (HS4.out _ (HA3.out g hg))⟩
   · exact ⟨HEA4.out g hg, HS5.out _ (HA4.out g hg)⟩
   · exact ⟨HEA5.out g hg, HA5.out g hg⟩)
 have hgl : gsA.length ≤ 1500 := by
   have h1 := HL1.out
   have h2 := HL2.out
   have h3 := HL3.out
   have h4 := HL4.out
   have h5 := HL5.out
   rw [hgA]
   simp only [List.length_append]
   omega
 have HGL := Lib.hid hgl
 have hpn : gsA.length = pn5' := by
   obtain ⟨_, _, _, e, g⟩ := hp5.slice
   cases e
   rw [cellsG_len] at g
   omega
 have HPN := Lib.hid hpn
 have HC1 : Hid (CkOK w R1 (rowT c1.t (.slice da1 dn1 dk1) (.slice ba1 bn1 bk1) (.slice pa1 pn1 pk1))) := Lib.hid (fun w' L' R' hm hs => Check_ok hm (HI1.out.mono hs) HK1.out)
 have HC2 : Hid (CkOK w R2 (rowT c2.t (.slice da2 dn2 dk2) (.slice ba2 bn2 bk2) (.slice pa2 pn2 pk2))) := Lib.hid (fun w' L' R' hm hs => Check_ok hm (HI2.out.mono hs) HK2.out)
 have HC3 : Hid (CkOK w R3 (rowT c3.t (.slice da3 dn3 dk3) (.slice ba3 bn3 bk3) (.slice pa3 pn3 pk3))) := Lib.hid (fun w' L' R' hm hs => Check_ok hm (HI3.out.mono hs) HK3.out)
 have HC4 : Hid (CkOK w R4 (rowT c4.t (.slice da4 dn4 dk4) (.slice ba4 bn4 bk4) (.slice pa4 pn4 pk4))) := Lib.hid (fun w' L' R' hm hs => Check_ok hm (HI4.out.mono hs) HK4.out)
 have HC5 : Hid (CkOK w R5 (rowT c5.t (.slice da5 dn5 dk5) (.slice ba5 bn5 bk5) (.slice pa5 pn5 pk5))) := Lib.hid (fun w' L' R' hm hs => Check_ok hm (HI5.out.mono hs) HK5.out)
 clear hgA hp5 hv9 HP2 HP3 HP4 HP5 HA1 HA2 HA3 HA4 HA5 HEA1 HEA2 HEA3 HEA4 HEA5 HO1 HO2 HO3 HO4 HO5 HQ1 HQ2 HQ3 HQ4 HQ5 HL1 HL2 HL3 HL4 HL5 hgl hpn
 try simp only [Act.put]
 go_loopw [25] (fun iv wr => ∃ i : Nat, i ≤ gsA.length ∧ iv = .int .i64 i ∧ Mem w wr [(b_21, (rowT c5.t (.slice da5 dn5 dk5) (.slice ba5 bn5 bk5) (.slice pa5 pn5 pk5))), (b_17, (rowT c4.t (.slice da4 dn4 dk4) (.slice ba4 bn4 bk4) (.slice pa4 pn4 pk4))), (b_15, (rowT c3.t (.slice da3 dn3 dk3) (.slice ba3 bn3 bk3) (.slice pa3 pn3 pk3))), (b_13, (rowT c2.t (.slice da2 dn2 dk2) (.slice ba2 bn2 bk2) (.slice pa2 pn2 pk2))), (b_11, (rowT c1.t (.slice da1 dn1 dk1) (.slice ba1 bn1 bk1) (.slice pa1 pn1 pk1))), (b_6, #[.int .i64 src, .int .i64 dst, .int .u32 seq, .int .u32 ack, .int .i64 fl, .int .i64 swn, .slice sa sn sk]), (b_5, #[.int .i64 t.st, .int .i64 t.lo, .int .u32 t.ip, .int .i64 t.po, .int .u32 t.iss, .int .u32 t.una, .int .u32 t.nx, .slice da dn dk, .int .i64 t.wnd, .bool t.en, .bool t.se, .int .u32 t.inn.next, .slice ba bn bk, .slice pa pn pk, .bool t.ed, .int .u64 t.tm, .int .i64 t.rto, .int .i64 t.tr, .int .i64 t.er])] ((7, Value.slice pa5' pn5' pk5', cellsG gsA) :: R5)) (fun iv _ => gsA.length - (intOf iv).toNat)
 case atStart => exact ⟨0, Nat.zero_le _, rfl, hv⟩
 case round =>
   clear hv
   obtain ⟨i, hi0, rfl, hv⟩ := hrel
   have hgl := HGL.out
   have hpn := HPN.out
   by_cases hi : i < gsA.length
   · have y1 : decide ((i : Int) < (pn5' : Int)) = true := decide_eq_true (by omega)
     have z1 : decide (i < pn5') = true := decide_eq_true (by omega)
     have q4 : IntKind.i64.wrap ((i : Int) + 1) = (i : Int) + 1 := IntWalk.i64_in _ (by omega)
     obtain ⟨x, hx⟩ : ∃ x, gsA[i] = x := ⟨_, rfl⟩
     have hxm : x ∈ gsA := by rw [← hx]; exact List.getElem_mem _
     obtain ⟨⟨hc, hsrc, hdst⟩, hxd⟩ := HGA.out x hxm
     obtain ⟨x1, x2⟩ := x
     obtain ⟨ga, gn, gk, rfl, _⟩ := hv.rd (Mem.s hxd)
     have hp := cellsG_part gsA i hi
     rw [hx] at hp
     have HXV : Hid (((cellsG gsA).drop (i * 7)).take 7 = (#[.int .i64 x1.src, .int .i64 x1.dst, .int .u32 x1.seq, .int .u32 x1.ack, .int .i64 x1.fl, .int .i64 x1.wnd, .slice ga gn gk] : Array Value).toList) := Lib.hid hp
     have h7 : ∀ j, j < 7 → (cellsG gsA)[i * 7 + j]? = (Tp.encG (x1, .slice ga gn gk))[j]? := by
       intro j hj
       rw [← hp, List.getElem?_take, if_pos hj, List.getElem?_drop]
     have HX0 : Hid ((cellsG gsA)[i * 7 + 0]? = some (.int .i64 t.lo)) := Lib.hid (by rw [h7 0 (by decide), ← hsrc]; rfl)
     have HX1 : Hid ((cellsG gsA)[i * 7 + 1]? = some (.int .i64 t.po)) := Lib.hid (by rw [h7 1 (by decide), ← hdst]; rfl)
     have HDX := Lib.hid hxd
     have HCX := Lib.hid hc
     obtain ⟨ob, oo, _, _, e, _⟩ := (hv.rd (k := 7) (c := cellsG gsA) Mem.z).some (by rw [cellsG_len]; omega)
     cases e
     have HIN := Lib.hid hi
     have hkl : (i : Int) < (pn5' : Int) := by omega
     have hkm : i < pn5' := by omega
     clear hgl hpn hx hxm hc hsrc hdst hxd hp h7 hi0 hi
     go_wp2
     replace hv : Mem w _ ([(b_21, (rowT c5.t (.slice da5 dn5 dk5) (.slice ba5 bn5 bk5) (.slice pa5 pn5 pk5))), (b_17, (rowT c4.t (.slice da4 dn4 dk4) (.slice ba4 bn4 bk4) (.slice pa4 pn4 pk4))), (b_15, (rowT c3.t (.slice da3 dn3 dk3) (.slice ba3 bn3 bk3) (.slice pa3 pn3 pk3))), (b_13, (rowT c2.t (.slice da2 dn2 dk2) (.slice ba2 bn2 bk2) (.slice pa2 pn2 pk2))), (b_11, (rowT c1.t (.slice da1 dn1 dk1) (.slice ba1 bn1 bk1) (.slice pa1 pn1 pk1))), (b_6, _), (b_5, _)] ++ ([] : LV)) _ := hv
     try simp only [Act.put]
     refine Bny.wp_region_walk _ _ [⟨[], none⟩, ⟨[], none⟩, ⟨[], none⟩, ⟨[], none⟩, ⟨[], none⟩, ⟨[], none⟩, ⟨[], none⟩, ⟨[], none⟩, ⟨[], none⟩, ⟨[], none⟩, ⟨[], none⟩, ⟨[], none⟩, ⟨[], none⟩, ⟨[1006], none⟩, ⟨[], none⟩, ⟨[], none⟩, ⟨[], none⟩, ⟨[], none⟩, ⟨[], none⟩, ⟨[], none⟩, ⟨[], none⟩, ⟨[], none⟩, ⟨[], none⟩, ⟨[1006], none⟩] [.val] (by kernel_rfl) (by kernel_rfl) hv ?_
     simp only [List.length_cons, List.length_nil, Nat.zero_add, Any.someVals]
     iterate 26 apply Exists.intro
     repeat (first
       | (refine Bny.E_off rfl ?_; simp only [Act.put, sia, scs, scz])
       | (apply Bny.E_pureq rfl rfl rfl
          case h => intro K hK; go_big_quiet_op; (refine hK _ ?_; rfl)
          case hr => exact fun _ => rfl
          simp only [Act.put, sia, scs, scz])
       | (apply Bny.E_val rfl rfl rfl rfl
          case h =>
            intro E' hA K hK
            first
              | ((with_reducible refine Bny.at_qload (T := 42) ?_); refine Bny.q_rdv (kk := 7) (b := ob) (o := oo) (n := pn5') (cap := pk5') (c := cellsG gsA) (Or.inl Mem.z) hA (i * 7) rfl 7 _ Try.underlying42 rfl infoG7 (by decide) (#[.int .i64 x1.src, .int .i64 x1.dst, .int .u32 x1.seq, .int .u32 x1.ack, .int .i64 x1.fl, .int .i64 x1.wnd, .slice ga gn gk]) HXV.out rfl ?_; refine hK _ ?_; rfl)
              | ((with_reducible refine Bny.at_qload (T := 3) ?_); refine Bny.q_rd (k := 7) (b := ob) (o := oo) (n := pn5') (cap := pk5') (c := cellsG gsA) (Or.inl Mem.z) hA (i * 7 + 0) rfl _ Try.underlying3 rfl (.int .i64 t.lo) HX0.out ?_; refine hK _ ?_; rfl)
              | ((with_reducible refine Bny.at_qload (T := 3) ?_); refine Bny.q_rd (k := 7) (b := ob) (o := oo) (n := pn5') (cap := pk5') (c := cellsG gsA) (Or.inl Mem.z) hA (i * 7 + 1) rfl _ Try.underlying3 rfl (.int .i64 t.po) HX1.out ?_; refine hK _ ?_; rfl)
              | ((with_reducible refine Bny.at_qload (T := 3) ?_); refine Bny.q_ldc 1006 hA (by decide) rfl rfl _ Try.underlying3 rfl (.int .i64 t.lo) rfl ?_; refine hK _ ?_; rfl)
              | ((with_reducible refine Bny.at_qload (T := 3) ?_); refine Bny.q_ldc 1006 hA (by decide) rfl rfl _ Try.underlying3 rfl (.int .i64 t.po) rfl ?_; refine hK _ ?_; rfl)
              | (go_big_quiet_op; first
                | (refine hK _ ?_; rfl)
                | (refine ⟨_, fun _ _ => rfl, ?_⟩; refine hK _ ?_; rfl)
                | (apply Exists.intro; refine ⟨fun w1 hw1 => ?_, ?_⟩; · (first
                    | (go_at_call 24; exact Bny.calls_VE (RSC_rd (Bny.Known.rd (x := (1, Value.slice ga gn gk, cellsB x1.data)) (Or.inl (Mem.s HDX.out)) hA hw1) HCX.out) hw1))
                   refine hK _ ?_; rfl))
          case hD => rfl
          simp only [Act.put, sia, scs, scz]))
     try any_goals exact undef
     refine Bny.E_nil ?_
     intro w9 hE9
     replace hv : Mem w w9 ([(b_21, (rowT c5.t (.slice da5 dn5 dk5) (.slice ba5 bn5 bk5) (.slice pa5 pn5 pk5))), (b_17, (rowT c4.t (.slice da4 dn4 dk4) (.slice ba4 bn4 bk4) (.slice pa4 pn4 pk4))), (b_15, (rowT c3.t (.slice da3 dn3 dk3) (.slice ba3 bn3 bk3) (.slice pa3 pn3 pk3))), (b_13, (rowT c2.t (.slice da2 dn2 dk2) (.slice ba2 bn2 bk2) (.slice pa2 pn2 pk2))), (b_11, (rowT c1.t (.slice da1 dn1 dk1) (.slice ba1 bn1 bk1) (.slice pa1 pn1 pk1))), (b_6, #[.int .i64 src, .int .i64 dst, .int .u32 seq, .int .u32 ack, .int .i64 fl, .int .i64 swn, .slice sa sn sk]), (b_5, #[.int .i64 t.st, .int .i64 t.lo, .int .u32 t.ip, .int .i64 t.po, .int .u32 t.iss, .int .u32 t.una, .int .u32 t.nx, .slice da dn dk, .int .i64 t.wnd, .bool t.en, .bool t.se, .int .u32 t.inn.next, .slice ba bn bk, .slice pa pn pk, .bool t.ed, .int .u64 t.tm, .int .i64 t.rto, .int .i64 t.tr, .int .i64 t.er])] ++ ([] : LV)) _ := hE9.mem0 [1000, 1001, 1002, 1003, 1004, 1005, 1006] (by decide)
     clear hE9
     simp only [List.cons_append, List.nil_append] at hv
     go_wp2
     have hin := HIN.out
     go_roundw
     case rel => exact ⟨i + 1, by omega, by go_num, hv⟩
     case measure => simp [intOf]; omega
   · have y1 : decide ((i : Int) < (pn5' : Int)) = false := decide_eq_false (by omega)
     have z1 : decide (i < pn5') = false := decide_eq_false (by omega)
     clear hgl hpn hi0 hi
     go_wp2_with (first
       | ((with_reducible refine gLe 31 122 ?_); refine ldV hv b_11 19 Try.underlying31 infoT19 ?_)
       | ((with_reducible refine gLe 31 125 ?_); refine ldV hv b_13 19 Try.underlying31 infoT19 ?_)
       | ((with_reducible refine gLe 31 129 ?_); refine ldV hv b_15 19 Try.underlying31 infoT19 ?_)
       | ((with_reducible refine gLe 31 133 ?_); refine ldV hv b_17 19 Try.underlying31 infoT19 ?_)
       | ((with_reducible refine gLe 31 137 ?_); refine ldV hv b_21 19 Try.underlying31 infoT19 ?_)
       | (go_at_call 17; (first | (with_reducible refine (CkOK.use (row := (rowT c1.t (.slice da1 dn1 dk1) (.slice ba1 bn1 bk1) (.slice pa1 pn1 pk1))) HC1.out hv (fun x hx => Mem.s (HS5.out x (HS4.out x (HS3.out x (HS2.out x hx)))))).mono ?_) | (with_reducible refine (CkOK.use (row := (rowT c2.t (.slice da2 dn2 dk2) (.slice ba2 bn2 bk2) (.slice pa2 pn2 pk2))) HC2.out hv (fun x hx => Mem.s (HS5.out x (HS4.out x (HS3.out x hx))))).mono ?_) | (with_reducible refine (CkOK.use (row := (rowT c3.t (.slice da3 dn3 dk3) (.slice ba3 bn3 bk3) (.slice pa3 pn3 pk3))) HC3.out hv (fun x hx => Mem.s (HS5.out x (HS4.out x hx)))).mono ?_) | (with_reducible refine (CkOK.use (row := (rowT c4.t (.slice da4 dn4 dk4) (.slice ba4 bn4 bk4) (.slice pa4 pn4 pk4))) HC4.out hv (fun x hx => Mem.s (HS5.out x hx))).mono ?_) | (with_reducible refine (CkOK.use (row := (rowT c5.t (.slice da5 dn5 dk5) (.slice ba5 bn5 bk5) (.slice pa5 pn5 pk5))) HC5.out hv (fun x hx => Mem.s hx)).mono ?_)); rintro e w1 ⟨rfl, hn1⟩; replace hv := hv.new hn1; clear hn1)
       | (go_at_call 9; (with_reducible refine (heads26 _).mono ?_); rintro e w1 ⟨rfl, hn1⟩; replace hv := hv.new hn1; clear hn1))
     go_ret
     exact ⟨rfl, hv.below⟩
theorem TcpKeeps_any {W : World} {v : Value} {st lo po wnd rto tr er : Int} {ip iss una nx inx tm : Nat} {en se ed : Bool} {dv bv pv : Value} {D bs : List Nat} {l : List PcV} (hT : RdTc W v st lo po wnd rto tr er ip iss una nx inx tm en se ed dv bv pv D bs l) {xv sv : Value} {b E : List Nat} (hb : Rd W 1 xv (cellsB b)) {src dst fl swn n : Int} {seq ack : Nat} (hd : Rd W 1 sv (cellsB E)) (hsq : seq < 4294967296) (hak : ack < 4294967296) (hfl : -9223372036854775808 ≤ fl ∧ fl ≤ 9223372036854775807) (now : Nat) : Calls Try.prog 7 #[v, .agg #[.int .i64 src, .int .i64 dst, .int .u32 seq, .int .u32 ack, .int .i64 fl, .int .i64 swn, sv], xv, .int .i64 n, .int .u64 now] W (fun e w' => e = .returned (.bool true) ∧ New W w') := by
 obtain ⟨xa, xn, xk, rfl, _⟩ := id hb
 obtain ⟨sa, sn, sk, rfl, _⟩ := id hd
 obtain ⟨da, ba, pa, dn, dk, bn, bk, pn, pk, R, rfl, hv, hX, f, hF, h1⟩ := tcb_in hT [(1, .slice xa xn xk, cellsB b), (1, .slice sa sn sk, cellsB E)] (fun x hx => by
   rcases List.mem_cons.1 hx with rfl | hx
   · exact hb
   · rw [List.mem_singleton.1 hx]; exact hd)
 have hbm := hX _ (List.mem_cons_self ..)
 have hdm := hX _ (List.mem_cons_of_mem _ (List.mem_singleton_self _))
 cases f with
 | false => exact Keeps_a W R hv hF
 | true =>
   obtain ⟨c, hC, h2⟩ := h1 rfl
   cases c with
   | false => exact Keeps_b W R hv hF hC
   | true =>
     obtain ⟨t, hck, hI, rfl, rfl, rfl, rfl, rfl, rfl, rfl, rfl, rfl, rfl, rfl, rfl, rfl, rfl, rfl, rfl, rfl⟩ := h2 rfl
     by_cases h3 : 300 < sn
     · exact Keeps_c W R hv hF hC h3
     · by_cases hx : 600 < xn
       · exact Keeps_d W R hv hF hC h3 hx
       · exact Keeps_f W R hv hF hC hI hck hbm hdm hsq hak hfl h3 hx
end Go.Proofs.Ythenepdbgeafkaa
