import Derived.Test.YthenepdbgeafkaaGAS
import Derived.Test.YthenepdbgeafkaaGAT
import Derived.Test.YthenepdbgeafkaaGAW
set_option linter.unusedSimpArgs false
set_option linter.unusedVariables false
set_option maxRecDepth 100000
set_option maxHeartbeats 8000000
section
/-
 Connections (layer 26): one that begins; one that somebody begins.
-/
namespace Go.Proofs.Tp
open Go Go.RowKit Go.Proofs.Wi
def BegP (w0 : World) (L : List (Nat × Array Value)) (R : List (Nat × Value × List Value)) (nw : Nat) (c : C) (e : Ending) (w' : World) : Prop :=
 ∃ bc R', e = .returned (.pointer (some ⟨bc, 0, none⟩)) ∧ CM w0 w' bc L (R' ++ R) nw c
theorem has_20 : ∀ fl : Fin 32, bits .and .i64 ((fl.val : Nat) : Int) 20 = if has fl.val 16 = true ∨ has fl.val 4 = true then bits .and .i64 ((fl.val : Nat) : Int) 20 else 0 := by decide +kernel
theorem and_20 {fl : Nat} (h : fl ≤ 31) : bits .and .i64 (fl : Int) 20 = if has fl 16 = true ∨ has fl 4 = true then bits .and .i64 (fl : Int) 20 else 0 := has_20 ⟨fl, by omega⟩
theorem _root_.Go.Proofs.Wi.InS.next {R : List (Nat × Value × List Value)} {nx : Nat} {bv pv : Value} {s0 : Nat} {l : List PcV} (h : InS R nx bv pv ⟨s0, [], []⟩ l) (y : Nat) : InS R y bv pv ⟨y, [], []⟩ l := ⟨h.b, h.p, h.all, by have := h.ps; unfold stOf; rw [this]⟩
def RTA (w0 : World) (L : List (Nat × Array Value)) (R : List (Nat × Value × List Value)) (c : C) (e : Ending) (w' : World) : Prop :=
 ∃ R' vt ov, e = .returned (.tuple #[vt, ov, .bool true]) ∧ RT w0 w' L (R' ++ R) c vt ov
end Go.Proofs.Tp
namespace Go.Proofs.Ythenepdbgeafkaa
open Go.Proofs.Wi Go.RowKit Go.Proofs Go.Proofs.Tp
theorem built_tcb (a b c d e f g : Int) : Try.prog.built 31 [(0, .int .i64 a), (1, .int .i64 b), (2, .int .u32 c), (3, .int .i64 d), (4, .int .u32 e), (5, .int .u32 f), (6, .int .u32 g), (14, .int .i64 4)] = some #[.int .i64 a, .int .i64 b, .int .u32 c, .int .i64 d, .int .u32 e, .int .u32 f, .int .u32 g, .slice none 0 0, .int .i64 0, .bool false, .bool false, .int .u32 0, .slice none 0 0, .slice none 0 0, .bool false, .int .u64 0, .int .i64 4, .int .i64 0, .int .i64 0] := by kernel_rfl
theorem built_t0 : Try.prog.built 31 [] = some #[.int .i64 0, .int .i64 0, .int .u32 0, .int .i64 0, .int .u32 0, .int .u32 0, .int .u32 0, .slice none 0 0, .int .i64 0, .bool false, .bool false, .int .u32 0, .slice none 0 0, .slice none 0 0, .bool false, .int .u64 0, .int .i64 0, .int .i64 0, .int .i64 0] := by kernel_rfl
theorem begun_C {w0 w : World} {L : List (Nat × Array Value)} {R : List (Nat × Value × List Value)} (hv : Mem w0 w L R) {st lo ip po iss nw x1 : Nat} (hip : ip < 4294967296) (his : iss < 4294967296) (hx1 : Tp.u32 (iss + 1) = x1) : Calls Try.prog 43 #[.int .i64 st, .int .i64 lo, .int .u32 ip, .int .i64 po, .int .u32 iss, .int .u64 nw] w (BegP w0 L R nw ⟨(⟨st, lo, ip, po, iss, iss, x1, [], 0, false, false, ⟨0, [], []⟩, false, later nw 4, 4, 0, 0⟩ : T), []⟩) := by
 have hv9 := (hv.fresh (k := 2) (Below.refl _ _) (FR.nil _ _ 2)).fresh (k := 1) (Below.refl _ _) (FR.nil _ _ 1)
 clear hv
 have hv := hv9
 clear hv9
 have HIP := Lib.hid hip
 have HIS := Lib.hid his
 have HX1 : Hid (x1 < 4294967296) := Lib.hid (by rw [← hx1]; exact Tp.u32_lt _)
 have q1 : IntKind.u32.wrap ((iss : Int) + 1) = (x1 : Int) := by rw [← hx1]; unfold Tp.u32; simp [IntKind.wrap, IntKind.bits, IntKind.signed]
 clear hip his hx1
 go_enter Try.func43, Try.ntmps43
 go_wp2_with (first
   | ((with_reducible refine at_build (T := 31) ?_); refine wl_build rfl _ rfl (built_tcb _ _ _ _ _ _ _) ?_)
   | ((with_reducible refine at_build (T := 67) ?_); refine wl_build rfl _ rfl (built_con _ _ _ _ _ _ _ _ _ _ _ _ _ _ _ _ _ _ _ _) ?_)
   | ((with_reducible refine gBx 67 25 ?_); refine nwB hv #[.int .i64 st, .int .i64 lo, .int .u32 ip, .int .i64 po, .int .u32 iss, .int .u32 iss, .int .u32 x1, .slice none 0 0, .int .i64 0, .bool false, .bool false, .int .u32 0, .slice none 0 0, .slice none 0 0, .bool false, .int .u64 0, .int .i64 4, .int .i64 0, .int .i64 0, .int .u64 nw, .slice none 0 0] 67 ?_; clear hv; intro bc w2 hv)
   | (go_at_call 46; (refine (wait_4 (show CM w0 _ bc L _ nw ⟨(⟨st, lo, ip, po, iss, iss, x1, [], 0, false, false, ⟨0, [], []⟩, false, 0, 4, 0, 0⟩ : T), []⟩ from ⟨none, 0, 0, none, 0, 0, none, 0, 0, [], .slice none 0 0, [], [], hv, ⟨Mem.z, ⟨Mem.z, Mem.s Mem.z, fun p hp => (List.not_mem_nil hp).elim, rfl⟩, chk_empty 0 [] (Nat.zero_le _), ⟨HIS.out, HX1.out, HIS.out, (by show 0 < 4294967296; decide), HIP.out⟩⟩, ⟨OwnL.nil 7, fun x hx => (List.not_mem_nil hx).elim, rfl⟩⟩)).mono ?_); rintro e w1 ⟨R1, rfl, hc1⟩; have HC1 := Lib.hid hc1; clear hv hc1))
 go_ret
 exact ⟨bc, R1 ++ [_, _], rfl, by rw [List.append_assoc]; exact HC1.out⟩
theorem port_ok2 {n : Nat} (h1 : 1 ≤ n ∧ n ≤ 65535) (w : World) : Calls Try.prog 40 #[.int .i64 n] w fun e w' => e = .returned (.bool true) ∧ New w w' := port_ok h1.1 h1.2 w
theorem Connect_T {w0 w : World} {L : List (Nat × Array Value)} {R : List (Nat × Value × List Value)} (hv : Mem w0 w L R) {lo ip po iss nw : Nat} (h1 : 1 ≤ lo ∧ lo ≤ 65535) (h2 : 1 ≤ po ∧ po ≤ 65535) (hip : ip < 4294967296) (his : iss < 4294967296) : Calls Try.prog 18 #[.int .i64 lo, .int .u32 ip, .int .i64 po, .int .u32 iss, .int .u64 nw] w (RTP w0 L R (connect lo ip po iss nw)) := by
 obtain ⟨x1, hx1⟩ : ∃ x, Tp.u32 (iss + 1) = x := ⟨_, rfl⟩
 have e : connect lo ip po iss nw = send 2 iss [] ⟨(⟨1, lo, ip, po, iss, iss, x1, [], 0, false, false, ⟨0, [], []⟩, false, later nw 4, 4, 0, 0⟩ : T), []⟩ := by unfold connect Tp.begun; rw [hx1]
 rw [e]
 have HIP := Lib.hid hip
 have HIS := Lib.hid his
 have HX1 := Lib.hid hx1
 have H1 := Lib.hid h1
 have H2 := Lib.hid h2
 clear hip his hx1 h1 h2 e
 go_enter Try.func18, Try.ntmps18
 go_wp2_with (first
   | ((with_reducible refine gAl 31 10 ?_); refine nwB hv #[.int .i64 0, .int .i64 0, .int .u32 0, .int .i64 0, .int .u32 0, .int .u32 0, .int .u32 0, .slice none 0 0, .int .i64 0, .bool false, .bool false, .int .u32 0, .slice none 0 0, .slice none 0 0, .bool false, .int .u64 0, .int .i64 0, .int .i64 0, .int .i64 0] 31 ?_; clear hv; intro b_10 w2 hv)
   | (go_at_call 40; (with_reducible refine (port_ok2 H1.out _).mono ?_); rintro e w1 ⟨rfl, hn1⟩; replace hv := hv.new hn1; clear hn1)
   | (go_at_call 40; (with_reducible refine (port_ok2 H2.out _).mono ?_); rintro e w1 ⟨rfl, hn1⟩; replace hv := hv.new hn1; clear hn1)
   | (go_at_call 43; (refine (begun_C (st := 1) (lo := lo) (po := po) hv HIP.out HIS.out HX1.out).mono ?_); rintro e w1 ⟨bc, R1, rfl, hc1⟩; obtain ⟨da1, dn1, dk1, ba1, bn1, bk1, pa1, pn1, pk1, l1, ov1, gs1, O1, hv1, hI1, hO1⟩ := CM.back (A := [_]) hc1; clear hv hc1; have hv : Mem w0 _ ([_] ++ (bc, #[.int .i64 1, .int .i64 lo, .int .u32 ip, .int .i64 po, .int .u32 iss, .int .u32 iss, .int .u32 x1, .slice da1 dn1 dk1, .int .i64 0, .bool false, .bool false, .int .u32 0, .slice ba1 bn1 bk1, .slice pa1 pn1 pk1, .bool false, .int .u64 (later nw 4 : Nat), .int .i64 4, .int .i64 0, .int .i64 0, .int .u64 nw, ov1]) :: (O1 ++ L)) _ := hv1; clear hv1; have HI1 := Lib.hid hI1; have HO1 := Lib.hid hO1; clear hI1 hO1; simp only [List.cons_append, List.nil_append] at hv)
   | (go_at_call 44; (refine (snn2 (CM.of (A := [_]) (c := ⟨(⟨1, lo, ip, po, iss, iss, x1, [], 0, false, false, ⟨0, [], []⟩, false, later nw 4, 4, 0, 0⟩ : T), []⟩) hv HI1.out HO1.out) (by decide)).mono ?_); rintro e w1 ⟨R3, rfl, hc1⟩; obtain ⟨da3, dn3, dk3, ba3, bn3, bk3, pa3, pn3, pk3, l3, ov3, gs3, O3, hv1, hI1, hO1⟩ := CM.back (A := [_]) hc1; clear hv hc1; have hv : Mem w0 _ ([_] ++ (bc, #[.int .i64 1, .int .i64 lo, .int .u32 ip, .int .i64 po, .int .u32 iss, .int .u32 iss, .int .u32 x1, .slice da3 dn3 dk3, .int .i64 0, .bool false, .bool false, .int .u32 0, .slice ba3 bn3 bk3, .slice pa3 pn3 pk3, .bool false, .int .u64 (later nw 4 : Nat), .int .i64 4, .int .i64 0, .int .i64 0, .int .u64 nw, ov3]) :: (O3 ++ L)) _ := hv1; clear hv1; have HI3 := Lib.hid hI1; have HO3 := Lib.hid hO1; clear hI1 hO1; simp only [List.cons_append, List.nil_append] at hv))
 try simp only [Act.put, sia, scs, scz]
 refine Any.wr2 10 [(3, [1001], none), (7, [1001], none), (8, [1000], some 1000)] [(8, .put)] hv ?_
 simp only [Any.someVals]
 iterate 10 apply Exists.intro
 repeat ((first
  | refine Any.E_off rfl ?_
  | (apply Any.E_val rfl rfl rfl rfl
     case h =>
      intro E' hA K hK
      first
       | ((with_reducible refine Any.at_qload (T := 31) ?_); refine Any.q_ldp 1001 hA (by decide) rfl rfl 19 _ Try.underlying31 rfl infoT19 (by decide) (show 0 + 19 ≤ 21 from by decide) (#[.int .i64 1, .int .i64 lo, .int .u32 ip, .int .i64 po, .int .u32 iss, .int .u32 iss, .int .u32 x1, .slice da3 dn3 dk3, .int .i64 0, .bool false, .bool false, .int .u32 0, .slice ba3 bn3 bk3, .slice pa3 pn3 pk3, .bool false, .int .u64 (later nw 4 : Nat), .int .i64 4, .int .i64 0, .int .i64 0]) (ext21 _ _ _ _ _ _ _ _ _ _ _ _ _ _ _ _ _ _ _ _ _) ?_; refine hK _ ?_; rfl)
       | ((with_reducible refine Any.at_qload (T := 32) ?_); refine Any.q_ldc 1001 hA (by decide) rfl rfl _ Try.underlying32 rfl (ov3) rfl ?_; refine hK _ ?_; rfl)
     case hD => rfl)
  | refine Any.eV ?_
  | ((with_reducible refine Any.at_estore (T := 31) ?_); refine Any.E_putv (T := 31) rfl rfl rfl rfl rfl rfl 19 infoT19 rfl rfl (by simp [Value.oneCell']) ?_)); simp only [Act.put, sia, scs, scz])
 try any_goals exact undef
 refine Any.fin2 hv [1000, 1001] ?_; clear hv; intro w9 hv
 go_wp2
 try simp only [Exit.inBlock, Exit.then]
 refine ret_cell2 (v := .agg #[.int .i64 1, .int .i64 lo, .int .u32 ip, .int .i64 po, .int .u32 iss, .int .u32 iss, .int .u32 x1, .slice da3 dn3 dk3, .int .i64 0, .bool false, .bool false, .int .u32 0, .slice ba3 bn3 bk3, .slice pa3 pn3 pk3, .bool false, .int .u64 (later nw 4 : Nat), .int .i64 4, .int .i64 0, .int .i64 0]) (v1 := ov3) rfl rfl (read_row _ b_10 31 _ (hv.vars.ro (b := b_10)) 19 _ Try.underlying31 rfl infoT19 (by decide) rfl) rfl rfl ?_
 exact ⟨R3 ++ R1, _, ov3, rfl, _, _, _, _, _, _, _, _, _, l3, gs3, O3, rfl, by rw [List.append_assoc]; exact hv.drop.drop, by rw [List.append_assoc]; exact HI3.out, by rw [List.append_assoc]; exact HO3.out⟩
theorem Accept_T {w0 w : World} {L : List (Nat × Array Value)} {R : List (Nat × Value × List Value)} (hv : Mem w0 w L R) {lo ip iss nw : Nat} {g : G} {sa : Option Addr} {sn sk : Nat} (hg : InG R g sa sn sk) (hd : g.dst = lo) (h2 : has g.fl 2 = true) (h16 : has g.fl 16 = false) (h4 : has g.fl 4 = false) (hip : ip < 4294967296) (his : iss < 4294967296) : Calls Try.prog 20 #[.int .i64 lo, .int .u32 ip, .int .u32 iss, .agg #[.int .i64 (g.src : Nat), .int .i64 (g.dst : Nat), .int .u32 (g.seq : Nat), .int .u32 (g.ack : Nat), .int .i64 (g.fl : Nat), .int .i64 (g.wnd : Nat), .slice sa sn sk], .int .u64 nw] w (RTA w0 L R (accept lo ip iss nw g)) := by
 obtain ⟨x1, hx1⟩ : ∃ x, Tp.u32 (iss + 1) = x := ⟨_, rfl⟩
 obtain ⟨y1, hy1⟩ : ∃ x, Tp.u32 (g.seq + 1) = x := ⟨_, rfl⟩
 have e : accept lo ip iss nw g = send 18 iss [] ⟨(⟨2, lo, ip, g.src, iss, iss, x1, [], g.wnd, false, false, ⟨y1, [], []⟩, false, later nw 4, 4, 0, 0⟩ : T), []⟩ := by
   unfold accept Tp.begun
   show send 18 iss [] ⟨(⟨2, lo, ip, g.src, iss, iss, Tp.u32 (iss + 1), [], g.wnd, false, false, ⟨Tp.u32 (g.seq + 1), [], []⟩, false, later nw 4, 4, 0, 0⟩ : T), []⟩ = _
   rw [hx1, hy1]
 rw [e]
 have hsn : g.data.length = sn := len_rd1 (hv.rd hg.d)
 have HSK : Hid (∀ w, Calls Try.prog 32 #[.agg #[.int .i64 (g.src : Nat), .int .i64 (g.dst : Nat), .int .u32 (g.seq : Nat), .int .u32 (g.ack : Nat), .int .i64 (g.fl : Nat), .int .i64 (g.wnd : Nat), .slice sa sn sk]] w fun e w' => e = .returned (.bool true) ∧ New w w') := Lib.hid (fun w => by
   have h := chkG_facts hg.ck
   have := SCheck_any (.int .u32 (g.seq : Nat)) (.int .u32 (g.ack : Nat)) g.src g.dst g.fl g.wnd (by omega) (dn := sn) (dk := sk) (da := sa) w
   have hI : chkI g.src g.dst g.fl g.wnd g.data.length = true := decide_eq_true (by omega)
   rw [← hsn, hI] at this
   rw [← hsn]
   exact this)
 have hfl := (chkG_facts hg.ck).2.2.2.2.1
 have z1 : ((g.dst : Int) != (lo : Int)) = false := by rw [hd]; simp
 have z2 : bits .and .i64 (g.fl : Int) 2 = 2 := by rw [and_2 hfl, if_pos h2]
 have z3 : bits .and .i64 (g.fl : Int) 20 = 0 := by rw [and_20 hfl, if_neg (fun h => by rcases h with h | h; rw [h16] at h; cases h; rw [h4] at h; cases h)]
 have q1 : IntKind.u32.wrap ((g.seq : Int) + 1) = (y1 : Int) := by rw [← hy1]; unfold Tp.u32; simp [IntKind.wrap, IntKind.bits, IntKind.signed]
 have HY1 : Hid (y1 < 4294967296) := Lib.hid (by rw [← hy1]; exact Tp.u32_lt _)
 have HIP := Lib.hid hip
 have HIS := Lib.hid his
 have HX1 := Lib.hid hx1
 have HG := Lib.hid hg
 clear hip his hx1 hg hd h2 h16 h4 e hsn hfl hy1
 go_enter Try.func20, Try.ntmps20
 go_wp2_with (first
   | ((with_reducible refine gBx 42 8 ?_); refine nwB hv #[.int .i64 (g.src : Nat), .int .i64 (g.dst : Nat), .int .u32 (g.seq : Nat), .int .u32 (g.ack : Nat), .int .i64 (g.fl : Nat), .int .i64 (g.wnd : Nat), .slice sa sn sk] 42 ?_; clear hv; intro b_8 w2 hv)
   | ((with_reducible refine gAl 31 10 ?_); refine nwB hv #[.int .i64 0, .int .i64 0, .int .u32 0, .int .i64 0, .int .u32 0, .int .u32 0, .int .u32 0, .slice none 0 0, .int .i64 0, .bool false, .bool false, .int .u32 0, .slice none 0 0, .slice none 0 0, .bool false, .int .u64 0, .int .i64 0, .int .i64 0, .int .i64 0] 31 ?_; clear hv; intro b_10 w2 hv)
   | ((with_reducible refine gLd 42 ?_); refine ldV hv b_8 7 Try.underlying42 infoG7 ?_)
   | (go_at_call 32; (with_reducible refine (HSK.out _).mono ?_); rintro e w1 ⟨rfl, hn1⟩; replace hv := hv.new hn1; clear hn1)
   | ((with_reducible refine gLd 3 ?_); refine ldC hv b_8 1 (.int .i64 (g.dst : Nat)) Try.underlying3 ?_)
   | ((with_reducible refine gLd 3 ?_); refine ldC hv b_8 4 (.int .i64 (g.fl : Nat)) Try.underlying3 ?_)
   | ((with_reducible refine gLd 3 ?_); refine ldC hv b_8 0 (.int .i64 (g.src : Nat)) Try.underlying3 ?_)
   | (go_at_call 43; (refine (begun_C (st := 2) (lo := lo) (po := g.src) hv HIP.out HIS.out HX1.out).mono ?_); rintro e w1 ⟨bc, R1, rfl, hc1⟩; obtain ⟨da1, dn1, dk1, ba1, bn1, bk1, pa1, pn1, pk1, l1, ov1, gs1, O1, hv1, hI1, hO1⟩ := CM.back (A := [_, _]) hc1; clear hv hc1; have hv : Mem w0 _ ([_, _] ++ (bc, #[.int .i64 2, .int .i64 lo, .int .u32 ip, .int .i64 (g.src : Nat), .int .u32 iss, .int .u32 iss, .int .u32 x1, .slice da1 dn1 dk1, .int .i64 0, .bool false, .bool false, .int .u32 0, .slice ba1 bn1 bk1, .slice pa1 pn1 pk1, .bool false, .int .u64 (later nw 4 : Nat), .int .i64 4, .int .i64 0, .int .i64 0, .int .u64 nw, ov1]) :: (O1 ++ L)) _ := hv1; clear hv1; have HI1 := Lib.hid hI1; have HO1 := Lib.hid hO1; clear hI1 hO1; simp only [List.cons_append, List.nil_append] at hv))
 clear HSK
 try simp only [Act.put, sia, scs, scz]
 refine Any.wr3 16 [(3, [1001], none), (6, [1001], none), (11, [1002], some 1002), (15, [1002], some 1002)] [(11, .put), (15, .put)] hv ?_
 simp only [Any.someVals]
 iterate 16 apply Exists.intro
 repeat ((first
  | refine Any.E_off rfl ?_
  | ((with_reducible refine Any.gE 22 ?_); refine Any.eC 1001 (.int .u32 (g.seq : Nat)) Try.underlying22 ?_)
  | ((with_reducible refine Any.gE 3 ?_); refine Any.eC 1001 (.int .i64 (g.wnd : Nat)) Try.underlying3 ?_)
  | refine Any.eV ?_
  | ((with_reducible refine Any.at_estore (T := 22) ?_); refine Any.E_putc (T := 22) (v := .int .u32 y1) rfl rfl rfl rfl rfl rfl (by kernel_rfl) rfl (by first | (show 11 < 21; decide) | (show 8 < 21; decide)) ?_)
  | ((with_reducible refine Any.at_estore (T := 3) ?_); refine Any.E_putc (T := 3) (v := .int .i64 (g.wnd : Nat)) rfl rfl rfl rfl rfl rfl (by kernel_rfl) rfl (by first | (show 11 < 21; decide) | (show 8 < 21; decide)) ?_)); simp only [Act.put, sia, scs, scz])
 try any_goals exact undef
 refine Any.fin3 hv [1000, 1001, 1002] ?_; clear hv; intro w9 hv
 have HI2 : Hid (InC (R1 ++ R) (⟨2, lo, ip, g.src, iss, iss, x1, [], g.wnd, false, false, ⟨y1, [], []⟩, false, later nw 4, 4, 0, 0⟩ : T) da1 dn1 dk1 ba1 bn1 bk1 pa1 pn1 pk1 l1) := Lib.hid ⟨HI1.out.d, HI1.out.s.next y1, chk_empty y1 [] (Nat.zero_le _), ⟨HI1.out.u.una, HI1.out.u.nx, HI1.out.u.iss, HY1.out, HI1.out.u.ip⟩⟩
 go_wp2_with (first
   | (go_at_call 44; (refine (snn18 (CM.of (A := [_, _]) (c := ⟨(⟨2, lo, ip, g.src, iss, iss, x1, [], g.wnd, false, false, ⟨y1, [], []⟩, false, later nw 4, 4, 0, 0⟩ : T), []⟩) hv HI2.out HO1.out) (by decide)).mono ?_); rintro e w1 ⟨R3, rfl, hc1⟩; obtain ⟨da3, dn3, dk3, ba3, bn3, bk3, pa3, pn3, pk3, l3, ov3, gs3, O3, hv1, hI1, hO1⟩ := CM.back (A := [_, _]) hc1; clear hv hc1; have hv : Mem w0 _ ([_, _] ++ (bc, #[.int .i64 2, .int .i64 lo, .int .u32 ip, .int .i64 (g.src : Nat), .int .u32 iss, .int .u32 iss, .int .u32 x1, .slice da3 dn3 dk3, .int .i64 (g.wnd : Nat), .bool false, .bool false, .int .u32 y1, .slice ba3 bn3 bk3, .slice pa3 pn3 pk3, .bool false, .int .u64 (later nw 4 : Nat), .int .i64 4, .int .i64 0, .int .i64 0, .int .u64 nw, ov3]) :: (O3 ++ L)) _ := hv1; clear hv1; have HI3 := Lib.hid hI1; have HO3 := Lib.hid hO1; clear hI1 hO1; simp only [List.cons_append, List.nil_append] at hv))
 try simp only [Act.put, sia, scs, scz]
 refine Any.wr3 11 [(3, [1002], none), (7, [1002], none), (8, [1000], some 1000)] [(8, .put)] hv ?_
 simp only [Any.someVals]
 iterate 11 apply Exists.intro
 repeat ((first
  | refine Any.E_off rfl ?_
  | (apply Any.E_val rfl rfl rfl rfl
     case h =>
      intro E' hA K hK
      first
       | ((with_reducible refine Any.at_qload (T := 31) ?_); refine Any.q_ldp 1002 hA (by decide) rfl rfl 19 _ Try.underlying31 rfl infoT19 (by decide) (show 0 + 19 ≤ 21 from by decide) (#[.int .i64 2, .int .i64 lo, .int .u32 ip, .int .i64 (g.src : Nat), .int .u32 iss, .int .u32 iss, .int .u32 x1, .slice da3 dn3 dk3, .int .i64 (g.wnd : Nat), .bool false, .bool false, .int .u32 y1, .slice ba3 bn3 bk3, .slice pa3 pn3 pk3, .bool false, .int .u64 (later nw 4 : Nat), .int .i64 4, .int .i64 0, .int .i64 0]) (ext21 _ _ _ _ _ _ _ _ _ _ _ _ _ _ _ _ _ _ _ _ _) ?_; refine hK _ ?_; rfl)
       | ((with_reducible refine Any.at_qload (T := 32) ?_); refine Any.q_ldc 1002 hA (by decide) rfl rfl _ Try.underlying32 rfl (ov3) rfl ?_; refine hK _ ?_; rfl)
     case hD => rfl)
  | refine Any.eV ?_
  | ((with_reducible refine Any.at_estore (T := 31) ?_); refine Any.E_putv (T := 31) rfl rfl rfl rfl rfl rfl 19 infoT19 rfl rfl (by simp [Value.oneCell']) ?_)); simp only [Act.put, sia, scs, scz])
 try any_goals exact undef
 refine Any.fin3 hv [1000, 1001, 1002] ?_; clear hv; intro w9 hv
 go_wp2
 try simp only [Exit.inBlock, Exit.then]
 refine ret_cell3 (v := .agg #[.int .i64 2, .int .i64 lo, .int .u32 ip, .int .i64 (g.src : Nat), .int .u32 iss, .int .u32 iss, .int .u32 x1, .slice da3 dn3 dk3, .int .i64 (g.wnd : Nat), .bool false, .bool false, .int .u32 y1, .slice ba3 bn3 bk3, .slice pa3 pn3 pk3, .bool false, .int .u64 (later nw 4 : Nat), .int .i64 4, .int .i64 0, .int .i64 0]) (v1 := ov3) (v2 := .bool true) rfl rfl (read_row _ b_10 31 _ (hv.vars.ro (b := b_10)) 19 _ Try.underlying31 rfl infoT19 (by decide) rfl) rfl rfl rfl ?_
 exact ⟨R3 ++ R1, _, ov3, rfl, _, _, _, _, _, _, _, _, _, l3, gs3, O3, rfl, by rw [List.append_assoc]; exact hv.drop.drop.drop, by rw [List.append_assoc]; exact HI3.out, by rw [List.append_assoc]; exact HO3.out⟩
end Go.Proofs.Ythenepdbgeafkaa
end

section
/-
 The reference (layer 26): which connections may be.
-/
namespace Go.Proofs.Tp
open Go Go.RowKit Go.Proofs.Wi
inductive BadI (st lo po wnd rto tr er : Int) (dn tm : Nat) (en se ck : Bool) : Prop
 | a1 (h : st < 0)
 | a2 (g1 : ¬ st < 0) (h : 9 < st)
 | a3 (g1 : ¬ st < 0) (g2 : ¬ 9 < st) (h : ¬ (1 ≤ lo ∧ lo ≤ 65535))
 | a4 (g1 : ¬ st < 0) (g2 : ¬ 9 < st) (g3 : 1 ≤ lo ∧ lo ≤ 65535) (h : ¬ (1 ≤ po ∧ po ≤ 65535))
 | a5 (g1 : ¬ st < 0) (g2 : ¬ 9 < st) (g3 : 1 ≤ lo ∧ lo ≤ 65535) (g4 : 1 ≤ po ∧ po ≤ 65535) (h : ¬ dn ≤ 256)
 | a6 (g1 : ¬ st < 0) (g2 : ¬ 9 < st) (g3 : 1 ≤ lo ∧ lo ≤ 65535) (g4 : 1 ≤ po ∧ po ≤ 65535) (g5 : dn ≤ 256) (h : wnd < 0)
 | a7 (g1 : ¬ st < 0) (g2 : ¬ 9 < st) (g3 : 1 ≤ lo ∧ lo ≤ 65535) (g4 : 1 ≤ po ∧ po ≤ 65535) (g5 : dn ≤ 256) (g6 : ¬ wnd < 0) (h : 65535 < wnd)
 | a8 (g1 : ¬ st < 0) (g2 : ¬ 9 < st) (g3 : 1 ≤ lo ∧ lo ≤ 65535) (g4 : 1 ≤ po ∧ po ≤ 65535) (g5 : dn ≤ 256) (g6 : ¬ wnd < 0) (g7 : ¬ 65535 < wnd) (h : ck = false)
theorem bad_or (st lo po wnd rto tr er : Int) (dn tm : Nat) (en se ck : Bool) : BadI st lo po wnd rto tr er dn tm en se ck ∨ (¬ st < 0 ∧ ¬ 9 < st ∧ (1 ≤ lo ∧ lo ≤ 65535) ∧ (1 ≤ po ∧ po ≤ 65535) ∧ dn ≤ 256 ∧ ¬ wnd < 0 ∧ ¬ 65535 < wnd ∧ ck = true) := by
 by_cases h1 : st < 0
 · exact .inl (.a1 h1)
 by_cases h2 : 9 < st
 · exact .inl (.a2 h1 h2)
 by_cases h3 : 1 ≤ lo ∧ lo ≤ 65535
 rotate_left
 · exact .inl (.a3 h1 h2 h3)
 by_cases h4 : 1 ≤ po ∧ po ≤ 65535
 rotate_left
 · exact .inl (.a4 h1 h2 h3 h4)
 by_cases h5 : dn ≤ 256
 rotate_left
 · exact .inl (.a5 h1 h2 h3 h4 h5)
 by_cases h6 : wnd < 0
 · exact .inl (.a6 h1 h2 h3 h4 h5 h6)
 by_cases h7 : 65535 < wnd
 · exact .inl (.a7 h1 h2 h3 h4 h5 h6 h7)
 cases ck with
 | false => exact .inl (.a8 h1 h2 h3 h4 h5 h6 h7 rfl)
 | true => exact .inr ⟨h1, h2, h3, h4, h5, h6, h7, rfl⟩
inductive BadJ (st rto tr er : Int) (tm : Nat) (en se : Bool) : Prop
 | b1 (h : ¬ tm ≤ 1099511627776)
 | b2 (g1 : tm ≤ 1099511627776) (h : rto < 1)
 | b3 (g1 : tm ≤ 1099511627776) (g2 : ¬ rto < 1) (h : 64 < rto)
 | b4 (g1 : tm ≤ 1099511627776) (g2 : ¬ rto < 1) (g3 : ¬ 64 < rto) (h : tr < 0)
 | b5 (g1 : tm ≤ 1099511627776) (g2 : ¬ rto < 1) (g3 : ¬ 64 < rto) (g4 : ¬ tr < 0) (h : 12 < tr)
 | b6 (g1 : tm ≤ 1099511627776) (g2 : ¬ rto < 1) (g3 : ¬ 64 < rto) (g4 : ¬ tr < 0) (g5 : ¬ 12 < tr) (h : er < 0)
 | b7 (g1 : tm ≤ 1099511627776) (g2 : ¬ rto < 1) (g3 : ¬ 64 < rto) (g4 : ¬ tr < 0) (g5 : ¬ 12 < tr) (g6 : ¬ er < 0) (h : 1000 < er)
 | b8 (g1 : tm ≤ 1099511627776) (g2 : ¬ rto < 1) (g3 : ¬ 64 < rto) (g4 : ¬ tr < 0) (g5 : ¬ 12 < tr) (g6 : ¬ er < 0) (g7 : ¬ 1000 < er) (h : se = true) (h2 : en = false)
theorem badj_or (st rto tr er : Int) (tm : Nat) (en se : Bool) : BadJ st rto tr er tm en se ∨ (tm ≤ 1099511627776 ∧ ¬ rto < 1 ∧ ¬ 64 < rto ∧ ¬ tr < 0 ∧ ¬ 12 < tr ∧ ¬ er < 0 ∧ ¬ 1000 < er ∧ (se = true → en = true)) := by
 by_cases h1 : tm ≤ 1099511627776
 rotate_left
 · exact .inl (.b1 h1)
 by_cases h2 : rto < 1
 · exact .inl (.b2 h1 h2)
 by_cases h3 : 64 < rto
 · exact .inl (.b3 h1 h2 h3)
 by_cases h4 : tr < 0
 · exact .inl (.b4 h1 h2 h3 h4)
 by_cases h5 : 12 < tr
 · exact .inl (.b5 h1 h2 h3 h4 h5)
 by_cases h6 : er < 0
 · exact .inl (.b6 h1 h2 h3 h4 h5 h6)
 by_cases h7 : 1000 < er
 · exact .inl (.b7 h1 h2 h3 h4 h5 h6 h7)
 cases hs : se with
 | false => exact .inr ⟨h1, h2, h3, h4, h5, h6, h7, fun h => by cases h⟩
 | true =>
   cases he : en with
   | false => subst hs; subst he; exact .inl (.b8 h1 h2 h3 h4 h5 h6 h7 rfl rfl)
   | true => exact .inr ⟨h1, h2, h3, h4, h5, h6, h7, fun _ => rfl⟩
end Go.Proofs.Tp
namespace Go.Proofs.Ythenepdbgeafkaa
open Go.Proofs.Wi Go.RowKit Go.Proofs Go.Proofs.Tp
theorem RCheck_bad {w0 w : World} {L : List (Nat × Array Value)} {R : List (Nat × Value × List Value)} (hv : Mem w0 w L R) {st lo po wnd rto tr er : Int} {ip iss una nx inx tm : Nat} {en se ed : Bool} {da ba pa : Option Addr} {dn dk bn bk pn pk : Nat} {s : St} {l : List PcV} (hs : InS R inx (.slice ba bn bk) (.slice pa pn pk) s l) (hf : fewB s.bytes l = true) (hnx : inx < 4294967296) (hsq : ∀ p ∈ l, p.1 < 4294967296) (h : BadI st lo po wnd rto tr er dn tm en se (chk s)) : Calls Try.prog 22 #[.agg #[.int .i64 st, .int .i64 lo, .int .u32 ip, .int .i64 po, .int .u32 iss, .int .u32 una, .int .u32 nx, .slice da dn dk, .int .i64 wnd, .bool en, .bool se, .int .u32 inx, .slice ba bn bk, .slice pa pn pk, .bool ed, .int .u64 tm, .int .i64 rto, .int .i64 tr, .int .i64 er]] w fun e w' => e = .returned (.bool false) ∧ New w w' := by
 have HR : Hid (∀ w1, New w w1 → Calls Try.prog 50 #[.agg #[.int .u32 inx, .slice ba bn bk, .slice pa pn pk]] w1 fun e w' => e = .returned (.bool (chk s)) ∧ New w1 w') := Lib.hid (fun w1 hn => RCheck_S (hv.new hn) hs hf hnx hsq)
 have hv0 := hv
 clear hv
 have hv := Mem.nil w
 rcases h with ⟨h⟩ | ⟨g1, h⟩ | ⟨g1, g2, k3⟩ | ⟨g1, g2, g3, k4⟩ | ⟨g1, g2, g3, g4, h⟩ | ⟨g1, g2, g3, g4, g5, h⟩ | ⟨g1, g2, g3, g4, g5, g6, h⟩ | ⟨g1, g2, g3, g4, g5, g6, g7, h8⟩
 all_goals try (have G3 := Lib.hid g3; clear g3)
 all_goals try (have G4 := Lib.hid g4; clear g4)
 all_goals try (have H3 := Lib.hid k3; clear k3)
 all_goals try (have H4 := Lib.hid k4; clear k4)
 all_goals try (rw [h8] at HR; clear h8)
 all_goals try (have y1 : (256 : Int) < (dn : Int) := (by omega))
 all_goals try (have y1 : decide ((256 : Int) < (dn : Int)) = false := decide_eq_false (by omega))
 all_goals try (have y2 : decide (256 < dn) = false := decide_eq_false (by omega))
 all_goals try (have zg6 : decide (wnd < 0) = false := decide_eq_false (by omega))
 all_goals try (have zg7 : decide (65535 < wnd) = false := decide_eq_false (by omega))
 all_goals clear hs hf hnx hsq hv0
 all_goals
   go_enter Try.func22, Try.ntmps22
   go_wp2_with (first
     | ((with_reducible refine gBx 31 1 ?_); refine nwB hv #[.int .i64 st, .int .i64 lo, .int .u32 ip, .int .i64 po, .int .u32 iss, .int .u32 una, .int .u32 nx, .slice da dn dk, .int .i64 wnd, .bool en, .bool se, .int .u32 inx, .slice ba bn bk, .slice pa pn pk, .bool ed, .int .u64 tm, .int .i64 rto, .int .i64 tr, .int .i64 er] 31 ?_; clear hv; intro b_1 w2 hv)
     | ((with_reducible refine gLd 3 ?_); refine ldC hv b_1 0 (.int .i64 st) Try.underlying3 ?_)
     | ((with_reducible refine gLd 3 ?_); refine ldC hv b_1 1 (.int .i64 lo) Try.underlying3 ?_)
     | ((with_reducible refine gLd 3 ?_); refine ldC hv b_1 3 (.int .i64 po) Try.underlying3 ?_)
     | ((with_reducible refine gLd 23 ?_); refine ldC hv b_1 7 (.slice da dn dk) Try.underlying23 ?_)
     | ((with_reducible refine gLd 3 ?_); refine ldC hv b_1 8 (.int .i64 wnd) Try.underlying3 ?_)
     | ((with_reducible refine at_load (T := 27) ?_); refine wl_ldp rfl b_1 11 rfl _ hv.vars.ro 3 _ Try.underlying27 rfl infoStr (by decide) (by show 11 + 3 ≤ 19; decide) (#[.int .u32 inx, .slice ba bn bk, .slice pa pn pk]) (ext19s _ _ _ _ _ _ _ _ _ _ _ _ _ _ _ _ _ _ _) ?_)
     | (go_at_call 49; (with_reducible refine (rport_ok G3.out _).mono ?_); rintro e w1 ⟨rfl, hn1⟩; replace hv := hv.new hn1; clear hn1)
     | (go_at_call 49; (with_reducible refine (rport_no H3.out _).mono ?_); rintro e w1 ⟨rfl, hn1⟩; replace hv := hv.new hn1; clear hn1)
     | (go_at_call 49; (with_reducible refine (rport_ok G4.out _).mono ?_); rintro e w1 ⟨rfl, hn1⟩; replace hv := hv.new hn1; clear hn1)
     | (go_at_call 49; (with_reducible refine (rport_no H4.out _).mono ?_); rintro e w1 ⟨rfl, hn1⟩; replace hv := hv.new hn1; clear hn1)
     | (go_at_call 50; (with_reducible refine (HR.out _ hv.below).mono ?_); rintro e w1 ⟨rfl, hn1⟩; replace hv := hv.new hn1; clear hn1))
   go_ret
   exact ⟨rfl, hv.below⟩
theorem RCheck_badj {w0 w : World} {L : List (Nat × Array Value)} {R : List (Nat × Value × List Value)} (hv : Mem w0 w L R) {st lo po wnd rto tr er : Int} {ip iss una nx inx tm : Nat} {en se ed : Bool} {da ba pa : Option Addr} {dn dk bn bk pn pk : Nat} {s : St} {l : List PcV} (hs : InS R inx (.slice ba bn bk) (.slice pa pn pk) s l) (hf : fewB s.bytes l = true) (hnx : inx < 4294967296) (hsq : ∀ p ∈ l, p.1 < 4294967296) (h1 : ¬ st < 0) (h2 : ¬ 9 < st) (h3 : 1 ≤ lo ∧ lo ≤ 65535) (h4 : 1 ≤ po ∧ po ≤ 65535) (h5 : dn ≤ 256) (h6 : ¬ wnd < 0) (h7 : ¬ 65535 < wnd) (h8 : chk s = true) (h : BadJ st rto tr er tm en se) : Calls Try.prog 22 #[.agg #[.int .i64 st, .int .i64 lo, .int .u32 ip, .int .i64 po, .int .u32 iss, .int .u32 una, .int .u32 nx, .slice da dn dk, .int .i64 wnd, .bool en, .bool se, .int .u32 inx, .slice ba bn bk, .slice pa pn pk, .bool ed, .int .u64 tm, .int .i64 rto, .int .i64 tr, .int .i64 er]] w fun e w' => e = .returned (.bool false) ∧ New w w' := by
 have HR : Hid (∀ w1, New w w1 → Calls Try.prog 50 #[.agg #[.int .u32 inx, .slice ba bn bk, .slice pa pn pk]] w1 fun e w' => e = .returned (.bool true) ∧ New w1 w') := Lib.hid (fun w1 hn => by have := RCheck_S (hv.new hn) hs hf hnx hsq; rwa [h8] at this)
 have hv0 := hv
 clear hv
 have hv := Mem.nil w
 have G3 := Lib.hid h3
 have G4 := Lib.hid h4
 have y1 : decide ((256 : Int) < (dn : Int)) = false := decide_eq_false (by omega)
 have y2 : decide (256 < dn) = false := decide_eq_false (by omega)
 clear h3 h4 h8
 rcases h with ⟨h⟩ | ⟨g1, h⟩ | ⟨g1, g2, h⟩ | ⟨g1, g2, g3, h⟩ | ⟨g1, g2, g3, g4, h⟩ | ⟨g1, g2, g3, g4, g5, h⟩ | ⟨g1, g2, g3, g4, g5, g6, h⟩ | ⟨g1, g2, g3, g4, g5, g6, g7, h, h2x⟩
 all_goals try (have y3 : (1099511627776 : Int) < (tm : Int) := (by omega); have y4 : 1099511627776 < tm := (by omega))
 all_goals try (have y3 : decide ((1099511627776 : Int) < (tm : Int)) = false := decide_eq_false (by omega))
 all_goals try (have y4 : decide (1099511627776 < tm) = false := decide_eq_false (by omega))
 all_goals try (have zg6 : decide (wnd < 0) = false := decide_eq_false (by omega))
 all_goals try (have zg7 : decide (65535 < wnd) = false := decide_eq_false (by omega))
 all_goals try (have yg2 : decide (rto < 1) = false := decide_eq_false (by omega))
 all_goals try (have yg3 : decide (64 < rto) = false := decide_eq_false (by omega))
 all_goals try (have yg4 : decide (tr < 0) = false := decide_eq_false (by omega))
 all_goals try (have yg5 : decide (12 < tr) = false := decide_eq_false (by omega))
 all_goals try (have yg6 : decide (er < 0) = false := decide_eq_false (by omega))
 all_goals try (have yg7 : decide (1000 < er) = false := decide_eq_false (by omega))
 all_goals clear hs hf hnx hsq hv0
 all_goals
   go_enter Try.func22, Try.ntmps22
   go_wp2_with (first
     | ((with_reducible refine gBx 31 1 ?_); refine nwB hv #[.int .i64 st, .int .i64 lo, .int .u32 ip, .int .i64 po, .int .u32 iss, .int .u32 una, .int .u32 nx, .slice da dn dk, .int .i64 wnd, .bool en, .bool se, .int .u32 inx, .slice ba bn bk, .slice pa pn pk, .bool ed, .int .u64 tm, .int .i64 rto, .int .i64 tr, .int .i64 er] 31 ?_; clear hv; intro b_1 w2 hv)
     | ((with_reducible refine gLd 3 ?_); refine ldC hv b_1 0 (.int .i64 st) Try.underlying3 ?_)
     | ((with_reducible refine gLd 3 ?_); refine ldC hv b_1 1 (.int .i64 lo) Try.underlying3 ?_)
     | ((with_reducible refine gLd 3 ?_); refine ldC hv b_1 3 (.int .i64 po) Try.underlying3 ?_)
     | ((with_reducible refine gLd 23 ?_); refine ldC hv b_1 7 (.slice da dn dk) Try.underlying23 ?_)
     | ((with_reducible refine gLd 3 ?_); refine ldC hv b_1 8 (.int .i64 wnd) Try.underlying3 ?_)
     | ((with_reducible refine at_load (T := 27) ?_); refine wl_ldp rfl b_1 11 rfl _ hv.vars.ro 3 _ Try.underlying27 rfl infoStr (by decide) (by show 11 + 3 ≤ 19; decide) (#[.int .u32 inx, .slice ba bn bk, .slice pa pn pk]) (ext19s _ _ _ _ _ _ _ _ _ _ _ _ _ _ _ _ _ _ _) ?_)
     | (go_at_call 49; (with_reducible refine (rport_ok G3.out _).mono ?_); rintro e w1 ⟨rfl, hn1⟩; replace hv := hv.new hn1; clear hn1)
     | (go_at_call 49; (with_reducible refine (rport_no H3.out _).mono ?_); rintro e w1 ⟨rfl, hn1⟩; replace hv := hv.new hn1; clear hn1)
     | (go_at_call 49; (with_reducible refine (rport_ok G4.out _).mono ?_); rintro e w1 ⟨rfl, hn1⟩; replace hv := hv.new hn1; clear hn1)
     | (go_at_call 49; (with_reducible refine (rport_no H4.out _).mono ?_); rintro e w1 ⟨rfl, hn1⟩; replace hv := hv.new hn1; clear hn1)
     | (go_at_call 50; (with_reducible refine (HR.out _ hv.below).mono ?_); rintro e w1 ⟨rfl, hn1⟩; replace hv := hv.new hn1; clear hn1)
     | ((with_reducible refine gLd 28 ?_); refine ldC hv b_1 15 (.int .u64 tm) Try.underlying28 ?_)
     | ((with_reducible refine gLd 3 ?_); refine ldC hv b_1 16 (.int .i64 rto) Try.underlying3 ?_)
     | ((with_reducible refine gLd 3 ?_); refine ldC hv b_1 17 (.int .i64 tr) Try.underlying3 ?_)
     | ((with_reducible refine gLd 29 ?_); refine ldC hv b_1 18 (.int .i64 er) Try.underlying29 ?_)
     | ((with_reducible refine gLd 4 ?_); refine ldC hv b_1 10 (.bool se) Try.underlying4 ?_)
     | ((with_reducible refine gLd 4 ?_); refine ldC hv b_1 9 (.bool en) Try.underlying4 ?_))
   go_ret
   exact ⟨rfl, hv.below⟩
end Go.Proofs.Ythenepdbgeafkaa
end

section
/-
 Connections (layer 26): Take of a segment that may not be: nothing changes.
-/
namespace Go.Proofs.Tp
open Go Go.RowKit Go.Proofs.Wi
def KBd (t : T) (LL : List (Nat × Array Value)) (c' : C) (L' : List (Nat × Array Value)) (_ : List (Nat × Value × List Value)) : Prop := c' = ⟨t, []⟩ ∧ L' = LL
def BadP (w0 : World) (bc : Nat) (L : List (Nat × Array Value)) (R : List (Nat × Value × List Value)) (nw : Nat) (t : T) (e : Ending) (w' : World) : Prop :=
 ∃ R', e = .returned (.tuple #[]) ∧ CM w0 w' bc L (R' ++ R) nw ⟨t, []⟩
end Go.Proofs.Tp
namespace Go.Proofs.Ythenepdbgeafkaa
open Go.Proofs.Wi Go.RowKit Go.Proofs Go.Proofs.Tp
theorem take_bad {w0 w : World} {bc nw bs9 : Nat} {L : List (Nat × Array Value)} {R : List (Nat × Value × List Value)} {t : T} {s0 s1 s2 s3 s4 s5 s6 : Value} (hc : CM w0 w bc ((bs9, #[s0, s1, s2, s3, s4, s5, s6]) :: L) R nw ⟨t, []⟩) (hsk : ∀ w, Calls Try.prog 32 #[.agg #[s0, s1, s2, s3, s4, s5, s6]] w fun e w' => e = .returned (.bool false) ∧ New w w') : Calls Try.prog 31 #[.pointer (some ⟨bc, 0, none⟩), .pointer (some ⟨bs9, 0, none⟩)] w (BadP w0 bc ((bs9, #[s0, s1, s2, s3, s4, s5, s6]) :: L) R nw t) := by
 obtain ⟨da, dn, dk, ba, bn, bk, pa, pn, pk, l, ov, gs, O, hv0, hI, hO⟩ := hc
 have hv : Mem w0 w ((bs9, #[s0, s1, s2, s3, s4, s5, s6]) :: (bc, #[.int .i64 (t.st : Nat), .int .i64 (t.lo : Nat), .int .u32 (t.ip : Nat), .int .i64 (t.po : Nat), .int .u32 (t.iss : Nat), .int .u32 (t.una : Nat), .int .u32 (t.nx : Nat), .slice da dn dk, .int .i64 (t.wnd : Nat), .bool t.en, .bool t.se, .int .u32 (t.inn.next : Nat), .slice ba bn bk, .slice pa pn pk, .bool t.ed, .int .u64 (t.tm : Nat), .int .i64 (t.rto : Nat), .int .i64 (t.tr : Nat), .int .i64 (t.er : Nat), .int .u64 nw, ov]) :: (O ++ L)) R := hv0.perm (List.perm_middle (l₁ := (bc, _) :: O))
 have HI := Lib.hid hI
 have HO := Lib.hid hO
 have HSK := Lib.hid hsk
 clear hv0 hI hO hsk
 go_enter Try.func31, Try.ntmps31
 go_wp2
 refine Any.wr2 32 [(0, [1000], none), (5, [1000], none), (10, [1001], none), (15, [1000], none), (20, [1001], none), (28, [1001], none)] [] hv ?_
 simp only [Any.someVals]
 iterate 32 apply Exists.intro
 repeat ((first
  | refine Any.E_off rfl ?_
  | ((with_reducible refine Any.gE 42 ?_); refine Any.eW 1000 7 Try.underlying42 infoG7 ?_)
  | ((with_reducible refine Any.gE 3 ?_); refine Any.eC 1000 (s0) Try.underlying3 ?_)
  | ((with_reducible refine Any.gE 3 ?_); refine Any.eC 1000 (s1) Try.underlying3 ?_)
  | ((with_reducible refine Any.gE 3 ?_); refine Any.eC 1001 (.int .i64 (t.po : Nat)) Try.underlying3 ?_)
  | ((with_reducible refine Any.gE 3 ?_); refine Any.eC 1001 (.int .i64 (t.lo : Nat)) Try.underlying3 ?_)
  | ((with_reducible refine Any.gE 3 ?_); refine Any.eC 1001 (.int .i64 (t.st : Nat)) Try.underlying3 ?_)
  | (apply Any.E_val rfl rfl rfl rfl
     case h =>
      intro E' hA K hK
      first
       | (go_big_quiet_op; first
          | (refine hK _ ?_; rfl)
          | (refine ⟨_, fun _ _ => rfl, ?_⟩; refine hK _ ?_; rfl)
          | (apply Exists.intro; refine ⟨fun w1 hw1 => ?_, ?_⟩; · (first
              | (go_at_call 32; exact Any.calls_VE (HSK.out _) hw1))
             refine hK _ ?_; rfl))
     case hD => rfl)); simp only [Act.put, sia, scs, scz])
 try any_goals exact undef
 refine Any.fin2 hv [1000, 1001] ?_; clear hv; intro w9 hv
 clear HSK
 go_wp2
 go_end0
 exact ⟨[], rfl, CM.of (A := [_]) (O := O) (c := ⟨t, []⟩) hv HI.out HO.out⟩
theorem take_bad_do {w0 : World} {R : List (Nat × Value × List Value)} {t : T} {nw b4 : Nat} {s0 s1 s2 s3 s4 s5 s6 : Value} {x6 x3 : Nat × Array Value} {L : List (Nat × Array Value)} (hsk : ∀ w, Calls Try.prog 32 #[.agg #[s0, s1, s2, s3, s4, s5, s6]] w fun e w' => e = .returned (.bool false) ∧ New w w') (w1 : World) (bc : Nat) (A : List (Nat × Array Value))
   (hc : CM w0 w1 bc (A ++ (x6 :: (b4, #[s0, s1, s2, s3, s4, s5, s6]) :: x3 :: L)) R nw ⟨t, []⟩) :
   Calls Try.prog 31 (#[.pointer (some ⟨bc, 0, none⟩)] ++ #[.pointer (some ⟨b4, 0, none⟩)]) w1 (DoP (KBd t (x6 :: (b4, #[s0, s1, s2, s3, s4, s5, s6]) :: x3 :: L)) w0 bc A R nw) := by
 rw [app2]
 refine (take_bad (bs9 := b4) (hc.perm (permA1 A _ _ _)) hsk).mono ?_
 rintro e w' ⟨R', rfl, h2⟩
 exact ⟨_, _, R', rfl, ⟨rfl, rfl⟩, h2.perm (permA1 A _ _ _).symm⟩
theorem Take_bad_T {w0 w : World} {L : List (Nat × Array Value)} {R : List (Nat × Value × List Value)} (hv : Mem w0 w L R) {t : T} {da ba pa : Option Addr} {dn dk bn bk pn pk : Nat} {l : List PcV} (hI : InC R t da dn dk ba bn bk pa pn pk l) (hck : chkT t = true) {nw : Nat} {s0 s1 s2 s3 s4 s5 s6 : Value} (hsk : ∀ w, Calls Try.prog 32 #[.agg #[s0, s1, s2, s3, s4, s5, s6]] w fun e w' => e = .returned (.bool false) ∧ New w w') : Calls Try.prog 13 #[.agg #[.int .i64 (t.st : Nat), .int .i64 (t.lo : Nat), .int .u32 (t.ip : Nat), .int .i64 (t.po : Nat), .int .u32 (t.iss : Nat), .int .u32 (t.una : Nat), .int .u32 (t.nx : Nat), .slice da dn dk, .int .i64 (t.wnd : Nat), .bool t.en, .bool t.se, .int .u32 (t.inn.next : Nat), .slice ba bn bk, .slice pa pn pk, .bool t.ed, .int .u64 (t.tm : Nat), .int .i64 (t.rto : Nat), .int .i64 (t.tr : Nat), .int .i64 (t.er : Nat)], .agg #[s0, s1, s2, s3, s4, s5, s6], .int .u64 nw] w (RTP w0 L R ⟨t, []⟩) := by
 have HSK := Lib.hid hsk
 have HI := Lib.hid hI
 have HCK := Lib.hid hck
 clear hI hck
 clear hsk
 go_enter Try.func13, Try.ntmps13
 go_wp2_with (first
   | ((with_reducible refine gBx 31 3 ?_); refine nwB hv #[.int .i64 (t.st : Nat), .int .i64 (t.lo : Nat), .int .u32 (t.ip : Nat), .int .i64 (t.po : Nat), .int .u32 (t.iss : Nat), .int .u32 (t.una : Nat), .int .u32 (t.nx : Nat), .slice da dn dk, .int .i64 (t.wnd : Nat), .bool t.en, .bool t.se, .int .u32 (t.inn.next : Nat), .slice ba bn bk, .slice pa pn pk, .bool t.ed, .int .u64 (t.tm : Nat), .int .i64 (t.rto : Nat), .int .i64 (t.tr : Nat), .int .i64 (t.er : Nat)] 31 ?_; clear hv; intro b_3 w2 hv)
   | ((with_reducible refine gBx 42 4 ?_); refine nwB hv #[s0, s1, s2, s3, s4, s5, s6] 42 ?_; clear hv; intro b_4 w2 hv)
   | ((with_reducible refine gAl 31 6 ?_); refine nwB hv #[.int .i64 0, .int .i64 0, .int .u32 0, .int .i64 0, .int .u32 0, .int .u32 0, .int .u32 0, .slice none 0 0, .int .i64 0, .bool false, .bool false, .int .u32 0, .slice none 0 0, .slice none 0 0, .bool false, .int .u64 0, .int .i64 0, .int .i64 0, .int .i64 0] 31 ?_; clear hv; intro b_6 w2 hv)
   | ((with_reducible refine gLd 31 ?_); refine ldV hv b_3 19 Try.underlying31 infoT19 ?_)
   | (go_at_call 25; (refine (done_C (K := KBd t ((b_6, #[.int .i64 0, .int .i64 0, .int .u32 0, .int .i64 0, .int .u32 0, .int .u32 0, .int .u32 0, .slice none 0 0, .int .i64 0, .bool false, .bool false, .int .u32 0, .slice none 0 0, .slice none 0 0, .bool false, .int .u64 0, .int .i64 0, .int .i64 0, .int .i64 0]) :: (b_4, #[s0, s1, s2, s3, s4, s5, s6]) :: (b_3, #[.int .i64 (t.st : Nat), .int .i64 (t.lo : Nat), .int .u32 (t.ip : Nat), .int .i64 (t.po : Nat), .int .u32 (t.iss : Nat), .int .u32 (t.una : Nat), .int .u32 (t.nx : Nat), .slice da dn dk, .int .i64 (t.wnd : Nat), .bool t.en, .bool t.se, .int .u32 (t.inn.next : Nat), .slice ba bn bk, .slice pa pn pk, .bool t.ed, .int .u64 (t.tm : Nat), .int .i64 (t.rto : Nat), .int .i64 (t.tr : Nat), .int .i64 (t.er : Nat)]) :: L)) hv HI.out HCK.out (nw := nw) (f := 31) (cap := #[.pointer (some ⟨b_4, 0, none⟩)]) (Go.Proofs.enters_of Try.func31 (by kernel_rfl) rfl) (take_bad_do (b4 := b_4) (x6 := (b_6, #[.int .i64 0, .int .i64 0, .int .u32 0, .int .i64 0, .int .u32 0, .int .u32 0, .int .u32 0, .slice none 0 0, .int .i64 0, .bool false, .bool false, .int .u32 0, .slice none 0 0, .slice none 0 0, .bool false, .int .u64 0, .int .i64 0, .int .i64 0, .int .i64 0])) (x3 := (b_3, #[.int .i64 (t.st : Nat), .int .i64 (t.lo : Nat), .int .u32 (t.ip : Nat), .int .i64 (t.po : Nat), .int .u32 (t.iss : Nat), .int .u32 (t.una : Nat), .int .u32 (t.nx : Nat), .slice da dn dk, .int .i64 (t.wnd : Nat), .bool t.en, .bool t.se, .int .u32 (t.inn.next : Nat), .slice ba bn bk, .slice pa pn pk, .bool t.ed, .int .u64 (t.tm : Nat), .int .i64 (t.rto : Nat), .int .i64 (t.tr : Nat), .int .i64 (t.er : Nat)])) (L := L) HSK.out)).mono ?_); rintro e w1 ⟨c1, L1, R1, vt, ov1, rfl, ⟨rfl, rfl⟩, hr1⟩; obtain ⟨da1, dn1, dk1, ba1, bn1, bk1, pa1, pn1, pk1, l1, gs1, O1, rfl, hv1, hI1, hO1⟩ := hr1; clear hv; have hv := hv1; clear hv1; have HI1 := Lib.hid hI1; have HO1 := Lib.hid hO1; clear hI1 hO1; have hv2 : Mem w0 _ ([(b_6, #[.int .i64 0, .int .i64 0, .int .u32 0, .int .i64 0, .int .u32 0, .int .u32 0, .int .u32 0, .slice none 0 0, .int .i64 0, .bool false, .bool false, .int .u32 0, .slice none 0 0, .slice none 0 0, .bool false, .int .u64 0, .int .i64 0, .int .i64 0, .int .i64 0]), (b_4, #[s0, s1, s2, s3, s4, s5, s6]), (b_3, #[.int .i64 (t.st : Nat), .int .i64 (t.lo : Nat), .int .u32 (t.ip : Nat), .int .i64 (t.po : Nat), .int .u32 (t.iss : Nat), .int .u32 (t.una : Nat), .int .u32 (t.nx : Nat), .slice da dn dk, .int .i64 (t.wnd : Nat), .bool t.en, .bool t.se, .int .u32 (t.inn.next : Nat), .slice ba bn bk, .slice pa pn pk, .bool t.ed, .int .u64 (t.tm : Nat), .int .i64 (t.rto : Nat), .int .i64 (t.tr : Nat), .int .i64 (t.er : Nat)])] ++ (O1 ++ L)) _ := hv.perm (perm_out O1 [(b_6, #[.int .i64 0, .int .i64 0, .int .u32 0, .int .i64 0, .int .u32 0, .int .u32 0, .int .u32 0, .slice none 0 0, .int .i64 0, .bool false, .bool false, .int .u32 0, .slice none 0 0, .slice none 0 0, .bool false, .int .u64 0, .int .i64 0, .int .i64 0, .int .i64 0]), (b_4, #[s0, s1, s2, s3, s4, s5, s6]), (b_3, #[.int .i64 (t.st : Nat), .int .i64 (t.lo : Nat), .int .u32 (t.ip : Nat), .int .i64 (t.po : Nat), .int .u32 (t.iss : Nat), .int .u32 (t.una : Nat), .int .u32 (t.nx : Nat), .slice da dn dk, .int .i64 (t.wnd : Nat), .bool t.en, .bool t.se, .int .u32 (t.inn.next : Nat), .slice ba bn bk, .slice pa pn pk, .bool t.ed, .int .u64 (t.tm : Nat), .int .i64 (t.rto : Nat), .int .i64 (t.tr : Nat), .int .i64 (t.er : Nat)])] L); clear hv; have hv := hv2; clear hv2; simp only [List.cons_append, List.nil_append] at hv)
   | ((with_reducible refine gSt 31 ?_); refine stV hv b_6 19 infoT19 ?_ (h1 := (rowT_one _ _ _ _ _ _ _ _ _ _)); clear hv; intro w2 hv))
 try simp only [Exit.inBlock, Exit.then]
 refine ret_cell2 (v := .agg (rowT t (.slice da1 dn1 dk1) (.slice ba1 bn1 bk1) (.slice pa1 pn1 pk1))) (v1 := ov1) rfl rfl (read_row _ b_6 31 _ (hv.vars.ro (b := b_6)) 19 _ Try.underlying31 rfl infoT19 (by decide) rfl) rfl rfl ?_
 exact ⟨R1, _, ov1, rfl, _, _, _, _, _, _, _, _, _, _, _, _, rfl, hv.drop.drop.drop, HI1.out, HO1.out⟩
end Go.Proofs.Ythenepdbgeafkaa
end
