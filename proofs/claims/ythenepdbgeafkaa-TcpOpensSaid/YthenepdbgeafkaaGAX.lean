import Derived.Test.YthenepdbgeafkaaGAV
import Derived.Test.YthenepdbgeafkaaGAU
import Derived.Test.YthenepdbgeafkaaGAW
set_option linter.unusedSimpArgs false
set_option linter.unusedVariables false
set_option maxRecDepth 100000
set_option maxHeartbeats 32000000
section
/-
 Connections (layer 26): does a segment fit; what is asked for is answered.
-/
namespace Go.Proofs.Tp
open Go Go.RowKit Go.Proofs.Wi
def RoomN (R0 : LR) (n : Nat) (v : Value) (R' : LR) : Prop := v = .int .i64 n ∧ ∀ x ∈ R0, x ∈ R'
theorem lenK_eq (g : G) : lenK g.data.length g.fl 2 = lenG g := by
 unfold lenK lenG
 simp
end Go.Proofs.Tp
namespace Go.Proofs.Tp
open Go Go.RowKit Go.Proofs.Wi
theorem four_f {n : Nat} {a : Int} {b : Bool} : (n = 0 ∧ a = 0) ∨ (n = 0 ∧ ¬ a = 0) ∨ (n ≠ 0 ∧ b = true) ∨ (n ≠ 0 ∧ b = false) := by
 cases b <;> simp <;> omega
section
variable {g : G} {t : T} {n rm : Nat} (hn : lenG g = n) (hro : room t.inn = (rm : Int))
include hn hro
theorem fits_e0 (h0 : n = 0) (h1 : dif g.seq t.inn.next = 0) : fits g t = true := by unfold fits; rw [hn, hro, if_pos h0, h1]; rfl
theorem fits_e1 (h0 : n = 0) (h2 : ¬ dif g.seq t.inn.next = 0) : fits g t = inside rm (dif g.seq t.inn.next) := by unfold fits; rw [hn, hro, if_pos h0, beq_false_of_ne h2]; rfl
theorem fits_e2 (h0 : n ≠ 0) (h3 : inside rm (dif g.seq t.inn.next) = true) : fits g t = true := by unfold fits; rw [hn, hro, if_neg h0, h3]; rfl
theorem fits_e3 (h0 : n ≠ 0) (h4 : inside rm (dif g.seq t.inn.next) = false) : fits g t = inside rm (dif g.seq t.inn.next + n - 1) := by unfold fits; rw [hn, hro, if_neg h0, h4]; rfl
end
end Go.Proofs.Tp
namespace Go.Proofs.Ythenepdbgeafkaa
open Go.Proofs.Wi Go.RowKit Go.Proofs Go.Proofs.Tp
variable {L : LV} {R : LR}
theorem inside_any (x v : Int) {b : Nat} (w : World) (hr : w.rowD b = #[.int .i64 v]) : Calls Try.prog 70 #[.int .i64 x, .pointer (some ⟨b, 0, none⟩)] w fun e w' => e = .returned (.bool (inside v x)) ∧ New w w' := by
 have hv := Mem.nil w
 have HR := Lib.hid hr
 obtain ⟨res, hres⟩ : ∃ r, inside v x = r := ⟨_, rfl⟩
 rw [hres]
 have hd : decide (0 ≤ x ∧ x < v) = res := hres
 clear hr hres
 by_cases h1 : 0 ≤ x
 · by_cases h2 : x < v
   · obtain rfl : res = true := by rw [← hd]; exact decide_eq_true ⟨h1, h2⟩
     clear hd
     go_enter Try.func70, Try.ntmps70
     go_wp2_with (first
       | ((with_reducible refine at_load (T := 3) ?_); refine wl_ldc rfl b 0 rfl _ HR.out _ Try.underlying3 rfl (.int .i64 v) rfl ?_))
     go_ret
     exact ⟨rfl, hv.below⟩
   · obtain rfl : res = false := by rw [← hd]; exact decide_eq_false (fun h => h2 h.2)
     clear hd
     go_enter Try.func70, Try.ntmps70
     go_wp2_with (first
       | ((with_reducible refine at_load (T := 3) ?_); refine wl_ldc rfl b 0 rfl _ HR.out _ Try.underlying3 rfl (.int .i64 v) rfl ?_))
     go_ret
     exact ⟨rfl, hv.below⟩
 · obtain rfl : res = false := by rw [← hd]; exact decide_eq_false (fun h => h1 h.1)
   clear hd
   go_enter Try.func70, Try.ntmps70
   go_wp2
   go_ret
   exact ⟨rfl, hv.below⟩
theorem Diff_new (a b : Nat) (w : World) : Calls Try.prog 68 #[.int .u32 a, .int .u32 b] w fun e w' => e = .returned (.int .i64 (dif a b)) ∧ New w w' := (Diff_any a b w).mono fun e w' h => ⟨h.1, by rw [← h.2]; exact Below.refl _ _⟩
theorem Room_N {w0 w : World} {R0 : LR} (hv : Mem w0 w L R) (hs : ∀ x ∈ R0, x ∈ R) {t : T} {da ba pa : Option Addr} {dn dk bn bk pn pk : Nat} {l : List PcV} (hI : InC R0 t da dn dk ba bn bk pa pn pk l) {rm : Nat} (hrm : (room t.inn).toNat = rm) : Calls Try.prog 36 #[.agg #[.int .u32 t.inn.next, .slice ba bn bk, .slice pa pn pk]] w fun e w' => ∃ v R', e = .returned v ∧ RoomN R0 rm v R' ∧ Mem w0 w' L R' ∧ ∀ x ∈ R, x ∈ R' := by
 refine (Room_V hv hs hI).mono ?_
 rintro e w' ⟨v, R', rfl, ⟨h1, h2⟩, h3, h4⟩
 exact ⟨v, R', rfl, ⟨by rw [h1, hrm], h2⟩, h3, h4⟩
theorem Len_new {g : G} {sa : Option Addr} {sn sk : Nat} {w0 w1 : World} (hv : Mem w0 w1 L R) (hg : InG R g sa sn sk) {n : Nat} (hn : lenG g = n) (w : World) : Calls Try.prog 69 #[.agg #[.int .i64 g.src, .int .i64 g.dst, .int .u32 g.seq, .int .u32 g.ack, .int .i64 g.fl, .int .i64 g.wnd, .slice sa sn sk]] w fun e w' => e = .returned (.int .i64 n) ∧ New w w' := by
 have h := chkG_facts hg.ck
 have hs := len_rd1 (hv.rd hg.d)
 have := Len_any (.int .i64 g.src) (.int .i64 g.dst) (.int .u32 g.seq) (.int .u32 g.ack) (.int .i64 g.wnd) (da := sa) (dk := sk) h.2.2.2.2.1 (show sn ≤ 100000 by omega) w
 rw [← hs, lenK_eq, hn] at this
 rw [← hs]
 exact this
theorem CMP.of2 {w0 w' : World} {bc nw : Nat} {R R2 : LR} {v : Value} {c : C} (h : CM w0 w' bc L R2 nw c) (hs : ∀ x ∈ R, x ∈ R2) : CMP w0 bc L R nw v c (.returned v) w' := by
 obtain ⟨da, dn, dk, ba, bn, bk, pa, pn, pk, l, ov, gs, O, hv, hI, hO⟩ := h
 have hy : ∀ x ∈ R2, x ∈ R2 ++ R := fun x hx => List.mem_append_left _ hx
 exact ⟨R2, rfl, da, dn, dk, ba, bn, bk, pa, pn, pk, l, ov, gs, O, hv.keepR (fun x hx => (List.mem_append.1 hx).elim id (hs x)), hI.mono hy, hO.mono hy⟩
theorem fits_C {w0 w : World} {bc nw : Nat} {t : T} {out : List G} (hc : CM w0 w bc L R nw ⟨t, out⟩) {g : G} {sa : Option Addr} {sn sk : Nat} (hg : InG R g sa sn sk) (hl : out.length ≤ 400) : Calls Try.prog 60 #[.pointer (some ⟨bc, 0, none⟩), .agg #[.int .i64 g.src, .int .i64 g.dst, .int .u32 g.seq, .int .u32 g.ack, .int .i64 g.fl, .int .i64 g.wnd, .slice sa sn sk]] w (CMP w0 bc L R nw (.bool (fits g t)) ⟨t, out⟩) := by
 obtain ⟨n, hn⟩ : ∃ n, lenG g = n := ⟨_, rfl⟩
 obtain ⟨rm, hrm⟩ : ∃ n, (room t.inn).toNat = n := ⟨_, rfl⟩
 obtain ⟨da, dn, dk, ba, bn, bk, pa, pn, pk, l, ov, gs, O, hv, HI, HO⟩ := hc.get
 clear hc
 have HG := Lib.hid hg
 have HLN : Hid (∀ w, Calls Try.prog 69 #[.agg #[.int .i64 g.src, .int .i64 g.dst, .int .u32 g.seq, .int .u32 g.ack, .int .i64 g.fl, .int .i64 g.wnd, .slice sa sn sk]] w fun e w' => e = .returned (.int .i64 n) ∧ New w w') := Lib.hid (fun w => Len_new hv hg hn w)
 have HRM := Lib.hid hrm
 have hro : room t.inn = (rm : Int) := by have h9 : 0 ≤ room t.inn := (room_nn HI.out.ck).1; omega
 have HSR : Hid (∃ v R', RoomN R rm v R') := Lib.hid ⟨_, R, rfl, fun x hx => hx⟩
 have hdlo := dif_lo g.seq t.inn.next
 have hdhi := dif_hi g.seq t.inn.next
 have hn66 : n ≤ 66 := by rw [← hn]; have := (chkG_facts hg.ck).2.2.2.2.2.2; unfold lenG; split <;> split <;> omega
 rcases four_f (n := n) (a := dif g.seq t.inn.next) (b := inside rm (dif g.seq t.inn.next)) with ⟨h0, h1⟩ | ⟨h0, h2⟩ | ⟨k0, h3⟩ | ⟨k0, h4⟩
 all_goals first
   | rw [fits_e0 hn hro h0 h1]
   | rw [fits_e1 hn hro h0 h2]
   | rw [fits_e2 hn hro k0 h3]
   | rw [fits_e3 hn hro k0 h4]
 all_goals try (have y1 : ((n : Int) == 0) = true := (by rw [h0]; rfl); clear h0)
 all_goals try (have y1 : ((n : Int) == 0) = false := (by rw [beq_eq_false_iff_ne]; omega); clear k0)
 all_goals try (have y2 := beq_false_of_ne h2; clear h2)
 all_goals try (have q1 : IntKind.i64.wrap (dif g.seq t.inn.next + (n : Int)) = dif g.seq t.inn.next + (n : Int) := IntWalk.i64_in _ (by omega); have q2 : IntKind.i64.wrap (dif g.seq t.inn.next + (n : Int) - 1) = dif g.seq t.inn.next + (n : Int) - 1 := IntWalk.i64_in _ (by omega); have y2 := h4; clear h4)
 all_goals
   clear hg hn hrm hl hro hdlo hdhi hn66
   go_enter Try.func60, Try.ntmps60
   go_wp2_with (first
     | ((with_reducible refine gBx 72 3 ?_); refine nwB hv #[.int .i64 g.src, .int .i64 g.dst, .int .u32 g.seq, .int .u32 g.ack, .int .i64 g.fl, .int .i64 g.wnd, .slice sa sn sk] 72 ?_; clear hv; intro b_3 w2 hv))
   try simp only [Act.put]
   refine Bny.wr2 23 [(2, [1000], none), (8, [1001], none), (14, [1001], none), (15, [], some 15), (17, [1000], none), (19, [], some 19), (21, [19], some 19)] [(15, .mem (RoomN R rm)), (19, .lay #[.int .i64 0]), (20, .pure), (21, .put), (22, .pure)] hv ?_
   simp only [Any.someVals]
   iterate 23 apply Exists.intro
   repeat ((first
    | refine Bny.E_off rfl ?_
    | ((with_reducible refine Bny.at_ealloc ?_); refine Bny.E_lay (t := 3) rfl rfl rfl (fun _ => rfl) ?_; intro b_6)
    | ((with_reducible refine Bny.at_estore (T := 3) ?_); refine Bny.E_putc (T := 3) (off := 0) rfl rfl rfl rfl rfl rfl (by kernel_rfl) rfl (by show 0 < 1; decide) ?_)
    | ((with_reducible refine Bny.at_ecallf (f := 36) ?_); refine Bny.E_callmem rfl rfl rfl (Go.Proofs.enters_of Try.func36 (by kernel_rfl) rfl) rfl [.agg #[.int .u32 t.inn.next, .slice ba bn bk, .slice pa pn pk]] rfl HSR.out R (fun x hx => .inl hx) (fun w0 w L R' hm hs => Room_N hm hs HI.out HRM.out) ?_; rintro v R2 ⟨rfl, hs2⟩; have HS2 := Lib.hid hs2; clear hs2)
    | refine Bny.ePq ?_
    | ((with_reducible refine Bny.gE 22 ?_); refine Bny.eC 1000 (.int .u32 g.seq) Try.underlying22 ?_)
    | ((with_reducible refine Bny.gE 22 ?_); refine Bny.eC 1001 (.int .u32 t.inn.next) Try.underlying22 ?_)
    | (apply Bny.E_val rfl rfl rfl rfl
       case h =>
        intro E' hA K hK
        first
         | ((with_reducible refine Bny.at_qload (T := 27) ?_); refine Bny.q_ldp 1001 (o := 11) hA (by decide) rfl rfl 3 _ Try.underlying27 rfl infoStr (by decide) (by show 11 + 3 ≤ 21; decide) #[.int .u32 t.inn.next, .slice ba bn bk, .slice pa pn pk] (ext21s _ _ _ _ _ _ _ _ _ _ _ _ _ _ _ _ _ _ _ _ _) ?_; refine hK _ ?_; rfl)
         | ((with_reducible refine Bny.at_qload (T := 42) ?_); refine Bny.q_ldv 1000 hA (by decide) rfl rfl 7 _ Try.underlying42 rfl infoG7 (by decide) rfl ?_; refine hK _ ?_; rfl)
         | (go_big_quiet_op; first
            | (refine hK _ ?_; rfl)
            | (refine ⟨_, fun _ _ => rfl, ?_⟩; refine hK _ ?_; rfl)
            | (apply Exists.intro; refine ⟨fun w1 hw1 => ?_, ?_⟩; · (first
                | (go_at_call 68; exact Bny.calls_VE (Diff_new _ _ _) hw1)
                | (go_at_call 69; exact Bny.calls_VE (HLN.out _) hw1))
               refine hK _ ?_; rfl))
       case hD => rfl)); simp only [Act.put, sia, scs, scz])
   try any_goals exact undef
   refine Bny.finr [19, 1000, 1001] 15 ?_; clear hv; intro w9 hv
   clear HLN HSR HRM HG
   go_wp2_with (first
     | ((with_reducible refine at_call ?_); have hq := inside_any (dif g.seq t.inn.next) (rm : Nat) _ (hv.vars.row (b := b_6) (List.Mem.head _)); refine wl_callv rfl (Go.Proofs.enters_of Try.func70 (by kernel_rfl) rfl) rfl [.int .i64 (dif g.seq t.inn.next)] rfl hq ?_; rintro e w1 ⟨rfl, hn1⟩; refine ⟨_, rfl, ?_⟩; clear hq; replace hv := hv.new hn1; clear hn1)
     | ((with_reducible refine at_call ?_); have hq := inside_any (dif g.seq t.inn.next + (n : Int) - 1) (rm : Nat) _ (hv.vars.row (b := b_6) (List.Mem.head _)); refine wl_callv rfl (Go.Proofs.enters_of Try.func70 (by kernel_rfl) rfl) rfl [.int .i64 (dif g.seq t.inn.next + (n : Int) - 1)] rfl hq ?_; rintro e w1 ⟨rfl, hn1⟩; refine ⟨_, rfl, ?_⟩; clear hq; replace hv := hv.new hn1; clear hn1))
   go_ret
   exact CMP.of2 (CM.of (A := []) (O := O) (c := ⟨t, out⟩) hv.drop.drop (HI.out.mono HS2.out) (HO.out.mono HS2.out)) HS2.out
end Go.Proofs.Ythenepdbgeafkaa
end

section
/-
 Connections (layer 26): what is asked for is answered.
-/
namespace Go.Proofs.Tp
open Go Go.RowKit Go.Proofs.Wi
inductive AnC (g : G) (t : T) (out : List G) : C → Prop
 | a1 (h16 : has g.fl 16 = true) (he : g.ack ≠ t.nx) (h4 : has g.fl 4 = true) : AnC g t out ⟨t, out⟩
 | a2 (h16 : has g.fl 16 = true) (he : g.ack ≠ t.nx) (h4 : has g.fl 4 = false) : AnC g t out (send 4 g.ack [] ⟨t, out⟩)
 | b1 (h16 : has g.fl 16 = true) (he : g.ack = t.nx) (h4 : has g.fl 4 = true) : AnC g t out (over 260 ⟨t, out⟩)
 | b2 (h16 : has g.fl 16 = false) (h4 : has g.fl 4 = true) : AnC g t out ⟨t, out⟩
 | c1 (h16 : has g.fl 16 = true) (he : g.ack = t.nx) (h4 : has g.fl 4 = false) (h2 : has g.fl 2 = false) : AnC g t out ⟨t, out⟩
 | c2 (h16 : has g.fl 16 = false) (h4 : has g.fl 4 = false) (h2 : has g.fl 2 = false) : AnC g t out ⟨t, out⟩
theorem AnC.eq {nw : Nat} {g : G} {t : T} {out : List G} {c : C} (h : AnC g t out c) : answered nw g ⟨t, out⟩ = c := by
 unfold answered
 rcases h with ⟨h16, he, h4⟩ | ⟨h16, he, h4⟩ | ⟨h16, he, h4⟩ | ⟨h16, h4⟩ | ⟨h16, he, h4, h2⟩ | ⟨h16, h4, h2⟩
 · rw [if_pos ⟨h16, he⟩, if_pos h4]
 · rw [if_pos ⟨h16, he⟩, if_neg (by rw [h4]; decide)]
 · rw [if_neg (fun x => x.2 he), if_pos h4, if_pos h16]
 · rw [if_neg (fun x => by rw [h16] at x; cases x.1), if_pos h4, if_neg (by rw [h16]; decide)]
 · rw [if_neg (fun x => x.2 he), if_neg (by rw [h4]; decide), if_pos h2]
 · rw [if_neg (fun x => by rw [h16] at x; cases x.1), if_neg (by rw [h4]; decide), if_pos h2]
end Go.Proofs.Tp
namespace Go.Proofs.Ythenepdbgeafkaa
open Go.Proofs.Wi Go.RowKit Go.Proofs Go.Proofs.Tp
variable {w0 w : World} {L : LV} {R : LR} {bc nw : Nat} {t : T} {out : List G} {g : G} {sa : Option Addr} {sn sk : Nat}
theorem built_st (x : Int) : Try.prog.built 27 [(0, .int .u32 x)] = some #[.int .u32 x, .slice none 0 0, .slice none 0 0] := by kernel_rfl
theorem answered_k (hc : CM w0 w bc L R nw ⟨t, out⟩) (hg : InG R g sa sn sk) (hl : out.length ≤ 400) {c : C} (hk : AnC g t out c) : Calls Try.prog 33 #[.pointer (some ⟨bc, 0, none⟩), .agg #[.int .i64 g.src, .int .i64 g.dst, .int .u32 g.seq, .int .u32 g.ack, .int .i64 g.fl, .int .i64 g.wnd, .slice sa sn sk]] w (CMP w0 bc L R nw (.tuple #[]) (answered nw g ⟨t, out⟩)) := by
 obtain ⟨da, dn, dk, ba, bn, bk, pa, pn, pk, l, ov, gs, O, hv, HI, HO⟩ := hc.get
 clear hc
 have HL : Hid (out.length ≤ 1000) := Lib.hid (by omega)
 have HG := Lib.hid hg
 have HFL := Lib.hid (chkG_facts hg.ck).2.2.2.2.1
 rw [hk.eq]
 have HGA := Lib.hid hg
 clear hl
 rcases hk with ⟨h16, hn, h4⟩ | ⟨h16, hn, h4⟩ | ⟨h16, he, h4⟩ | ⟨h16, h4⟩ | ⟨h16, he, h4, h2⟩ | ⟨h16, h4, h2⟩
 all_goals try (have y1 : ((g.ack : Int) != (t.nx : Int)) = true := (by rw [bne_iff_ne]; omega); have y2 : ((g.ack : Int) == (t.nx : Int)) = false := (by rw [beq_eq_false_iff_ne]; omega); clear hn)
 all_goals try (have y1 : ((g.ack : Int) != (t.nx : Int)) = false := (by rw [he]; simp); have y2 : ((g.ack : Int) == (t.nx : Int)) = true := (by rw [he]; simp); clear he)
 all_goals
   clear hg
   go_enter Try.func33, Try.ntmps33
   go_wp2_with (first
     | ((with_reducible refine gBx 72 3 ?_); refine nwB hv #[.int .i64 g.src, .int .i64 g.dst, .int .u32 g.seq, .int .u32 g.ack, .int .i64 g.fl, .int .i64 g.wnd, .slice sa sn sk] 72 ?_; clear hv; intro b_3 w2 hv)
     | ((with_reducible refine gLd 72 ?_); refine ldV hv b_3 7 Try.underlying72 infoM7 ?_)
     | (go_at_call 58; (with_reducible refine (has16_any _ _ _ _ _ _ HFL.out _).mono ?_); rintro e w1 ⟨rfl, hn1⟩; replace hv := hv.new hn1; clear hn1))
   refine Any.wr2 13 [(4, [1000], none), (9, [1001], none)] [] hv ?_
   simp only [Any.someVals]
   iterate 13 apply Exists.intro
   repeat ((first
    | refine Any.E_off rfl ?_
    | ((with_reducible refine Any.gE 22 ?_); refine Any.eC 1000 (.int .u32 g.ack) Try.underlying22 ?_)
    | ((with_reducible refine Any.gE 22 ?_); refine Any.eC 1001 (.int .u32 t.nx) Try.underlying22 ?_)
    | refine Any.eV ?_); simp only [Act.put, sia, scs, scz])
   try any_goals exact undef
   refine Any.fin2 hv [1000, 1001] ?_; clear hv; intro w9 hv
   go_wp2_with (first
     | ((with_reducible refine gLd 72 ?_); refine ldV hv b_3 7 Try.underlying72 infoM7 ?_)
     | (go_at_call 58; (with_reducible refine (has4_any _ _ _ _ _ _ HFL.out _).mono ?_); rintro e w1 ⟨rfl, hn1⟩; replace hv := hv.new hn1; clear hn1)
     | (go_at_call 58; (with_reducible refine (has2_any _ _ _ _ _ _ HFL.out _).mono ?_); rintro e w1 ⟨rfl, hn1⟩; replace hv := hv.new hn1; clear hn1)
     | ((with_reducible refine gLd 22 ?_); refine ldC hv b_3 3 (.int .u32 g.ack) Try.underlying22 ?_)
     | (go_at_call 44; (refine (snn4 (CM.of (A := [_]) (c := ⟨t, out⟩) hv HI.out HO.out) HL.out).mono ?_); rintro e w1 ⟨R1, rfl, hc1⟩; obtain ⟨da1, dn1, dk1, ba1, bn1, bk1, pa1, pn1, pk1, l1, ov1, gs1, O1, hv1, hI1, hO1⟩ := CM.back (A := [_]) hc1; clear hv hc1; have hv : Mem w0 _ ([_] ++ (bc, #[.int .i64 t.st, .int .i64 t.lo, .int .u32 t.ip, .int .i64 t.po, .int .u32 t.iss, .int .u32 t.una, .int .u32 t.nx, .slice da1 dn1 dk1, .int .i64 t.wnd, .bool t.en, .bool t.se, .int .u32 t.inn.next, .slice ba1 bn1 bk1, .slice pa1 pn1 pk1, .bool t.ed, .int .u64 t.tm, .int .i64 t.rto, .int .i64 t.tr, .int .i64 t.er, .int .u64 nw, ov1]) :: (O1 ++ L)) _ := hv1; clear hv1; have HI1 := Lib.hid hI1; have HO1 := Lib.hid hO1; clear hI1 hO1; simp only [List.cons_append, List.nil_append] at hv)
     | (go_at_call 30; (refine (over_260 (CM.of (A := [_]) (c := ⟨t, out⟩) hv HI.out HO.out)).mono ?_); rintro e w1 ⟨R1, rfl, hc1⟩; obtain ⟨da1, dn1, dk1, ba1, bn1, bk1, pa1, pn1, pk1, l1, ov1, gs1, O1, hv1, hI1, hO1⟩ := CM.back (A := [_]) hc1; clear hv hc1; have hv : Mem w0 _ ([_] ++ (bc, #[.int .i64 0, .int .i64 t.lo, .int .u32 t.ip, .int .i64 t.po, .int .u32 t.iss, .int .u32 t.una, .int .u32 t.nx, .slice da1 dn1 dk1, .int .i64 t.wnd, .bool t.en, .bool t.se, .int .u32 t.inn.next, .slice ba1 bn1 bk1, .slice pa1 pn1 pk1, .bool t.ed, .int .u64 0, .int .i64 t.rto, .int .i64 t.tr, .int .i64 260, .int .u64 nw, ov1]) :: (O1 ++ L)) _ := hv1; clear hv1; have HI1 := Lib.hid hI1; have HO1 := Lib.hid hO1; clear hI1 hO1; simp only [List.cons_append, List.nil_append] at hv))
   try rw [Exit.noGoto_ret]
   try simp only [Exit.inBlock, Exit.then]
   refine bodyPost_ret (results_none rfl _ _ _) rfl ?_
   first
     | exact ⟨R1, rfl, CM.of (A := []) (O := O1) hv.drop HI1.out HO1.out⟩
     | exact CMP.mk0 (CM.of (A := []) (O := O) hv.drop HI.out HO.out)
theorem answered_D1 (hc : CM w0 w bc L R nw ⟨t, out⟩) (hg : InG R g sa sn sk) (hl : out.length ≤ 400) (h16 : has g.fl 16 = false) (h4 : has g.fl 4 = false) (h2 : has g.fl 2 = true) (hr : t.rto ≤ 64) : Calls Try.prog 33 #[.pointer (some ⟨bc, 0, none⟩), .agg #[.int .i64 g.src, .int .i64 g.dst, .int .u32 g.seq, .int .u32 g.ack, .int .i64 g.fl, .int .i64 g.wnd, .slice sa sn sk]] w (CMP w0 bc L R nw (.tuple #[]) (answered nw g ⟨t, out⟩)) := by
 obtain ⟨da, dn, dk, ba, bn, bk, pa, pn, pk, l, ov, gs, O, hv, HI, HO⟩ := hc.get
 clear hc
 have HL : Hid (out.length ≤ 1000) := Lib.hid (by omega)
 have HG := Lib.hid hg
 have HFL := Lib.hid (chkG_facts hg.ck).2.2.2.2.1
 obtain ⟨x1, hx1⟩ : ∃ x, Tp.u32 (g.seq + 1) = x := ⟨_, rfl⟩
 have q1 : IntKind.u32.wrap ((g.seq : Int) + 1) = (x1 : Int) := by rw [← hx1]; unfold Tp.u32; simp [IntKind.wrap, IntKind.bits, IntKind.signed]
 have HX1 : Hid (x1 < 4294967296) := Lib.hid (by rw [← hx1]; exact Tp.u32_lt _)
 have HCK : Hid (chk ⟨x1, [], []⟩ = true) := Lib.hid (chk_empty x1 [] (Nat.zero_le _))
 have hv9 := (hv.fresh (k := 2) (Below.refl _ _) (FR.nil _ _ 2)).fresh (k := 1) (Below.refl _ _) (FR.nil _ _ 1)
 clear hv
 have hv := hv9
 clear hv9
 have HSN : Hid (InS ((1, .slice none 0 0, []) :: (2, .slice none 0 0, []) :: R) x1 (.slice none 0 0) (.slice none 0 0) ⟨x1, [], []⟩ []) := Lib.hid ⟨Mem.z, Mem.s Mem.z, fun p hp => (List.not_mem_nil hp).elim, rfl⟩
 have e : answered nw g ⟨t, out⟩ = send 18 t.una [] ⟨{ t with inn := ⟨x1, [], []⟩, wnd := g.wnd, st := 2, tm := later nw t.rto }, out⟩ := by unfold answered; rw [if_neg (fun x => by rw [h16] at x; cases x.1), if_neg (by rw [h4]; decide), if_neg (by rw [h2]; decide)]; show (if has g.fl 16 = false then _ else _ : C) = _; rw [if_pos h16]; show send 18 t.una [] ⟨{ t with inn := ⟨Tp.u32 (g.seq + 1), [], []⟩, wnd := g.wnd, st := 2, tm := later nw t.rto }, out⟩ = _; rw [hx1]
 rw [e]
 have HRT := Lib.hid hr
 clear e hg hl hr hx1
 go_enter Try.func33, Try.ntmps33
 go_wp2_with (first
   | ((with_reducible refine gBx 72 3 ?_); refine nwB hv #[.int .i64 g.src, .int .i64 g.dst, .int .u32 g.seq, .int .u32 g.ack, .int .i64 g.fl, .int .i64 g.wnd, .slice sa sn sk] 72 ?_; clear hv; intro b_3 w2 hv)
   | ((with_reducible refine gLd 72 ?_); refine ldV hv b_3 7 Try.underlying72 infoM7 ?_)
   | (go_at_call 58; (with_reducible refine (has16_any _ _ _ _ _ _ HFL.out _).mono ?_); rintro e w1 ⟨rfl, hn1⟩; replace hv := hv.new hn1; clear hn1))
 refine Any.wr2 13 [(4, [1000], none), (9, [1001], none)] [] hv ?_
 simp only [Any.someVals]
 iterate 13 apply Exists.intro
 repeat ((first
  | refine Any.E_off rfl ?_
  | ((with_reducible refine Any.gE 22 ?_); refine Any.eC 1000 (.int .u32 g.ack) Try.underlying22 ?_)
  | ((with_reducible refine Any.gE 22 ?_); refine Any.eC 1001 (.int .u32 t.nx) Try.underlying22 ?_)
  | refine Any.eV ?_); simp only [Act.put, sia, scs, scz])
 try any_goals exact undef
 refine Any.fin2 hv [1000, 1001] ?_; clear hv; intro w9 hv
 go_wp2_with (first
   | ((with_reducible refine gLd 72 ?_); refine ldV hv b_3 7 Try.underlying72 infoM7 ?_)
   | (go_at_call 58; (with_reducible refine (has4_any _ _ _ _ _ _ HFL.out _).mono ?_); rintro e w1 ⟨rfl, hn1⟩; replace hv := hv.new hn1; clear hn1)
   | (go_at_call 58; (with_reducible refine (has2_any _ _ _ _ _ _ HFL.out _).mono ?_); rintro e w1 ⟨rfl, hn1⟩; replace hv := hv.new hn1; clear hn1)
   | ((with_reducible refine gLd 22 ?_); refine ldC hv b_3 2 (.int .u32 g.seq) Try.underlying22 ?_)
   | ((with_reducible refine at_build (T := 27) ?_); refine wl_build rfl _ rfl (built_st _) ?_)
   | ((with_reducible refine at_store (T := 27) ?_); refine wl_stp rfl bc 11 rfl _ rfl _ hv.vars.ro hv.vars.so 3 infoStr rfl (by show 11 + 3 ≤ 21; decide) (by simp [Value.oneCell']) #[.int .i64 t.st, .int .i64 t.lo, .int .u32 t.ip, .int .i64 t.po, .int .u32 t.iss, .int .u32 t.una, .int .u32 t.nx, .slice da dn dk, .int .i64 t.wnd, .bool t.en, .bool t.se, .int .u32 x1, .slice none 0 0, .slice none 0 0, .bool t.ed, .int .u64 t.tm, .int .i64 t.rto, .int .i64 t.tr, .int .i64 t.er, .int .u64 nw, ov] (splice21 _ _ _ _ _ _ _ _ _ _ _ _ _ _ _ _ _ _ _ _ _ _ _ _) ?_; intro w2 hw2; replace hv := hv.sets (by repeat first | exact .z | apply SetM.s) hw2; clear hw2)
   | ((with_reducible refine gLd 3 ?_); refine ldC hv b_3 5 (.int .i64 g.wnd) Try.underlying3 ?_)
   | ((with_reducible refine gSt 3 ?_); refine stC hv bc 8 (.int .i64 g.wnd) ?_; clear hv; intro w2 hv)
   | ((with_reducible refine gSt 3 ?_); refine stC hv bc 0 (.int .i64 2) ?_; clear hv; intro w2 hv)
   | ((with_reducible refine gLd 3 ?_); refine ldC hv bc 16 (.int .i64 t.rto) Try.underlying3 ?_)
   | (go_at_call 46; (refine (wait_C (CM.of (A := [_]) (c := ⟨{ t with inn := ⟨x1, [], []⟩, wnd := g.wnd, st := 2 }, out⟩) hv ⟨Mem.s (Mem.s HI.out.d), HSN.out, HCK.out, ⟨HI.out.u.una, HI.out.u.nx, HI.out.u.iss, HX1.out, HI.out.u.ip⟩⟩ (HO.out.mono fun x hx => Mem.s (Mem.s hx))) HRT.out).mono ?_); rintro e w1 ⟨R1, rfl, hc1⟩; obtain ⟨da1, dn1, dk1, ba1, bn1, bk1, pa1, pn1, pk1, l1, ov1, gs1, O1, hv1, hI1, hO1⟩ := CM.back (A := [_]) hc1; clear hv hc1; have hv : Mem w0 _ ([_] ++ (bc, #[.int .i64 2, .int .i64 t.lo, .int .u32 t.ip, .int .i64 t.po, .int .u32 t.iss, .int .u32 t.una, .int .u32 t.nx, .slice da1 dn1 dk1, .int .i64 g.wnd, .bool t.en, .bool t.se, .int .u32 x1, .slice ba1 bn1 bk1, .slice pa1 pn1 pk1, .bool t.ed, .int .u64 (later nw t.rto : Nat), .int .i64 t.rto, .int .i64 t.tr, .int .i64 t.er, .int .u64 nw, ov1]) :: (O1 ++ L)) _ := hv1; clear hv1; have HI1 := Lib.hid hI1; have HO1 := Lib.hid hO1; clear hI1 hO1; simp only [List.cons_append, List.nil_append] at hv)
   | ((with_reducible refine gLd 22 ?_); refine ldC hv bc 5 (.int .u32 t.una) Try.underlying22 ?_)
   | (go_at_call 44; (refine (snn18 (CM.of (A := [_]) (c := ⟨{ t with inn := ⟨x1, [], []⟩, wnd := g.wnd, st := 2, tm := later nw t.rto }, out⟩) hv HI1.out HO1.out) HL.out).mono ?_); rintro e w1 ⟨R3, rfl, hc1⟩; obtain ⟨da3, dn3, dk3, ba3, bn3, bk3, pa3, pn3, pk3, l3, ov3, gs3, O3, hv1, hI1, hO1⟩ := CM.back (A := [_]) hc1; clear hv hc1; have hv : Mem w0 _ ([_] ++ (bc, #[.int .i64 2, .int .i64 t.lo, .int .u32 t.ip, .int .i64 t.po, .int .u32 t.iss, .int .u32 t.una, .int .u32 t.nx, .slice da3 dn3 dk3, .int .i64 g.wnd, .bool t.en, .bool t.se, .int .u32 x1, .slice ba3 bn3 bk3, .slice pa3 pn3 pk3, .bool t.ed, .int .u64 (later nw t.rto : Nat), .int .i64 t.rto, .int .i64 t.tr, .int .i64 t.er, .int .u64 nw, ov3]) :: (O3 ++ L)) _ := hv1; clear hv1; have HI3 := Lib.hid hI1; have HO3 := Lib.hid hO1; clear hI1 hO1; simp only [List.cons_append, List.nil_append] at hv))
 try rw [Exit.noGoto_ret]
 try simp only [Exit.inBlock, Exit.then]
 refine bodyPost_ret (results_none rfl _ _ _) rfl ?_
 refine CMP.addR (x := (2, .slice none 0 0, [])) (CMP.addR (x := (1, .slice none 0 0, [])) ?_)
 exact CMP.app (R2 := R1) ⟨R3, rfl, CM.of (A := []) (O := O3) (c := send 18 t.una [] ⟨{ t with inn := ⟨x1, [], []⟩, wnd := g.wnd, st := 2, tm := later nw t.rto }, out⟩) hv.drop HI3.out HO3.out⟩
theorem answered_D2 (hc : CM w0 w bc L R nw ⟨t, out⟩) (hg : InG R g sa sn sk) (hl : out.length ≤ 400) (h16 : has g.fl 16 = true) (he : g.ack = t.nx) (h4 : has g.fl 4 = false) (h2 : has g.fl 2 = true) : Calls Try.prog 33 #[.pointer (some ⟨bc, 0, none⟩), .agg #[.int .i64 g.src, .int .i64 g.dst, .int .u32 g.seq, .int .u32 g.ack, .int .i64 g.fl, .int .i64 g.wnd, .slice sa sn sk]] w (CMP w0 bc L R nw (.tuple #[]) (answered nw g ⟨t, out⟩)) := by
 obtain ⟨da, dn, dk, ba, bn, bk, pa, pn, pk, l, ov, gs, O, hv, HI, HO⟩ := hc.get
 clear hc
 have HL : Hid (out.length ≤ 1000) := Lib.hid (by omega)
 have HG := Lib.hid hg
 have HFL := Lib.hid (chkG_facts hg.ck).2.2.2.2.1
 obtain ⟨x1, hx1⟩ : ∃ x, Tp.u32 (g.seq + 1) = x := ⟨_, rfl⟩
 have q1 : IntKind.u32.wrap ((g.seq : Int) + 1) = (x1 : Int) := by rw [← hx1]; unfold Tp.u32; simp [IntKind.wrap, IntKind.bits, IntKind.signed]
 have HX1 : Hid (x1 < 4294967296) := Lib.hid (by rw [← hx1]; exact Tp.u32_lt _)
 have HCK : Hid (chk ⟨x1, [], []⟩ = true) := Lib.hid (chk_empty x1 [] (Nat.zero_le _))
 have hv9 := (hv.fresh (k := 2) (Below.refl _ _) (FR.nil _ _ 2)).fresh (k := 1) (Below.refl _ _) (FR.nil _ _ 1)
 clear hv
 have hv := hv9
 clear hv9
 have HSN : Hid (InS ((1, .slice none 0 0, []) :: (2, .slice none 0 0, []) :: R) x1 (.slice none 0 0) (.slice none 0 0) ⟨x1, [], []⟩ []) := Lib.hid ⟨Mem.z, Mem.s Mem.z, fun p hp => (List.not_mem_nil hp).elim, rfl⟩
 have e : answered nw g ⟨t, out⟩ = ackC ⟨{ t with inn := ⟨x1, [], []⟩, wnd := g.wnd, una := g.ack, st := 3, rto := 4, tr := 0, tm := 0 }, out⟩ := by unfold answered; rw [if_neg (fun x => x.2 he), if_neg (by rw [h4]; decide), if_neg (by rw [h2]; decide)]; show (if has g.fl 16 = false then _ else _ : C) = _; rw [if_neg (by rw [h16]; decide)]; show ackC ⟨{ t with inn := ⟨Tp.u32 (g.seq + 1), [], []⟩, wnd := g.wnd, una := g.ack, st := 3, rto := 4, tr := 0, tm := 0 }, out⟩ = _; rw [hx1]
 rw [e]
 have y1 : ((g.ack : Int) != (t.nx : Int)) = false := by rw [he]; simp
 have y2 : ((g.ack : Int) == (t.nx : Int)) = true := by rw [he]; simp
 clear e hg hl he hx1
 go_enter Try.func33, Try.ntmps33
 go_wp2_with (first
   | ((with_reducible refine gBx 72 3 ?_); refine nwB hv #[.int .i64 g.src, .int .i64 g.dst, .int .u32 g.seq, .int .u32 g.ack, .int .i64 g.fl, .int .i64 g.wnd, .slice sa sn sk] 72 ?_; clear hv; intro b_3 w2 hv)
   | ((with_reducible refine gLd 72 ?_); refine ldV hv b_3 7 Try.underlying72 infoM7 ?_)
   | (go_at_call 58; (with_reducible refine (has16_any _ _ _ _ _ _ HFL.out _).mono ?_); rintro e w1 ⟨rfl, hn1⟩; replace hv := hv.new hn1; clear hn1))
 refine Any.wr2 13 [(4, [1000], none), (9, [1001], none)] [] hv ?_
 simp only [Any.someVals]
 iterate 13 apply Exists.intro
 repeat ((first
  | refine Any.E_off rfl ?_
  | ((with_reducible refine Any.gE 22 ?_); refine Any.eC 1000 (.int .u32 g.ack) Try.underlying22 ?_)
  | ((with_reducible refine Any.gE 22 ?_); refine Any.eC 1001 (.int .u32 t.nx) Try.underlying22 ?_)
  | refine Any.eV ?_); simp only [Act.put, sia, scs, scz])
 try any_goals exact undef
 refine Any.fin2 hv [1000, 1001] ?_; clear hv; intro w9 hv
 go_wp2_with (first
   | ((with_reducible refine gLd 72 ?_); refine ldV hv b_3 7 Try.underlying72 infoM7 ?_)
   | (go_at_call 58; (with_reducible refine (has4_any _ _ _ _ _ _ HFL.out _).mono ?_); rintro e w1 ⟨rfl, hn1⟩; replace hv := hv.new hn1; clear hn1)
   | (go_at_call 58; (with_reducible refine (has2_any _ _ _ _ _ _ HFL.out _).mono ?_); rintro e w1 ⟨rfl, hn1⟩; replace hv := hv.new hn1; clear hn1)
   | ((with_reducible refine gLd 22 ?_); refine ldC hv b_3 2 (.int .u32 g.seq) Try.underlying22 ?_)
   | ((with_reducible refine at_build (T := 27) ?_); refine wl_build rfl _ rfl (built_st _) ?_)
   | ((with_reducible refine at_store (T := 27) ?_); refine wl_stp rfl bc 11 rfl _ rfl _ hv.vars.ro hv.vars.so 3 infoStr rfl (by show 11 + 3 ≤ 21; decide) (by simp [Value.oneCell']) #[.int .i64 t.st, .int .i64 t.lo, .int .u32 t.ip, .int .i64 t.po, .int .u32 t.iss, .int .u32 t.una, .int .u32 t.nx, .slice da dn dk, .int .i64 t.wnd, .bool t.en, .bool t.se, .int .u32 x1, .slice none 0 0, .slice none 0 0, .bool t.ed, .int .u64 t.tm, .int .i64 t.rto, .int .i64 t.tr, .int .i64 t.er, .int .u64 nw, ov] (splice21 _ _ _ _ _ _ _ _ _ _ _ _ _ _ _ _ _ _ _ _ _ _ _ _) ?_; intro w2 hw2; replace hv := hv.sets (by repeat first | exact .z | apply SetM.s) hw2; clear hw2)
   | ((with_reducible refine gLd 3 ?_); refine ldC hv b_3 5 (.int .i64 g.wnd) Try.underlying3 ?_)
   | ((with_reducible refine gSt 3 ?_); refine stC hv bc 8 (.int .i64 g.wnd) ?_; clear hv; intro w2 hv)
   | ((with_reducible refine gLd 22 ?_); refine ldC hv b_3 3 (.int .u32 g.ack) Try.underlying22 ?_)
   | ((with_reducible refine gSt 22 ?_); refine stC hv bc 5 (.int .u32 g.ack) ?_; clear hv; intro w2 hv)
   | ((with_reducible refine gSt 3 ?_); refine stC hv bc 0 (.int .i64 3) ?_; clear hv; intro w2 hv)
   | (go_at_call 59; (refine (fresh_C (CM.of (A := [_]) (c := ⟨{ t with inn := ⟨x1, [], []⟩, wnd := g.wnd, una := g.ack, st := 3 }, out⟩) hv ⟨Mem.s (Mem.s HI.out.d), HSN.out, HCK.out, ⟨HG.out.ak, HI.out.u.nx, HI.out.u.iss, HX1.out, HI.out.u.ip⟩⟩ (HO.out.mono fun x hx => Mem.s (Mem.s hx)))).mono ?_); rintro e w1 ⟨R1, rfl, hc1⟩; obtain ⟨da1, dn1, dk1, ba1, bn1, bk1, pa1, pn1, pk1, l1, ov1, gs1, O1, hv1, hI1, hO1⟩ := CM.back (A := [_]) hc1; clear hv hc1; have hv : Mem w0 _ ([_] ++ (bc, #[.int .i64 3, .int .i64 t.lo, .int .u32 t.ip, .int .i64 t.po, .int .u32 t.iss, .int .u32 g.ack, .int .u32 t.nx, .slice da1 dn1 dk1, .int .i64 g.wnd, .bool t.en, .bool t.se, .int .u32 x1, .slice ba1 bn1 bk1, .slice pa1 pn1 pk1, .bool t.ed, .int .u64 0, .int .i64 4, .int .i64 0, .int .i64 t.er, .int .u64 nw, ov1]) :: (O1 ++ L)) _ := hv1; clear hv1; have HI1 := Lib.hid hI1; have HO1 := Lib.hid hO1; clear hI1 hO1; simp only [List.cons_append, List.nil_append] at hv)
   | (go_at_call 39; (refine (ack_C (CM.of (A := [_]) (c := ⟨{ t with inn := ⟨x1, [], []⟩, wnd := g.wnd, una := g.ack, st := 3, rto := 4, tr := 0, tm := 0 }, out⟩) hv HI1.out HO1.out) HL.out).mono ?_); rintro e w1 ⟨R3, rfl, hc1⟩; obtain ⟨da3, dn3, dk3, ba3, bn3, bk3, pa3, pn3, pk3, l3, ov3, gs3, O3, hv1, hI1, hO1⟩ := CM.back (A := [_]) hc1; clear hv hc1; have hv : Mem w0 _ ([_] ++ (bc, #[.int .i64 3, .int .i64 t.lo, .int .u32 t.ip, .int .i64 t.po, .int .u32 t.iss, .int .u32 g.ack, .int .u32 t.nx, .slice da3 dn3 dk3, .int .i64 g.wnd, .bool t.en, .bool t.se, .int .u32 x1, .slice ba3 bn3 bk3, .slice pa3 pn3 pk3, .bool t.ed, .int .u64 0, .int .i64 4, .int .i64 0, .int .i64 t.er, .int .u64 nw, ov3]) :: (O3 ++ L)) _ := hv1; clear hv1; have HI3 := Lib.hid hI1; have HO3 := Lib.hid hO1; clear hI1 hO1; simp only [List.cons_append, List.nil_append] at hv))
 go_end0
 refine CMP.addR (x := (2, .slice none 0 0, [])) (CMP.addR (x := (1, .slice none 0 0, [])) ?_)
 exact CMP.app (R2 := R1) ⟨R3, rfl, CM.of (A := []) (O := O3) (c := ackC ⟨{ t with inn := ⟨x1, [], []⟩, wnd := g.wnd, una := g.ack, st := 3, rto := 4, tr := 0, tm := 0 }, out⟩) hv.drop HI3.out HO3.out⟩
theorem answered_C (hc : CM w0 w bc L R nw ⟨t, out⟩) (hg : InG R g sa sn sk) (hl : out.length ≤ 400) (hr : t.rto ≤ 64) : Calls Try.prog 33 #[.pointer (some ⟨bc, 0, none⟩), .agg #[.int .i64 g.src, .int .i64 g.dst, .int .u32 g.seq, .int .u32 g.ack, .int .i64 g.fl, .int .i64 g.wnd, .slice sa sn sk]] w (CMP w0 bc L R nw (.tuple #[]) (answered nw g ⟨t, out⟩)) := by
 rcases Bool.eq_false_or_eq_true (has g.fl 16) with h16 | h16
 · by_cases he : g.ack = t.nx
   · rcases Bool.eq_false_or_eq_true (has g.fl 4) with h4 | h4
     · exact answered_k hc hg hl (.b1 h16 he h4)
     · rcases Bool.eq_false_or_eq_true (has g.fl 2) with h2 | h2
       · exact answered_D2 hc hg hl h16 he h4 h2
       · exact answered_k hc hg hl (.c1 h16 he h4 h2)
   · rcases Bool.eq_false_or_eq_true (has g.fl 4) with h4 | h4
     · exact answered_k hc hg hl (.a1 h16 he h4)
     · exact answered_k hc hg hl (.a2 h16 he h4)
 · rcases Bool.eq_false_or_eq_true (has g.fl 4) with h4 | h4
   · exact answered_k hc hg hl (.b2 h16 h4)
   · rcases Bool.eq_false_or_eq_true (has g.fl 2) with h2 | h2
     · exact answered_D1 hc hg hl h16 h4 h2 hr
     · exact answered_k hc hg hl (.c2 h16 h4 h2)
end Go.Proofs.Ythenepdbgeafkaa
end

section
/-
 Connections (layer 26): a segment comes, in a state in which there are two ends.
-/
namespace Go.Proofs.Tp
open Go Go.RowKit Go.Proofs.Wi
variable {t : T} {g : G} {nw : Nat}
def TknP (w0 : World) (bc : Nat) (L : LV) (R : LR) (nw : Nat) (g : G) (c : C) (e : Ending) (w' : World) : Prop :=
 ∃ c' R', e = .returned (.tuple #[]) ∧ Taken nw g c c' ∧ CM w0 w' bc L (R' ++ R) nw c'
theorem TknP.of {w0 : World} {bc nw : Nat} {L : LV} {R : LR} {c c' : C} {w' : World} {R2 : LR} (h : Taken nw g c c') (hc : CM w0 w' bc L R2 nw c') (hs : ∀ x ∈ R, x ∈ R2) : TknP w0 bc L R nw g c (.returned (.tuple #[])) w' := by
 obtain ⟨da, dn, dk, ba, bn, bk, pa, pn, pk, l, ov, gs, O, hv, hI, hO⟩ := hc
 have hy : ∀ x ∈ R2, x ∈ R2 ++ R := fun x hx => List.mem_append_left _ hx
 exact ⟨c', R2, rfl, h, da, dn, dk, ba, bn, bk, pa, pn, pk, l, ov, gs, O, hv.keepR (fun x hx => (List.mem_append.1 hx).elim id (hs x)), hI.mono hy, hO.mono hy⟩
theorem has_22 : ∀ fl : Fin 32, (bits .and .i64 ((fl.val : Nat) : Int) 22 == 2) = (fl.val / 2 % 2 == 1 && fl.val / 4 % 2 == 0 && fl.val / 16 % 2 == 0) := by decide +kernel
theorem and_22 {fl : Nat} (h : fl ≤ 31) : (bits .and .i64 (fl : Int) 22 == 2) = (fl / 2 % 2 == 1 && fl / 4 % 2 == 0 && fl / 16 % 2 == 0) := has_22 ⟨fl, by omega⟩
def NotAgain (g : G) (t : T) (x1 : Nat) : Prop := (((t.st : Int) == 2) = false ∧ True) ∨ (((t.st : Int) == 2) = true ∧ (bits .and .i64 (g.fl : Int) 22 == 2) = false) ∨ (((t.st : Int) == 2) = true ∧ (bits .and .i64 (g.fl : Int) 22 == 2) = true ∧ ((x1 : Int) == (t.inn.next : Int)) = false)
theorem again_or {x1 : Nat} (hf : g.fl ≤ 31) (hx : u32 (g.seq + 1) = x1) : (againSyn g t = true ∧ ((t.st : Int) == 2) = true ∧ (bits .and .i64 (g.fl : Int) 22 == 2) = true ∧ ((x1 : Int) == (t.inn.next : Int)) = true) ∨ (againSyn g t = false ∧ NotAgain g t x1) := by
 unfold againSyn NotAgain
 rw [and_22 hf, hx]
 have e1 : ((t.st : Int) == 2) = (t.st == 2) := by rw [Bool.eq_iff_iff]; simp only [beq_iff_eq]; omega
 have e2 : ((x1 : Int) == (t.inn.next : Int)) = (x1 == t.inn.next) := by rw [Bool.eq_iff_iff]; simp only [beq_iff_eq]; omega
 rw [e1, e2]
 cases (t.st == 2) <;> cases (g.fl / 2 % 2 == 1 && g.fl / 4 % 2 == 0 && g.fl / 16 % 2 == 0) <;> cases (x1 == t.inn.next) <;> simp
theorem goneEnd_out (nw : Nat) (c : C) : (goneEnd nw c).1.out = c.out := by
 unfold goneEnd
 split
 · rfl
 · split
   · rfl
   · split <;> rfl
theorem gone_out (nw n : Nat) (c : C) : (gone nw n c).1.out = c.out := by
 unfold gone
 split
 · rfl
 · rw [goneEnd_out]; rfl
theorem acked_out {c : C} (h : (acked nw g c).2 = true) : (acked nw g c).1.out = c.out := by
 unfold acked at h ⊢
 by_cases h2 : c.t.st = 2
 · rw [if_pos h2] at h ⊢
   unfold joined at h ⊢
   split at h
   · cases h
   · rw [if_neg (by assumption)]; rfl
 · rw [if_neg h2] at h ⊢
   by_cases h3 : flight c.t < dif g.ack c.t.una
   · rw [if_pos h3] at h; cases h
   · rw [if_neg h3] at h ⊢
     by_cases h4 : dif g.ack c.t.una < 0
     · rw [if_pos h4]
     · rw [if_neg h4] at h ⊢
       show (if 0 < dif g.ack c.t.una then _ else _ : C × Bool).1.out = _
       split
       · rw [gone_out]
       · split <;> rfl
theorem ended_out (nw : Nat) (c : C) : (ended nw c).out = c.out := by
 unfold ended
 show (if c.t.st = 3 then _ else if c.t.st = 4 then _ else if c.t.st = 5 then _ else _ : C).out = c.out
 split
 · rfl
 · split
   · rfl
   · split <;> rfl
theorem carried_out {c c' : C} (h : Carried nw g c c') : c'.out = c.out := by
 obtain ⟨s', _, rfl⟩ := h
 show (if has g.fl 1 = false then _ else if c.t.st = 9 then _ else if openS c.t = true ∧ s'.next = u32 (g.seq + g.data.length) then _ else _ : C).out = c.out
 split
 · rfl
 · split
   · rfl
   · split
     · rw [ended_out]
     · rfl
theorem gone_le {out : List G} {wd n : Nat} (hn : Nm t) (h0 : 0 < n) (h : (n : Int) ≤ flight t) : goneM n ⟨{ t with wnd := wd }, out⟩ ≤ t.data.length := by
 have h2 := hn.2
 unfold own at h2
 unfold goneM goneE
 show (if (t.se && (n : Int) == flight t) = true then n - 1 else n) ≤ t.data.length
 rcases Bool.eq_false_or_eq_true t.se with hs | hs
 · rw [hs] at h2 ⊢
   simp only [Bool.true_and, beq_iff_eq]
   rw [if_pos ⟨rfl, by omega⟩] at h2
   split <;> omega
 · rw [hs] at h2 ⊢
   simp only [Bool.false_and, Bool.false_eq_true, if_false]
   rw [if_neg (by simp)] at h2
   omega
inductive TkC (nw : Nat) (g : G) (t : T) : C → Prop
 | nr (hf : fits g t = false) (h4 : has g.fl 4 = true) : TkC nw g t ⟨t, []⟩
 | nw (hf : fits g t = false) (h4 : has g.fl 4 = false) (h9 : t.st = 9) (h1 : has g.fl 1 = true) : TkC nw g t (ackC (wait nw 32 ⟨t, []⟩))
 | na (hf : fits g t = false) (h4 : has g.fl 4 = false) (h9 : t.st ≠ 9) : TkC nw g t (ackC ⟨t, []⟩)
 | nb (hf : fits g t = false) (h4 : has g.fl 4 = false) (h9 : t.st = 9) (h1 : has g.fl 1 = false) : TkC nw g t (ackC ⟨t, []⟩)
 | r (hf : fits g t = true) (h4 : has g.fl 4 = true) : TkC nw g t (over 260 ⟨t, []⟩)
 | s (hf : fits g t = true) (h4 : has g.fl 4 = false) (h2 : has g.fl 2 = true) : TkC nw g t (ackC ⟨t, []⟩)
 | n (hf : fits g t = true) (h4 : has g.fl 4 = false) (h2 : has g.fl 2 = false) (h16 : has g.fl 16 = false) : TkC nw g t ⟨t, []⟩
theorem TkC.taken {c : C} (ha : againSyn g t = false) (h : TkC nw g t c) : Taken nw g ⟨t, []⟩ c := by
 unfold Taken
 rw [if_neg (by rw [ha]; decide)]
 rcases h with ⟨hf, h4⟩ | ⟨hf, h4, h9, h1⟩ | ⟨hf, h4, h9⟩ | ⟨hf, h4, h9, h1⟩ | ⟨hf, h4⟩ | ⟨hf, h4, h2⟩ | ⟨hf, h4, h2, h16⟩
 · rw [if_pos hf, if_pos h4]
 · rw [if_pos hf, if_neg (by rw [h4]; decide), if_pos ⟨h9, h1⟩]
 · rw [if_pos hf, if_neg (by rw [h4]; decide), if_neg (fun h => h9 h.1)]
 · rw [if_pos hf, if_neg (by rw [h4]; decide), if_neg (fun h => by rw [h1] at h; cases h.2)]
 · rw [if_neg (by rw [hf]; decide), if_pos h4]
 · rw [if_neg (by rw [hf]; decide), if_neg (by rw [h4]; decide), if_pos h2]
 · rw [if_neg (by rw [hf]; decide), if_neg (by rw [h4]; decide), if_neg (by rw [h2]; decide), if_pos h16]
end Go.Proofs.Tp
namespace Go.Proofs.Ythenepdbgeafkaa
open Go.Proofs.Wi Go.RowKit Go.Proofs Go.Proofs.Tp
theorem taken_again {w0 w : World} {bc nw : Nat} {L : LV} {R : LR} {t : T} (hc : CM w0 w bc L R nw ⟨t, []⟩) {g : G} {sa : Option Addr} {sn sk : Nat} (hg : InG R g sa sn sk) (hck : chkT t = true) (hs2 : 2 ≤ t.st) {x1 : Nat} (hx1 : Tp.u32 (g.seq + 1) = x1) (ha : againSyn g t = true) (y0 : ((t.st : Int) == 2) = true) (y1 : (bits .and .i64 (g.fl : Int) 22 == 2) = true) (y2 : ((x1 : Int) == (t.inn.next : Int)) = true) : Calls Try.prog 34 #[.pointer (some ⟨bc, 0, none⟩), .agg #[.int .i64 g.src, .int .i64 g.dst, .int .u32 g.seq, .int .u32 g.ack, .int .i64 g.fl, .int .i64 g.wnd, .slice sa sn sk]] w (TknP w0 bc L R nw g ⟨t, []⟩) := by
 obtain ⟨da, dn, dk, ba, bn, bk, pa, pn, pk, l, ov, gs, O, hv0, hI, hO⟩ := hc
 have hv : Mem w0 w ((bc, #[.int .i64 t.st, .int .i64 t.lo, .int .u32 t.ip, .int .i64 t.po, .int .u32 t.iss, .int .u32 t.una, .int .u32 t.nx, .slice da dn dk, .int .i64 t.wnd, .bool t.en, .bool t.se, .int .u32 t.inn.next, .slice ba bn bk, .slice pa pn pk, .bool t.ed, .int .u64 t.tm, .int .i64 t.rto, .int .i64 t.tr, .int .i64 t.er, .int .u64 nw, ov]) :: (O ++ L)) R := hv0
 have HI := Lib.hid hI
 have HO := Lib.hid hO
 clear hv0 hI hO
 have HG := Lib.hid hg
 have HFL := Lib.hid (chkG_facts hg.ck).2.2.2.2.1
 have HCT := Lib.hid hck
 have q1 : IntKind.u32.wrap ((g.seq : Int) + 1) = (x1 : Int) := by rw [← hx1]; unfold Tp.u32; simp [IntKind.wrap, IntKind.bits, IntKind.signed]
 have HTK : Hid (Taken nw g ⟨t, []⟩ (send 18 t.una [] ⟨t, []⟩)) := Lib.hid (by unfold Taken; rw [if_pos ha])
 have HL : Hid (([] : List G).length ≤ 1000) := Lib.hid (by decide)
 clear hg hck hs2 hx1 ha
 go_enter Try.func34, Try.ntmps34
 go_wp2_with (first
   | ((with_reducible refine gBx 72 3 ?_); refine nwB hv #[.int .i64 g.src, .int .i64 g.dst, .int .u32 g.seq, .int .u32 g.ack, .int .i64 g.fl, .int .i64 g.wnd, .slice sa sn sk] 72 ?_; clear hv; intro b_3 w2 hv))
 refine Any.wr2 27 [(4, [1001], none), (9, [1000], none), (16, [1000], none), (23, [1001], none)] [] hv ?_
 simp only [Any.someVals]
 iterate 27 apply Exists.intro
 repeat ((first
  | refine Any.E_off rfl ?_
  | ((with_reducible refine Any.gE 3 ?_); refine Any.eC 1001 (.int .i64 t.st) Try.underlying3 ?_)
  | ((with_reducible refine Any.gE 3 ?_); refine Any.eC 1000 (.int .i64 g.fl) Try.underlying3 ?_)
  | ((with_reducible refine Any.gE 22 ?_); refine Any.eC 1000 (.int .u32 g.seq) Try.underlying22 ?_)
  | ((with_reducible refine Any.gE 22 ?_); refine Any.eC 1001 (.int .u32 t.inn.next) Try.underlying22 ?_)
  | refine Any.eV ?_); simp only [Act.put, sia, scs, scz])
 try any_goals exact undef
 refine Any.fin2 hv [1000, 1001] ?_; clear hv; intro w9 hv
 go_wp2_with (first
   | ((with_reducible refine gLd 22 ?_); refine ldC hv bc 5 (.int .u32 t.una) Try.underlying22 ?_)
   | (go_at_call 44; (refine (snn18 (CM.of (A := [_]) (c := ⟨t, []⟩) hv HI.out HO.out) HL.out).mono ?_); rintro e w1 ⟨R1, rfl, hc1⟩; obtain ⟨da1, dn1, dk1, ba1, bn1, bk1, pa1, pn1, pk1, l1, ov1, gs1, O1, hv1, hI1, hO1⟩ := CM.back (A := [_]) hc1; clear hv hc1; have hv : Mem w0 _ ([_] ++ (bc, #[.int .i64 t.st, .int .i64 t.lo, .int .u32 t.ip, .int .i64 t.po, .int .u32 t.iss, .int .u32 t.una, .int .u32 t.nx, .slice da1 dn1 dk1, .int .i64 t.wnd, .bool t.en, .bool t.se, .int .u32 t.inn.next, .slice ba1 bn1 bk1, .slice pa1 pn1 pk1, .bool t.ed, .int .u64 t.tm, .int .i64 t.rto, .int .i64 t.tr, .int .i64 t.er, .int .u64 nw, ov1]) :: (O1 ++ L)) _ := hv1; clear hv1; have HI1 := Lib.hid hI1; have HO1 := Lib.hid hO1; clear hI1 hO1; simp only [List.cons_append, List.nil_append] at hv))
 try rw [Exit.noGoto_ret]
 try simp only [Exit.inBlock, Exit.then]
 refine bodyPost_ret (results_none rfl _ _ _) rfl ?_
 exact TknP.of HTK.out (CM.of (A := []) (O := O1) (c := send 18 t.una [] ⟨t, []⟩) hv.drop HI1.out HO1.out) (fun x hx => mem_app R1 hx)
theorem taken_leaf {w0 w : World} {bc nw : Nat} {L : LV} {R : LR} {t : T} (hc : CM w0 w bc L R nw ⟨t, []⟩) {g : G} {sa : Option Addr} {sn sk : Nat} (hg : InG R g sa sn sk) (hck : chkT t = true) (hs2 : 2 ≤ t.st) {x1 : Nat} (hx1 : Tp.u32 (g.seq + 1) = x1) (ha : againSyn g t = false) (hna : NotAgain g t x1) {c : C} (hc9 : TkC nw g t c) : Calls Try.prog 34 #[.pointer (some ⟨bc, 0, none⟩), .agg #[.int .i64 g.src, .int .i64 g.dst, .int .u32 g.seq, .int .u32 g.ack, .int .i64 g.fl, .int .i64 g.wnd, .slice sa sn sk]] w (TknP w0 bc L R nw g ⟨t, []⟩) := by
 obtain ⟨da, dn, dk, ba, bn, bk, pa, pn, pk, l, ov, gs, O, hv0, hI, hO⟩ := hc
 have hv : Mem w0 w ((bc, #[.int .i64 t.st, .int .i64 t.lo, .int .u32 t.ip, .int .i64 t.po, .int .u32 t.iss, .int .u32 t.una, .int .u32 t.nx, .slice da dn dk, .int .i64 t.wnd, .bool t.en, .bool t.se, .int .u32 t.inn.next, .slice ba bn bk, .slice pa pn pk, .bool t.ed, .int .u64 t.tm, .int .i64 t.rto, .int .i64 t.tr, .int .i64 t.er, .int .u64 nw, ov]) :: (O ++ L)) R := hv0
 have HI := Lib.hid hI
 have HO := Lib.hid hO
 clear hv0 hI hO
 have HG := Lib.hid hg
 have HFL := Lib.hid (chkG_facts hg.ck).2.2.2.2.1
 have HCT := Lib.hid hck
 have q1 : IntKind.u32.wrap ((g.seq : Int) + 1) = (x1 : Int) := by rw [← hx1]; unfold Tp.u32; simp [IntKind.wrap, IntKind.bits, IntKind.signed]
 have HTK := Lib.hid (hc9.taken ha)
 clear hg hck hs2 hx1 ha
 rcases hc9 with ⟨hf, h4⟩ | ⟨hf, h4, h9, h1⟩ | ⟨hf, h4, h8⟩ | ⟨hf, h4, h9, h1⟩ | ⟨hf, h4⟩ | ⟨hf, h4, h2⟩ | ⟨hf, h4, h2, h16⟩
 all_goals try (have y9 : ((t.st : Int) == 9) = true := (by rw [h9]; rfl); clear h9)
 all_goals try (have y9 : ((t.st : Int) == 9) = false := (by rw [beq_eq_false_iff_ne]; omega); clear h8)
 all_goals rcases hna with ⟨y0, -⟩ | ⟨y0, y1⟩ | ⟨y0, y1, y2⟩
 all_goals
   go_enter Try.func34, Try.ntmps34
   go_wp2_with (first
     | ((with_reducible refine gBx 72 3 ?_); refine nwB hv #[.int .i64 g.src, .int .i64 g.dst, .int .u32 g.seq, .int .u32 g.ack, .int .i64 g.fl, .int .i64 g.wnd, .slice sa sn sk] 72 ?_; clear hv; intro b_3 w2 hv))
   refine Any.wr2 27 [(4, [1001], none), (9, [1000], none), (16, [1000], none), (23, [1001], none)] [] hv ?_
   simp only [Any.someVals]
   iterate 27 apply Exists.intro
   repeat ((first
    | refine Any.E_off rfl ?_
    | ((with_reducible refine Any.gE 3 ?_); refine Any.eC 1001 (.int .i64 t.st) Try.underlying3 ?_)
    | ((with_reducible refine Any.gE 3 ?_); refine Any.eC 1000 (.int .i64 g.fl) Try.underlying3 ?_)
    | ((with_reducible refine Any.gE 22 ?_); refine Any.eC 1000 (.int .u32 g.seq) Try.underlying22 ?_)
    | ((with_reducible refine Any.gE 22 ?_); refine Any.eC 1001 (.int .u32 t.inn.next) Try.underlying22 ?_)
    | refine Any.eV ?_); simp only [Act.put, sia, scs, scz])
   try any_goals exact undef
   refine Any.fin2 hv [1000, 1001] ?_; clear hv; intro w9 hv
   go_wp2_with (first
     | ((with_reducible refine gLd 72 ?_); refine ldV hv b_3 7 Try.underlying72 infoM7 ?_)
     | (go_at_call 60; (refine (fits_C (CM.of (A := [_]) (c := ⟨t, []⟩) hv HI.out HO.out) HG.out (by decide)).mono ?_); rintro e w1 ⟨R1, rfl, hc1⟩; obtain ⟨da1, dn1, dk1, ba1, bn1, bk1, pa1, pn1, pk1, l1, ov1, gs1, O1, hv1, hI1, hO1⟩ := CM.back (A := [_]) hc1; clear hv hc1; have hv : Mem w0 _ ([_] ++ (bc, #[.int .i64 t.st, .int .i64 t.lo, .int .u32 t.ip, .int .i64 t.po, .int .u32 t.iss, .int .u32 t.una, .int .u32 t.nx, .slice da1 dn1 dk1, .int .i64 t.wnd, .bool t.en, .bool t.se, .int .u32 t.inn.next, .slice ba1 bn1 bk1, .slice pa1 pn1 pk1, .bool t.ed, .int .u64 t.tm, .int .i64 t.rto, .int .i64 t.tr, .int .i64 t.er, .int .u64 nw, ov1]) :: (O1 ++ L)) _ := hv1; clear hv1; have HI1 := Lib.hid hI1; have HO1 := Lib.hid hO1; clear hI1 hO1; simp only [List.cons_append, List.nil_append] at hv)
     | (go_at_call 58; (with_reducible refine (has4_any _ _ _ _ _ _ HFL.out _).mono ?_); rintro e w1 ⟨rfl, hn1⟩; replace hv := hv.new hn1; clear hn1)
     | (go_at_call 58; (with_reducible refine (has2_any _ _ _ _ _ _ HFL.out _).mono ?_); rintro e w1 ⟨rfl, hn1⟩; replace hv := hv.new hn1; clear hn1)
     | (go_at_call 58; (with_reducible refine (has16_any _ _ _ _ _ _ HFL.out _).mono ?_); rintro e w1 ⟨rfl, hn1⟩; replace hv := hv.new hn1; clear hn1)
     | (go_at_call 58; (with_reducible refine (has1_any _ _ _ _ _ _ HFL.out _).mono ?_); rintro e w1 ⟨rfl, hn1⟩; replace hv := hv.new hn1; clear hn1)
     | ((with_reducible refine gLd 3 ?_); refine ldC hv bc 0 (.int .i64 t.st) Try.underlying3 ?_)
     | (go_at_call 39; (refine (ack_C (CM.of (A := [_]) (c := ⟨{ t with tm := later nw 32 }, []⟩) hv HI3.out HO3.out) (by decide)).mono ?_); rintro e w1 ⟨R5, rfl, hc1⟩; obtain ⟨da5, dn5, dk5, ba5, bn5, bk5, pa5, pn5, pk5, l5, ov5, gs5, O5, hv1, hI1, hO1⟩ := CM.back (A := [_]) hc1; clear hv hc1; have hv : Mem w0 _ ([_] ++ (bc, #[.int .i64 t.st, .int .i64 t.lo, .int .u32 t.ip, .int .i64 t.po, .int .u32 t.iss, .int .u32 t.una, .int .u32 t.nx, .slice da5 dn5 dk5, .int .i64 t.wnd, .bool t.en, .bool t.se, .int .u32 t.inn.next, .slice ba5 bn5 bk5, .slice pa5 pn5 pk5, .bool t.ed, .int .u64 (later nw 32 : Nat), .int .i64 t.rto, .int .i64 t.tr, .int .i64 t.er, .int .u64 nw, ov5]) :: (O5 ++ L)) _ := hv1; clear hv1; have HI5 := Lib.hid hI1; have HO5 := Lib.hid hO1; clear hI1 hO1; simp only [List.cons_append, List.nil_append] at hv)
     | (go_at_call 46; (refine (wait_32 (CM.of (A := [_]) (c := ⟨t, []⟩) hv HI1.out HO1.out)).mono ?_); rintro e w1 ⟨R3, rfl, hc1⟩; obtain ⟨da3, dn3, dk3, ba3, bn3, bk3, pa3, pn3, pk3, l3, ov3, gs3, O3, hv1, hI1, hO1⟩ := CM.back (A := [_]) hc1; clear hv hc1; have hv : Mem w0 _ ([_] ++ (bc, #[.int .i64 t.st, .int .i64 t.lo, .int .u32 t.ip, .int .i64 t.po, .int .u32 t.iss, .int .u32 t.una, .int .u32 t.nx, .slice da3 dn3 dk3, .int .i64 t.wnd, .bool t.en, .bool t.se, .int .u32 t.inn.next, .slice ba3 bn3 bk3, .slice pa3 pn3 pk3, .bool t.ed, .int .u64 (later nw 32 : Nat), .int .i64 t.rto, .int .i64 t.tr, .int .i64 t.er, .int .u64 nw, ov3]) :: (O3 ++ L)) _ := hv1; clear hv1; have HI3 := Lib.hid hI1; have HO3 := Lib.hid hO1; clear hI1 hO1; simp only [List.cons_append, List.nil_append] at hv)
     | (go_at_call 30; (refine (over_260 (CM.of (A := [_]) (c := ⟨t, []⟩) hv HI1.out HO1.out)).mono ?_); rintro e w1 ⟨R3, rfl, hc1⟩; obtain ⟨da3, dn3, dk3, ba3, bn3, bk3, pa3, pn3, pk3, l3, ov3, gs3, O3, hv1, hI1, hO1⟩ := CM.back (A := [_]) hc1; clear hv hc1; have hv : Mem w0 _ ([_] ++ (bc, #[.int .i64 0, .int .i64 t.lo, .int .u32 t.ip, .int .i64 t.po, .int .u32 t.iss, .int .u32 t.una, .int .u32 t.nx, .slice da3 dn3 dk3, .int .i64 t.wnd, .bool t.en, .bool t.se, .int .u32 t.inn.next, .slice ba3 bn3 bk3, .slice pa3 pn3 pk3, .bool t.ed, .int .u64 0, .int .i64 t.rto, .int .i64 t.tr, .int .i64 260, .int .u64 nw, ov3]) :: (O3 ++ L)) _ := hv1; clear hv1; have HI3 := Lib.hid hI1; have HO3 := Lib.hid hO1; clear hI1 hO1; simp only [List.cons_append, List.nil_append] at hv)
     | (go_at_call 39; (refine (ack_C (CM.of (A := [_]) (c := ⟨t, []⟩) hv HI1.out HO1.out) (by decide)).mono ?_); rintro e w1 ⟨R3, rfl, hc1⟩; obtain ⟨da3, dn3, dk3, ba3, bn3, bk3, pa3, pn3, pk3, l3, ov3, gs3, O3, hv1, hI1, hO1⟩ := CM.back (A := [_]) hc1; clear hv hc1; have hv : Mem w0 _ ([_] ++ (bc, #[.int .i64 t.st, .int .i64 t.lo, .int .u32 t.ip, .int .i64 t.po, .int .u32 t.iss, .int .u32 t.una, .int .u32 t.nx, .slice da3 dn3 dk3, .int .i64 t.wnd, .bool t.en, .bool t.se, .int .u32 t.inn.next, .slice ba3 bn3 bk3, .slice pa3 pn3 pk3, .bool t.ed, .int .u64 t.tm, .int .i64 t.rto, .int .i64 t.tr, .int .i64 t.er, .int .u64 nw, ov3]) :: (O3 ++ L)) _ := hv1; clear hv1; have HI3 := Lib.hid hI1; have HO3 := Lib.hid hO1; clear hI1 hO1; simp only [List.cons_append, List.nil_append] at hv))
   try rw [Exit.noGoto_ret]
   try simp only [Exit.inBlock, Exit.then]
   refine bodyPost_ret (results_none rfl _ _ _) rfl ?_
   first
     | exact TknP.of HTK.out (CM.of (A := []) (O := O5) hv.drop HI5.out HO5.out) (fun x hx => mem_app R5 (mem_app R3 (mem_app R1 hx)))
     | exact TknP.of HTK.out (CM.of (A := []) (O := O3) hv.drop HI3.out HO3.out) (fun x hx => mem_app R3 (mem_app R1 hx))
     | exact TknP.of HTK.out (CM.of (A := []) (O := O1) hv.drop HI1.out HO1.out) (fun x hx => mem_app R1 hx)
end Go.Proofs.Ythenepdbgeafkaa
end
