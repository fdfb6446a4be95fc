import Derived.Test.YthenepdbgeafkaaGAV
import Derived.Test.YthenepdbgeafkaaGAU
import Derived.Test.YthenepdbgeafkaaTcQ
set_option linter.unusedSimpArgs false
set_option linter.unusedVariables false
set_option maxRecDepth 100000
set_option maxHeartbeats 16000000
section
/-
 Connections (layer 26): what an acknowledgement does; the other one's end.
-/
namespace Go.Proofs.Tp
open Go Go.RowKit Go.Proofs.Wi
inductive AkC (g : G) (t : T) (out : List G) : C × Bool → Prop
 | gt (h : flight t < dif g.ack t.una) : AkC g t out (ackC ⟨t, out⟩, false)
 | lt (h : ¬ flight t < dif g.ack t.una) (h3 : dif g.ack t.una < 0) : AkC g t out (⟨t, out⟩, true)
 | z (h : ¬ flight t < dif g.ack t.una) (h3 : ¬ dif g.ack t.una < 0) (h4 : ¬ 0 < dif g.ack t.una) (h5 : g.wnd = 0) : AkC g t out (⟨{ t with wnd := g.wnd, tr := 0 }, out⟩, true)
 | s (h : ¬ flight t < dif g.ack t.una) (h3 : ¬ dif g.ack t.una < 0) (h4 : ¬ 0 < dif g.ack t.una) (h5 : ¬ g.wnd = 0) : AkC g t out (⟨{ t with wnd := g.wnd }, out⟩, true)
theorem AkC.eq {nw : Nat} {g : G} {t : T} {out : List G} {p : C × Bool} (h2 : t.st ≠ 2) (h : AkC g t out p) : acked nw g ⟨t, out⟩ = p := by
 unfold acked
 rw [if_neg h2]
 rcases h with ⟨h⟩ | ⟨h, h3⟩ | ⟨h, h3, h4, h5⟩ | ⟨h, h3, h4, h5⟩
 · rw [if_pos h]
 · rw [if_neg h, if_pos h3]
 · rw [if_neg h, if_neg h3]; show (if 0 < dif g.ack t.una then _ else _) = _; rw [if_neg h4, if_pos h5]
 · rw [if_neg h, if_neg h3]; show (if 0 < dif g.ack t.una then _ else _) = _; rw [if_neg h4, if_neg h5]
inductive EdC (nw : Nat) (t : T) (out : List G) (x : Nat) : C → Prop
 | a (h3 : t.st = 3) : EdC nw t out x ⟨{ t with inn := ⟨x, t.inn.bytes, []⟩, ed := true, st := 6 }, out⟩
 | b (h4 : t.st = 4) : EdC nw t out x ⟨{ t with inn := ⟨x, t.inn.bytes, []⟩, ed := true, st := 7 }, out⟩
 | c (h5 : t.st = 5) : EdC nw t out x (rest nw ⟨{ t with inn := ⟨x, t.inn.bytes, []⟩, ed := true }, out⟩)
 | d (h6 : t.st ≠ 3) (h7 : t.st ≠ 4) (h8 : t.st ≠ 5) : EdC nw t out x ⟨{ t with inn := ⟨x, t.inn.bytes, []⟩, ed := true }, out⟩
theorem EdC.eq {nw : Nat} {t : T} {out : List G} {x : Nat} {c : C} (hx : Tp.u32 (t.inn.next + 1) = x) (h : EdC nw t out x c) : ended nw ⟨t, out⟩ = c := by
 unfold ended
 rw [hx]
 show (if t.st = 3 then _ else if t.st = 4 then _ else if t.st = 5 then _ else _ : C) = _
 rcases h with ⟨h⟩ | ⟨h⟩ | ⟨h⟩ | ⟨h3, h4, h5⟩
 · rw [if_pos h]
 · rw [if_neg (by omega), if_pos h]
 · rw [if_neg (by omega), if_neg (by omega), if_pos h]
 · rw [if_neg h3, if_neg h4, if_neg h5]
end Go.Proofs.Tp
namespace Go.Proofs.Ythenepdbgeafkaa
open Go.Proofs.Wi Go.RowKit Go.Proofs Go.Proofs.Tp
variable {w0 w : World} {L : LV} {R : LR} {bc nw : Nat} {t : T} {out : List G} {g : G} {sa : Option Addr} {sn sk : Nat}
theorem acked_2 (hc : CM w0 w bc L R nw ⟨t, out⟩) (hg : InG R g sa sn sk) (hl : out.length ≤ 400) (h : t.st = 2) : Calls Try.prog 61 #[.pointer (some ⟨bc, 0, none⟩), .agg #[.int .i64 g.src, .int .i64 g.dst, .int .u32 g.seq, .int .u32 g.ack, .int .i64 g.fl, .int .i64 g.wnd, .slice sa sn sk]] w (CMP w0 bc L R nw (.bool (acked nw g ⟨t, out⟩).2) (acked nw g ⟨t, out⟩).1) := by
 obtain ⟨da, dn, dk, ba, bn, bk, pa, pn, pk, l, ov, gs, O, hv, HI, HO⟩ := hc.get
 clear hc
 have HL4 := Lib.hid hl
 have HL : Hid (out.length ≤ 1000) := Lib.hid (by omega)
 have HG := Lib.hid hg
 have e : acked nw g ⟨t, out⟩ = joined g ⟨t, out⟩ := by unfold acked; rw [if_pos h]
 rw [e]
 have y1 : ((t.st : Int) == 2) = true := by rw [h]; rfl
 clear h e hg hl
 go_enter Try.func61, Try.ntmps61
 go_wp2_with (first
   | ((with_reducible refine gBx 72 3 ?_); refine nwB hv #[.int .i64 g.src, .int .i64 g.dst, .int .u32 g.seq, .int .u32 g.ack, .int .i64 g.fl, .int .i64 g.wnd, .slice sa sn sk] 72 ?_; clear hv; intro b_3 w2 hv)
   | ((with_reducible refine gLd 3 ?_); refine ldC hv bc 0 (.int .i64 t.st) Try.underlying3 ?_)
   | ((with_reducible refine gLd 72 ?_); refine ldV hv b_3 7 Try.underlying72 infoM7 ?_)
   | (go_at_call 71; (refine (joined_C (CM.of (A := [_]) (c := ⟨t, out⟩) hv HI.out HO.out) HG.out HL4.out).mono ?_); rintro e w1 ⟨R1, rfl, hc1⟩; obtain ⟨da1, dn1, dk1, ba1, bn1, bk1, pa1, pn1, pk1, l1, ov1, gs1, O1, hv1, hI1, hO1⟩ := CM.back (A := [_]) hc1; clear hv hc1; have hv : Mem w0 _ ([_] ++ (bc, #[.int .i64 ((joined g ⟨t, out⟩).1.t.st : Nat), .int .i64 ((joined g ⟨t, out⟩).1.t.lo : Nat), .int .u32 ((joined g ⟨t, out⟩).1.t.ip : Nat), .int .i64 ((joined g ⟨t, out⟩).1.t.po : Nat), .int .u32 ((joined g ⟨t, out⟩).1.t.iss : Nat), .int .u32 ((joined g ⟨t, out⟩).1.t.una : Nat), .int .u32 ((joined g ⟨t, out⟩).1.t.nx : Nat), .slice da1 dn1 dk1, .int .i64 ((joined g ⟨t, out⟩).1.t.wnd : Nat), .bool (joined g ⟨t, out⟩).1.t.en, .bool (joined g ⟨t, out⟩).1.t.se, .int .u32 ((joined g ⟨t, out⟩).1.t.inn.next : Nat), .slice ba1 bn1 bk1, .slice pa1 pn1 pk1, .bool (joined g ⟨t, out⟩).1.t.ed, .int .u64 ((joined g ⟨t, out⟩).1.t.tm : Nat), .int .i64 ((joined g ⟨t, out⟩).1.t.rto : Nat), .int .i64 ((joined g ⟨t, out⟩).1.t.tr : Nat), .int .i64 ((joined g ⟨t, out⟩).1.t.er : Nat), .int .u64 nw, ov1]) :: (O1 ++ L)) _ := hv1; clear hv1; have HI1 := Lib.hid hI1; have HO1 := Lib.hid hO1; clear hI1 hO1; simp only [List.cons_append, List.nil_append] at hv))
 go_ret
 exact ⟨R1, rfl, CM.of (A := []) (O := O1) (c := (joined g ⟨t, out⟩).1) hv.drop HI1.out HO1.out⟩
theorem acked_gone (hc : CM w0 w bc L R nw ⟨t, out⟩) (hg : InG R g sa sn sk) (hl : out.length ≤ 400) (h2 : t.st ≠ 2) (h : ¬ flight t < dif g.ack t.una) (h3 : ¬ dif g.ack t.una < 0) (h4 : 0 < dif g.ack t.una) (hf : flight t ≤ 1000) (hd : t.data.length ≤ 256) (hm : goneM (dif g.ack t.una).toNat ⟨{ t with wnd := g.wnd }, out⟩ ≤ t.data.length) : Calls Try.prog 61 #[.pointer (some ⟨bc, 0, none⟩), .agg #[.int .i64 g.src, .int .i64 g.dst, .int .u32 g.seq, .int .u32 g.ack, .int .i64 g.fl, .int .i64 g.wnd, .slice sa sn sk]] w (CMP w0 bc L R nw (.bool (acked nw g ⟨t, out⟩).2) (acked nw g ⟨t, out⟩).1) := by
 obtain ⟨da, dn, dk, ba, bn, bk, pa, pn, pk, l, ov, gs, O, hv, HI, HO⟩ := hc.get
 clear hc
 have HL4 := Lib.hid hl
 have HL : Hid (out.length ≤ 1000) := Lib.hid (by omega)
 have HG := Lib.hid hg
 obtain ⟨n, hn⟩ : ∃ n : Nat, (dif g.ack t.una).toNat = n := ⟨_, rfl⟩
 have e : acked nw g ⟨t, out⟩ = gone nw n ⟨{ t with wnd := g.wnd }, out⟩ := by unfold acked; rw [if_neg h2, if_neg h, if_neg h3]; show (if 0 < dif g.ack t.una then _ else _) = _; rw [if_pos h4, hn]
 rw [e]
 rw [hn] at hm
 have ha : dif g.ack t.una = (n : Int) := by omega
 obtain ⟨f, hfl⟩ : ∃ f : Int, dif t.nx t.una = f := ⟨_, rfl⟩
 have hf2 : flight t = f := hfl
 have y2 : ((t.st : Int) == 2) = false := by rw [beq_eq_false_iff_ne]; omega
 have y3 : ¬ f < (n : Int) := by omega
 have y4 : ¬ (n : Int) < 0 := by omega
 have y5 : (0 : Int) < (n : Int) := by omega
 have HN0 : Hid (0 < n) := Lib.hid (by omega)
 have HN1 : Hid ((n : Int) ≤ flight { t with wnd := g.wnd }) := Lib.hid (by show (n : Int) ≤ flight t; omega)
 have HN2 : Hid (flight { t with wnd := g.wnd } ≤ 1000) := Lib.hid hf
 have HN3 := Lib.hid hd
 have HN4 := Lib.hid hm
 clear h2 h e hg hl hf2 h3 h4 hf hd hm hn
 go_enter Try.func61, Try.ntmps61
 go_wp2_with (first
   | ((with_reducible refine gBx 72 3 ?_); refine nwB hv #[.int .i64 g.src, .int .i64 g.dst, .int .u32 g.seq, .int .u32 g.ack, .int .i64 g.fl, .int .i64 g.wnd, .slice sa sn sk] 72 ?_; clear hv; intro b_3 w2 hv)
   | ((with_reducible refine gLd 3 ?_); refine ldC hv bc 0 (.int .i64 t.st) Try.underlying3 ?_)
   | ((with_reducible refine gLd 72 ?_); refine ldV hv b_3 7 Try.underlying72 infoM7 ?_))
 refine Any.wr2 10 [(2, [1000], none), (7, [1001], none)] [] hv ?_
 simp only [Any.someVals]
 iterate 10 apply Exists.intro
 repeat ((first
  | refine Any.E_off rfl ?_
  | ((with_reducible refine Any.gE 22 ?_); refine Any.eC 1000 (.int .u32 g.ack) Try.underlying22 ?_)
  | ((with_reducible refine Any.gE 22 ?_); refine Any.eC 1001 (.int .u32 t.una) Try.underlying22 ?_)
  | (apply Any.E_val rfl rfl rfl rfl
     case h =>
      intro E' hA K hK
      first
       | (go_big_quiet_op; first
          | (refine hK _ ?_; rfl)
          | (refine ⟨_, fun _ _ => rfl, ?_⟩; refine hK _ ?_; rfl)
          | (apply Exists.intro; refine ⟨fun w1 hw1 => ?_, ?_⟩; · (first
              | (go_at_call 68; exact Any.calls_VEq (Diff_any _ _ _) hw1))
             refine hK _ ?_; rfl))
     case hD => rfl)); simp only [Act.put, sia, scs, scz])
 try any_goals exact undef
 refine Any.fin2 hv [1000, 1001] ?_; clear hv; intro w9 hv
 go_wp2_with (first
   | ((with_reducible refine at_load (T := 31) ?_); refine wl_ldp rfl bc 0 rfl _ hv.vars.ro 19 _ Try.underlying31 rfl infoT19 (by decide) (by show 0 + 19 ≤ 21; decide) (#[.int .i64 t.st, .int .i64 t.lo, .int .u32 t.ip, .int .i64 t.po, .int .u32 t.iss, .int .u32 t.una, .int .u32 t.nx, .slice da dn dk, .int .i64 t.wnd, .bool t.en, .bool t.se, .int .u32 t.inn.next, .slice ba bn bk, .slice pa pn pk, .bool t.ed, .int .u64 t.tm, .int .i64 t.rto, .int .i64 t.tr, .int .i64 t.er]) (ext21 _ _ _ _ _ _ _ _ _ _ _ _ _ _ _ _ _ _ _ _ _) ?_)
   | (go_at_call 57; (with_reducible refine (flight_v _ _ _ _ _ _ _ _ _ _ _ _ _ _ _ _ _ _ _ _).mono ?_); rintro e w1 ⟨rfl, hn1⟩; replace hv := hv.new hn1; clear hn1)
   | ((with_reducible refine gLd 3 ?_); refine ldC hv b_3 5 (.int .i64 g.wnd) Try.underlying3 ?_)
   | ((with_reducible refine gSt 3 ?_); refine stC hv bc 8 (.int .i64 g.wnd) ?_; clear hv; intro w2 hv)
   | (go_at_call 72; (refine (gone_C (CM.of (A := [_]) (c := ⟨{ t with wnd := g.wnd }, out⟩) hv ⟨HI.out.d, HI.out.s, HI.out.ck, ⟨HI.out.u.una, HI.out.u.nx, HI.out.u.iss, HI.out.u.inn, HI.out.u.ip⟩⟩ HO.out) (n := n) HL4.out HN0.out HN1.out HN2.out HN3.out HN4.out).mono ?_); rintro e w1 ⟨R1, rfl, hc1⟩; obtain ⟨da1, dn1, dk1, ba1, bn1, bk1, pa1, pn1, pk1, l1, ov1, gs1, O1, hv1, hI1, hO1⟩ := CM.back (A := [_]) hc1; clear hv hc1; have hv : Mem w0 _ ([_] ++ (bc, #[.int .i64 ((gone nw n ⟨{ t with wnd := g.wnd }, out⟩).1.t.st : Nat), .int .i64 ((gone nw n ⟨{ t with wnd := g.wnd }, out⟩).1.t.lo : Nat), .int .u32 ((gone nw n ⟨{ t with wnd := g.wnd }, out⟩).1.t.ip : Nat), .int .i64 ((gone nw n ⟨{ t with wnd := g.wnd }, out⟩).1.t.po : Nat), .int .u32 ((gone nw n ⟨{ t with wnd := g.wnd }, out⟩).1.t.iss : Nat), .int .u32 ((gone nw n ⟨{ t with wnd := g.wnd }, out⟩).1.t.una : Nat), .int .u32 ((gone nw n ⟨{ t with wnd := g.wnd }, out⟩).1.t.nx : Nat), .slice da1 dn1 dk1, .int .i64 ((gone nw n ⟨{ t with wnd := g.wnd }, out⟩).1.t.wnd : Nat), .bool (gone nw n ⟨{ t with wnd := g.wnd }, out⟩).1.t.en, .bool (gone nw n ⟨{ t with wnd := g.wnd }, out⟩).1.t.se, .int .u32 ((gone nw n ⟨{ t with wnd := g.wnd }, out⟩).1.t.inn.next : Nat), .slice ba1 bn1 bk1, .slice pa1 pn1 pk1, .bool (gone nw n ⟨{ t with wnd := g.wnd }, out⟩).1.t.ed, .int .u64 ((gone nw n ⟨{ t with wnd := g.wnd }, out⟩).1.t.tm : Nat), .int .i64 ((gone nw n ⟨{ t with wnd := g.wnd }, out⟩).1.t.rto : Nat), .int .i64 ((gone nw n ⟨{ t with wnd := g.wnd }, out⟩).1.t.tr : Nat), .int .i64 ((gone nw n ⟨{ t with wnd := g.wnd }, out⟩).1.t.er : Nat), .int .u64 nw, ov1]) :: (O1 ++ L)) _ := hv1; clear hv1; have HI1 := Lib.hid hI1; have HO1 := Lib.hid hO1; clear hI1 hO1; simp only [List.cons_append, List.nil_append] at hv))
 go_ret
 exact ⟨R1, rfl, CM.of (A := []) (O := O1) (c := (gone nw n ⟨{ t with wnd := g.wnd }, out⟩).1) hv.drop HI1.out HO1.out⟩
theorem acked_k (hc : CM w0 w bc L R nw ⟨t, out⟩) (hg : InG R g sa sn sk) (hl : out.length ≤ 400) (h2 : t.st ≠ 2) {p : C × Bool} (hk : AkC g t out p) : Calls Try.prog 61 #[.pointer (some ⟨bc, 0, none⟩), .agg #[.int .i64 g.src, .int .i64 g.dst, .int .u32 g.seq, .int .u32 g.ack, .int .i64 g.fl, .int .i64 g.wnd, .slice sa sn sk]] w (CMP w0 bc L R nw (.bool (acked nw g ⟨t, out⟩).2) (acked nw g ⟨t, out⟩).1) := by
 obtain ⟨da, dn, dk, ba, bn, bk, pa, pn, pk, l, ov, gs, O, hv, HI, HO⟩ := hc.get
 clear hc
 have HL : Hid (out.length ≤ 1000) := Lib.hid (by omega)
 have HG := Lib.hid hg
 rw [hk.eq h2]
 obtain ⟨a, ha⟩ : ∃ a : Int, dif g.ack t.una = a := ⟨_, rfl⟩
 obtain ⟨f, hfl⟩ : ∃ f : Int, dif t.nx t.una = f := ⟨_, rfl⟩
 have hf2 : flight t = f := hfl
 have y2 : ((t.st : Int) == 2) = false := by rw [beq_eq_false_iff_ne]; omega
 clear hl
 rcases hk with ⟨h⟩ | ⟨h, h3⟩ | ⟨h, h3, h4, h5⟩ | ⟨h, h3, h4, h5⟩
 all_goals try (have y3 : f < a := (by omega))
 all_goals try (have y3 : ¬ f < a := (by omega))
 all_goals try (have y4 : a < 0 := (by omega))
 all_goals try (have y4 : ¬ a < 0 := (by omega))
 all_goals try (have y5 : 0 < a := (by omega))
 all_goals try (have y5 : ¬ 0 < a := (by omega))
 all_goals try (have y6 : ((g.wnd : Int) == 0) = true := (by rw [h5]; rfl); clear h5)
 all_goals try (have y6 : ((g.wnd : Int) == 0) = false := (by rw [beq_eq_false_iff_ne]; omega); clear h5)
 all_goals (try clear h3; try clear h4)
 all_goals
   clear h2 h hf2 hg
   go_enter Try.func61, Try.ntmps61
   go_wp2_with (first
     | ((with_reducible refine gBx 72 3 ?_); refine nwB hv #[.int .i64 g.src, .int .i64 g.dst, .int .u32 g.seq, .int .u32 g.ack, .int .i64 g.fl, .int .i64 g.wnd, .slice sa sn sk] 72 ?_; clear hv; intro b_3 w2 hv)
     | ((with_reducible refine gLd 3 ?_); refine ldC hv bc 0 (.int .i64 t.st) Try.underlying3 ?_)
     | ((with_reducible refine gLd 72 ?_); refine ldV hv b_3 7 Try.underlying72 infoM7 ?_))
   refine Any.wr2 10 [(2, [1000], none), (7, [1001], none)] [] hv ?_
   simp only [Any.someVals]
   iterate 10 apply Exists.intro
   repeat ((first
    | refine Any.E_off rfl ?_
    | ((with_reducible refine Any.gE 22 ?_); refine Any.eC 1000 (.int .u32 g.ack) Try.underlying22 ?_)
    | ((with_reducible refine Any.gE 22 ?_); refine Any.eC 1001 (.int .u32 t.una) Try.underlying22 ?_)
    | (apply Any.E_val rfl rfl rfl rfl
       case h =>
        intro E' hA K hK
        first
         | (go_big_quiet_op; first
            | (refine hK _ ?_; rfl)
            | (refine ⟨_, fun _ _ => rfl, ?_⟩; refine hK _ ?_; rfl)
            | (apply Exists.intro; refine ⟨fun w1 hw1 => ?_, ?_⟩; · (first
                | (go_at_call 68; exact Any.calls_VEq (Diff_any _ _ _) hw1))
               refine hK _ ?_; rfl))
       case hD => rfl)); simp only [Act.put, sia, scs, scz])
   try any_goals exact undef
   refine Any.fin2 hv [1000, 1001] ?_; clear hv; intro w9 hv
   go_wp2_with (first
     | ((with_reducible refine at_load (T := 31) ?_); refine wl_ldp rfl bc 0 rfl _ hv.vars.ro 19 _ Try.underlying31 rfl infoT19 (by decide) (by show 0 + 19 ≤ 21; decide) (#[.int .i64 t.st, .int .i64 t.lo, .int .u32 t.ip, .int .i64 t.po, .int .u32 t.iss, .int .u32 t.una, .int .u32 t.nx, .slice da dn dk, .int .i64 t.wnd, .bool t.en, .bool t.se, .int .u32 t.inn.next, .slice ba bn bk, .slice pa pn pk, .bool t.ed, .int .u64 t.tm, .int .i64 t.rto, .int .i64 t.tr, .int .i64 t.er]) (ext21 _ _ _ _ _ _ _ _ _ _ _ _ _ _ _ _ _ _ _ _ _) ?_)
     | (go_at_call 57; (with_reducible refine (flight_v _ _ _ _ _ _ _ _ _ _ _ _ _ _ _ _ _ _ _ _).mono ?_); rintro e w1 ⟨rfl, hn1⟩; replace hv := hv.new hn1; clear hn1)
     | ((with_reducible refine gLd 3 ?_); refine ldC hv b_3 5 (.int .i64 g.wnd) Try.underlying3 ?_)
     | ((with_reducible refine gSt 3 ?_); refine stC hv bc 8 (.int .i64 g.wnd) ?_; clear hv; intro w2 hv)
     | ((with_reducible refine gSt 3 ?_); refine stC hv bc 17 (.int .i64 0) ?_; clear hv; intro w2 hv)
     | (go_at_call 39; (refine (ack_C (CM.of (A := [_]) (c := ⟨t, out⟩) hv HI.out HO.out) HL.out).mono ?_); rintro e w1 ⟨R1, rfl, hc1⟩; obtain ⟨da1, dn1, dk1, ba1, bn1, bk1, pa1, pn1, pk1, l1, ov1, gs1, O1, hv1, hI1, hO1⟩ := CM.back (A := [_]) hc1; clear hv hc1; have hv : Mem w0 _ ([_] ++ (bc, #[.int .i64 t.st, .int .i64 t.lo, .int .u32 t.ip, .int .i64 t.po, .int .u32 t.iss, .int .u32 t.una, .int .u32 t.nx, .slice da1 dn1 dk1, .int .i64 t.wnd, .bool t.en, .bool t.se, .int .u32 t.inn.next, .slice ba1 bn1 bk1, .slice pa1 pn1 pk1, .bool t.ed, .int .u64 t.tm, .int .i64 t.rto, .int .i64 t.tr, .int .i64 t.er, .int .u64 nw, ov1]) :: (O1 ++ L)) _ := hv1; clear hv1; have HI1 := Lib.hid hI1; have HO1 := Lib.hid hO1; clear hI1 hO1; simp only [List.cons_append, List.nil_append] at hv))
   try rw [Exit.noGoto_ret]
   try simp only [Exit.inBlock, Exit.then]
   go_ret
   first
     | exact ⟨R1, rfl, CM.of (A := []) (O := O1) hv.drop HI1.out HO1.out⟩
     | exact CMP.mk0 (CM.of (A := []) (O := O) hv.drop HI.out HO.out)
     | exact CMP.mk0 (CM.of (A := []) (O := O) hv.drop ⟨HI.out.d, HI.out.s, HI.out.ck, ⟨HI.out.u.una, HI.out.u.nx, HI.out.u.iss, HI.out.u.inn, HI.out.u.ip⟩⟩ HO.out)
theorem acked_C (hc : CM w0 w bc L R nw ⟨t, out⟩) (hg : InG R g sa sn sk) (hl : out.length ≤ 400) (hf : flight t ≤ 1000) (hd : t.data.length ≤ 256) (hm : t.st ≠ 2 → ¬ flight t < dif g.ack t.una → 0 < dif g.ack t.una → goneM (dif g.ack t.una).toNat ⟨{ t with wnd := g.wnd }, out⟩ ≤ t.data.length) : Calls Try.prog 61 #[.pointer (some ⟨bc, 0, none⟩), .agg #[.int .i64 g.src, .int .i64 g.dst, .int .u32 g.seq, .int .u32 g.ack, .int .i64 g.fl, .int .i64 g.wnd, .slice sa sn sk]] w (CMP w0 bc L R nw (.bool (acked nw g ⟨t, out⟩).2) (acked nw g ⟨t, out⟩).1) := by
 by_cases h2 : t.st = 2
 · exact acked_2 hc hg hl h2
 · by_cases h : flight t < dif g.ack t.una
   · exact acked_k hc hg hl h2 (.gt h)
   · by_cases h3 : dif g.ack t.una < 0
     · exact acked_k hc hg hl h2 (.lt h h3)
     · by_cases h4 : 0 < dif g.ack t.una
       · exact acked_gone hc hg hl h2 h h3 h4 hf hd (hm h2 h h4)
       · by_cases h5 : g.wnd = 0
         · exact acked_k hc hg hl h2 (.z h h3 h4 h5)
         · exact acked_k hc hg hl h2 (.s h h3 h4 h5)
theorem ended_C (hc : CM w0 w bc L R nw ⟨t, out⟩) : Calls Try.prog 74 #[.pointer (some ⟨bc, 0, none⟩)] w (CMP w0 bc L R nw (.tuple #[]) (ended nw ⟨t, out⟩)) := by
 obtain ⟨da, dn, dk, ba, bn, bk, pa, pn, pk, l, ov, gs, O, hv, HI, HO⟩ := hc.get
 clear hc
 obtain ⟨x1, hx1⟩ : ∃ x, Tp.u32 (t.inn.next + 1) = x := ⟨_, rfl⟩
 have hk : EdC nw t out x1 (ended nw ⟨t, out⟩) := by
   rw [← hx1]
   by_cases h3 : t.st = 3
   · rw [(EdC.a h3 : EdC nw t out _ _).eq rfl]; exact .a h3
   · by_cases h4 : t.st = 4
     · rw [(EdC.b h4 : EdC nw t out _ _).eq rfl]; exact .b h4
     · by_cases h5 : t.st = 5
       · rw [(EdC.c h5 : EdC nw t out _ _).eq rfl]; exact .c h5
       · rw [(EdC.d h3 h4 h5 : EdC nw t out _ _).eq rfl]; exact .d h3 h4 h5
 have HX1 : Hid (x1 < 4294967296) := Lib.hid (by rw [← hx1]; exact Tp.u32_lt _)
 have q1 : IntKind.u32.wrap ((t.inn.next : Int) + 1) = (x1 : Int) := by rw [← hx1]; unfold Tp.u32; simp [IntKind.wrap, IntKind.bits, IntKind.signed]
 have hbl := (HI.out.s.small HI.out.ck).2.1
 have HCK : Hid (chk ⟨x1, t.inn.bytes, []⟩ = true) := Lib.hid (chk_empty x1 t.inn.bytes hbl)
 have hv9 := hv.fresh (k := 2) (Below.refl _ _) (FR.nil _ _ 2)
 clear hv
 have hv := hv9
 have HSN : Hid (InS ((2, .slice none 0 0, []) :: R) x1 (.slice ba bn bk) (.slice none 0 0) ⟨x1, t.inn.bytes, []⟩ []) := Lib.hid ⟨Mem.s HI.out.s.b, Mem.z, fun p hp => (List.not_mem_nil hp).elim, rfl⟩
 generalize ended nw ⟨t, out⟩ = cE at hk ⊢
 rcases hk with ⟨h3⟩ | ⟨h4⟩ | ⟨h5⟩ | ⟨h6, h7, h8⟩
 all_goals try (have y3 : ((t.st : Int) == 3) = true := (by rw [h3]; rfl))
 all_goals try (have y3 : ((t.st : Int) == 3) = false := (by rw [beq_eq_false_iff_ne]; omega))
 all_goals try (have y4 : ((t.st : Int) == 4) = true := (by rw [h4]; rfl))
 all_goals try (have y4 : ((t.st : Int) == 4) = false := (by rw [beq_eq_false_iff_ne]; omega))
 all_goals try (have y5 : ((t.st : Int) == 5) = true := (by rw [h5]; rfl))
 all_goals try (have y5 : ((t.st : Int) == 5) = false := (by rw [beq_eq_false_iff_ne]; omega))
 all_goals (try clear h3; try clear h4; try clear h5; try clear h6 h7 h8)
 all_goals
   clear hx1 hbl hv9
   go_enter Try.func74, Try.ntmps74
   go_wp2_with (first
     | ((with_reducible refine gLd 22 ?_); refine ldC hv bc 11 (.int .u32 t.inn.next) Try.underlying22 ?_)
     | ((with_reducible refine gSt 22 ?_); refine stC hv bc 11 (.int .u32 x1) ?_; clear hv; intro w2 hv)
     | ((with_reducible refine gSt 25 ?_); refine stC hv bc 13 (.slice none 0 0) ?_; clear hv; intro w2 hv)
     | ((with_reducible refine gSt 4 ?_); refine stC hv bc 14 (.bool true) ?_; clear hv; intro w2 hv)
     | ((with_reducible refine gLd 3 ?_); refine ldC hv bc 0 (.int .i64 t.st) Try.underlying3 ?_)
     | ((with_reducible refine gSt 3 ?_); refine stC hv bc 0 (.int .i64 6) ?_; clear hv; intro w2 hv)
     | ((with_reducible refine gSt 3 ?_); refine stC hv bc 0 (.int .i64 7) ?_; clear hv; intro w2 hv)
     | (go_at_call 77; (refine (rest_C (CM.of (A := []) (c := ⟨{ t with inn := ⟨x1, t.inn.bytes, []⟩, ed := true }, out⟩) hv ⟨Mem.s HI.out.d, HSN.out, HCK.out, ⟨HI.out.u.una, HI.out.u.nx, HI.out.u.iss, HX1.out, HI.out.u.ip⟩⟩ (HO.out.mono fun x hx => Mem.s hx))).mono ?_); rintro e w1 ⟨R1, rfl, hc1⟩; obtain ⟨da1, dn1, dk1, ba1, bn1, bk1, pa1, pn1, pk1, l1, ov1, gs1, O1, hv1, hI1, hO1⟩ := CM.back (A := []) hc1; clear hv hc1; have hv : Mem w0 _ ([] ++ (bc, #[.int .i64 9, .int .i64 t.lo, .int .u32 t.ip, .int .i64 t.po, .int .u32 t.iss, .int .u32 t.una, .int .u32 t.nx, .slice da1 dn1 dk1, .int .i64 t.wnd, .bool t.en, .bool t.se, .int .u32 x1, .slice ba1 bn1 bk1, .slice pa1 pn1 pk1, .bool true, .int .u64 (later nw 32 : Nat), .int .i64 t.rto, .int .i64 t.tr, .int .i64 t.er, .int .u64 nw, ov1]) :: (O1 ++ L)) _ := hv1; clear hv1; have HI1 := Lib.hid hI1; have HO1 := Lib.hid hO1; clear hI1 hO1; simp only [List.cons_append, List.nil_append] at hv))
   go_end0
   first
     | exact CMP.addR (x := (2, .slice none 0 0, [])) ⟨R1, rfl, CM.of (A := []) (O := O1) hv HI1.out HO1.out⟩
     | exact CMP.addR (x := (2, .slice none 0 0, [])) (CMP.mk0 (CM.of (A := []) (O := O) hv ⟨Mem.s HI.out.d, HSN.out, HCK.out, ⟨HI.out.u.una, HI.out.u.nx, HI.out.u.iss, HX1.out, HI.out.u.ip⟩⟩ (HO.out.mono fun x hx => Mem.s hx)))
end Go.Proofs.Ythenepdbgeafkaa
end

section
/-
 Connections (layer 26): what a segment carries.
-/
namespace Go.Proofs.Tp
open Go Go.RowKit Go.Proofs.Wi
def TakeV (R0 : LR) (s : St) (seq : Nat) (data : List Nat) (v : Value) (R' : LR) : Prop :=
 ∃ (nx : Nat) (ba : Option Addr) (bn bk : Nat) (pa : Option Addr) (pn pk : Nat) (l : List PcV) (b : List Nat) (rest : List Sp), v = .tuple #[.agg #[.int .u32 nx, .slice ba bn bk, .slice pa pn pk], .int .i64 b.length] ∧ InS R' nx (.slice ba bn bk) (.slice pa pn pk) (outS s b rest) l ∧ Took (gF s seq data) b rest ∧ ∀ x ∈ R0, x ∈ R'
def CarP (w0 : World) (bc : Nat) (L : LV) (R : LR) (nw : Nat) (g : G) (c : C) (e : Ending) (w' : World) : Prop :=
 ∃ c' R', e = .returned (.tuple #[]) ∧ Carried nw g c c' ∧ CM w0 w' bc L (R' ++ R) nw c'
theorem CarP.of {w0 : World} {bc nw : Nat} {L : LV} {R : LR} {g : G} {c c' : C} {w' : World} {R2 : LR} (h : Carried nw g c c') (hc : CM w0 w' bc L R2 nw c') (hs : ∀ x ∈ R, x ∈ R2) : CarP w0 bc L R nw g c (.returned (.tuple #[])) w' := by
 obtain ⟨da, dn, dk, ba, bn, bk, pa, pn, pk, l, ov, gs, O, hv, hI, hO⟩ := hc
 have hy : ∀ x ∈ R2, x ∈ R2 ++ R := fun x hx => List.mem_append_left _ hx
 exact ⟨c', R2, rfl, h, da, dn, dk, ba, bn, bk, pa, pn, pk, l, ov, gs, O, hv.keepR (fun x hx => (List.mem_append.1 hx).elim id (hs x)), hI.mono hy, hO.mono hy⟩
end Go.Proofs.Tp
namespace Go.Proofs.Ythenepdbgeafkaa
open Go.Proofs.Wi Go.RowKit Go.Proofs Go.Proofs.Tp
variable {w0 w : World} {L : LV} {R : LR} {bc nw : Nat} {t : T} {out : List G} {g : G} {sa : Option Addr} {sn sk : Nat}
theorem Take_V {R0 : LR} (hv : Mem w0 w L R) (hs : ∀ x ∈ R0, x ∈ R) {da ba pa : Option Addr} {dn dk bn bk pn pk : Nat} {l : List PcV} (hI : InC R0 t da dn dk ba bn bk pa pn pk l) (hg : InG R0 g sa sn sk) : Calls Try.prog 73 #[.agg #[.int .u32 t.inn.next, .slice ba bn bk, .slice pa pn pk], .int .u32 g.seq, .slice sa sn sk] w fun e w' => ∃ v R', e = .returned v ∧ TakeV R0 t.inn g.seq g.data v R' ∧ Mem w0 w' L R' ∧ ∀ x ∈ R, x ∈ R' := by
 have h64 := (chkG_facts hg.ck).2.2.2.2.2.2
 have hsn := len_rd1 (hv.rd (hs _ hg.d))
 refine (Take_S hv (hI.s.mono hs) hI.ck hI.u.inn g.seq (hs _ hg.d) (by omega)).mono ?_
 rintro e w' ⟨nx', ba', bn', bk', pa', pn', pk', l', R', b, rest, rfl, h1, h2, h3⟩
 exact ⟨_, _, rfl, ⟨nx', ba', bn', bk', pa', pn', pk', l', b, rest, rfl, h2, h3, fun x hx => mem_app R' (hs x hx)⟩, h1, fun x hx => mem_app R' hx⟩
theorem out_next (s : St) (b : List Nat) (rest : List Sp) : (outS s b rest).next < 4294967296 := by
 unfold outS
 exact Nat.mod_lt _ (by decide)
theorem three_c {a x : Nat} : has g.fl 1 = false ∨ (has g.fl 1 = true ∧ a = x) ∨ (has g.fl 1 = true ∧ a ≠ x) := by
 rcases Bool.eq_false_or_eq_true (has g.fl 1) with h | h
 · by_cases e : a = x
   · exact .inr (.inl ⟨h, e⟩)
   · exact .inr (.inr ⟨h, e⟩)
 · exact .inl h
theorem carried_t (hc : CM w0 w bc L R nw ⟨t, out⟩) (hg : InG R g sa sn sk) (hl : out.length ≤ 400) (ho : openS t = true) (h0 : 0 < g.data.length) : Calls Try.prog 62 #[.pointer (some ⟨bc, 0, none⟩), .agg #[.int .i64 g.src, .int .i64 g.dst, .int .u32 g.seq, .int .u32 g.ack, .int .i64 g.fl, .int .i64 g.wnd, .slice sa sn sk]] w (CarP w0 bc L R nw g ⟨t, out⟩) := by
 obtain ⟨da, dn, dk, ba, bn, bk, pa, pn, pk, l, ov, gs, O, hv, HI, HO⟩ := hc.get
 clear hc
 have hfl := (chkG_facts hg.ck).2.2.2.2.1
 have h64 := (chkG_facts hg.ck).2.2.2.2.2.2
 have hsn : g.data.length = sn := len_rd1 (hv.rd hg.d)
 have HFL := Lib.hid hfl
 have HG := Lib.hid hg
 obtain ⟨x, hx⟩ : ∃ x, Tp.u32 (g.seq + g.data.length) = x := ⟨_, rfl⟩
 have q1 : IntKind.u32.wrap (sn : Int) = (sn : Int) := by simp [IntKind.wrap, IntKind.bits, IntKind.signed]; omega
 have q2 : IntKind.u32.wrap ((g.seq : Int) + (sn : Int)) = (x : Int) := by rw [← hx, hsn]; unfold Tp.u32; simp [IntKind.wrap, IntKind.bits, IntKind.signed]
 have HX := Lib.hid hx
 have y0 : (t.st == 3 || t.st == 4 || t.st == 5) = true := ho
 have y1 : (0 : Int) < (sn : Int) := by omega
 have hst : t.st ≠ 9 := by intro h; unfold openS at ho; rw [h] at ho; exact absurd ho (by decide)
 have y9 : ((t.st : Int) == 9) = false := by rw [beq_eq_false_iff_ne]; omega
 have HSC : Hid (∃ v R', TakeV R t.inn g.seq g.data v R') := Lib.hid (Bny.some_of (Take_V hv (fun x hx => hx) HI.out HG.out))
 have HOP := Lib.hid ho
 have HL0 := Lib.hid h0
 have HST := Lib.hid hst
 have HCAR : Hid (∀ b rest c', Took (gF t.inn g.seq g.data) b rest → c' = (if has g.fl 1 = false then ⟨{ t with inn := outS t.inn b rest }, out⟩ else if (outS t.inn b rest).next = x then ended nw ⟨{ t with inn := outS t.inn b rest }, out⟩ else ⟨{ t with inn := outS t.inn b rest }, out⟩) → Carried nw g ⟨t, out⟩ c') := Lib.hid (fun b rest c' ht hc' => by
   refine ⟨outS t.inn b rest, ?_, ?_⟩
   · rw [if_pos (show openS t = true ∧ 0 < g.data.length from ⟨ho, h0⟩)]
     exact ⟨b, rest, ht, rfl⟩
   · rw [hc', ← hx]
     show _ = (if has g.fl 1 = false then _ else if t.st = 9 then _ else if openS t = true ∧ (outS t.inn b rest).next = Tp.u32 (g.seq + g.data.length) then _ else _)
     by_cases hf : has g.fl 1 = false
     · rw [if_pos hf, if_pos hf]
     · rw [if_neg hf, if_neg hf, if_neg hst]
       by_cases he : (outS t.inn b rest).next = Tp.u32 (g.seq + g.data.length)
       · rw [if_pos he, if_pos ⟨ho, he⟩]
       · rw [if_neg he, if_neg (fun h => he h.2)])
 clear ho h0 hst hfl h64 hsn hx hg hl
 go_enter Try.func62, Try.ntmps62
 go_wp2_with (first
   | ((with_reducible refine gBx 72 3 ?_); refine nwB hv #[.int .i64 g.src, .int .i64 g.dst, .int .u32 g.seq, .int .u32 g.ack, .int .i64 g.fl, .int .i64 g.wnd, .slice sa sn sk] 72 ?_; clear hv; intro b_3 w2 hv)
   | ((with_reducible refine gLd 3 ?_); refine ldC hv bc 0 (.int .i64 t.st) Try.underlying3 ?_)
   | (go_at_call 38; (with_reducible refine (open_any _ _).mono ?_); rintro e w1 ⟨rfl, hn1⟩; replace hv := hv.new hn1; clear hn1)
   | ((with_reducible refine gLd 23 ?_); refine ldC hv b_3 6 (.slice sa sn sk) Try.underlying23 ?_))
 try simp only [Act.put]
 refine Bny.wr2 20 [(5, [1001], none), (8, [1000], none), (11, [1000], none), (12, [], some 12), (19, [1001], some 1001)] [(12, .mem (TakeV R t.inn g.seq g.data)), (13, .pure), (14, .pure), (15, .pure), (16, .pure), (17, .pure), (18, .pure), (19, .put)] hv ?_
 simp only [Any.someVals]
 iterate 20 apply Exists.intro
 repeat ((first
  | refine Bny.E_off rfl ?_
  | ((with_reducible refine Bny.at_estore (T := 27) ?_); refine Bny.E_putp (T := 27) (off := 11) rfl rfl rfl rfl rfl rfl 3 infoStr rfl (by show 11 + 3 ≤ 21; decide) (by simp [Value.oneCell']) (splice21 _ _ _ _ _ _ _ _ _ _ _ _ _ _ _ _ _ _ _ _ _ _ _ _) ?_)
  | ((with_reducible refine Bny.at_ecallf (f := 73) ?_); refine Bny.E_callmem rfl rfl rfl (Go.Proofs.enters_of Try.func73 (by kernel_rfl) rfl) rfl [.agg #[.int .u32 t.inn.next, .slice ba bn bk, .slice pa pn pk], .int .u32 g.seq, .slice sa sn sk] rfl HSC.out R (fun x hx => .inl hx) (fun w0 w L R' hm hs => Take_V hm hs HI.out HG.out) ?_; rintro v R2 ⟨nx2, ba2, bn2, bk2, pa2, pn2, pk2, l2, b, rest, rfl, hi2, htk, hs2⟩; obtain rfl : nx2 = (outS t.inn b rest).next := hi2.nx; have HI2 := Lib.hid hi2; have HTK := Lib.hid htk; have HS2 := Lib.hid hs2; clear hi2 htk hs2)
  | refine Bny.ePq ?_
  | (apply Bny.E_val rfl rfl rfl rfl
     case h =>
      intro E' hA K hK
      first
       | ((with_reducible refine Bny.at_qload (T := 27) ?_); refine Bny.q_ldp 1001 (o := 11) hA (by decide) rfl rfl 3 _ Try.underlying27 rfl infoStr (by decide) (by show 11 + 3 ≤ 21; decide) #[.int .u32 t.inn.next, .slice ba bn bk, .slice pa pn pk] (ext21s _ _ _ _ _ _ _ _ _ _ _ _ _ _ _ _ _ _ _ _ _) ?_; refine hK _ ?_; rfl)
       | ((with_reducible refine Bny.at_qload (T := 22) ?_); refine Bny.q_ldc 1000 hA (by decide) rfl rfl _ Try.underlying22 rfl (.int .u32 g.seq) rfl ?_; refine hK _ ?_; rfl)
       | ((with_reducible refine Bny.at_qload (T := 23) ?_); refine Bny.q_ldc 1000 hA (by decide) rfl rfl _ Try.underlying23 rfl (.slice sa sn sk) rfl ?_; refine hK _ ?_; rfl)
     case hD => rfl)
  | refine Bny.eV ?_); simp only [Act.put, sia, scs, scz])
 try any_goals exact undef
 refine Bny.finr [1000, 1001] 12 ?_; clear hv; intro w9 hv
 have HCK2 : Hid (chk (outS t.inn b rest) = true) := Lib.hid (took_chk ⟨b, rest, HTK.out, rfl⟩ HI.out.ck)
 have HC := HCAR.out b rest _ HTK.out rfl
 rcases three_c (g := g) (a := (outS t.inn b rest).next) (x := x) with hf0 | ⟨hf1, he⟩ | ⟨hf1, hn⟩
 all_goals try (rw [if_pos hf0] at HC)
 all_goals try (rw [if_neg (by rw [hf1]; decide), if_pos he] at HC; have y2 : (((outS t.inn b rest).next : Int) == (x : Int)) = true := (by rw [he]; simp); clear he)
 all_goals try (rw [if_neg (by rw [hf1]; decide), if_neg hn] at HC; have y2 : (((outS t.inn b rest).next : Int) == (x : Int)) = false := (by rw [beq_eq_false_iff_ne]; omega); clear hn)
 all_goals
   replace HC := Lib.hid HC
   go_wp2_with (first
     | ((with_reducible refine gLd 72 ?_); refine ldV hv b_3 7 Try.underlying72 infoM7 ?_)
     | (go_at_call 58; (with_reducible refine (has1_any _ _ _ _ _ _ HFL.out _).mono ?_); rintro e w1 ⟨rfl, hn1⟩; replace hv := hv.new hn1; clear hn1)
     | ((with_reducible refine gLd 3 ?_); refine ldC hv bc 0 (.int .i64 t.st) Try.underlying3 ?_))
   first
     | go_end0
       exact CarP.of HC.out (CM.of (A := []) (O := O) (c := ⟨{ t with inn := outS t.inn b rest }, out⟩) hv.drop ⟨HS2.out _ HI.out.d, HI2.out, HCK2.out, ⟨HI.out.u.una, HI.out.u.nx, HI.out.u.iss, out_next _ _ _, HI.out.u.ip⟩⟩ (HO.out.mono HS2.out)) HS2.out
     | refine Any.wp_region_walk [⟨[], none⟩, ⟨[], none⟩, ⟨[], none⟩, ⟨[], none⟩, ⟨[], none⟩, ⟨[], none⟩, ⟨[], none⟩, ⟨[1001], none⟩, ⟨[], none⟩, ⟨[], none⟩, ⟨[1000], none⟩, ⟨[], none⟩, ⟨[], none⟩, ⟨[1000], none⟩] [.val] (by kernel_rfl) (by kernel_rfl) (hv.vars.keep (List.sublist_append_left [(b_3, #[.int .i64 g.src, .int .i64 g.dst, .int .u32 g.seq, .int .u32 g.ack, .int .i64 g.fl, .int .i64 g.wnd, .slice sa sn sk]), (bc, #[.int .i64 t.st, .int .i64 t.lo, .int .u32 t.ip, .int .i64 t.po, .int .u32 t.iss, .int .u32 t.una, .int .u32 t.nx, .slice da dn dk, .int .i64 t.wnd, .bool t.en, .bool t.se, .int .u32 ((outS t.inn b rest).next : Nat), .slice ba2 bn2 bk2, .slice pa2 pn2 pk2, .bool t.ed, .int .u64 t.tm, .int .i64 t.rto, .int .i64 t.tr, .int .i64 t.er, .int .u64 nw, ov])] (O ++ L))) ?_
       simp only [List.length_cons, List.length_nil, Nat.zero_add, Any.someVals]
       iterate 20 apply Exists.intro
       repeat (first
         | (refine Any.E_off rfl ?_; simp only [Act.put, sia, scs, scz])
         | (apply Any.E_pureq rfl rfl rfl
            case h => intro K hK; go_big_quiet_op; (refine hK _ ?_; rfl)
            case hr => exact fun _ => rfl
            simp only [Act.put, sia, scs, scz])
         | (apply Any.E_val rfl rfl rfl rfl
            case h =>
              intro E' hA K hK
              first
                | ((with_reducible refine Any.at_qload (T := 22) ?_); refine Any.q_ldc 1001 hA (by decide) rfl rfl _ Try.underlying22 rfl (.int .u32 ((outS t.inn b rest).next : Nat)) rfl ?_; refine hK _ ?_; rfl)
                | ((with_reducible refine Any.at_qload (T := 22) ?_); refine Any.q_ldc 1000 hA (by decide) rfl rfl _ Try.underlying22 rfl (.int .u32 g.seq) rfl ?_; refine hK _ ?_; rfl)
                | ((with_reducible refine Any.at_qload (T := 23) ?_); refine Any.q_ldc 1000 hA (by decide) rfl rfl _ Try.underlying23 rfl (.slice sa sn sk) rfl ?_; refine hK _ ?_; rfl)
                | (go_big_quiet_op; first
                  | (refine hK _ ?_; rfl)
                  | (refine ⟨_, fun _ _ => rfl, ?_⟩; refine hK _ ?_; rfl)
                  | (apply Exists.intro; refine ⟨fun w1 hw1 => ?_, ?_⟩; · (first
                      | fail)
                     refine hK _ ?_; rfl))
            case hD => rfl
            simp only [Act.put, sia, scs, scz])
         | ((with_reducible refine Any.at_ealloc ?_); refine Any.E_lay rfl rfl rfl (fun _ => rfl) ?_; intro B; simp only [Act.put, sia, scs, scz]))
       try any_goals exact undef
       refine Any.E_nil ?_
       intro w9 hE9
       replace hv : Mem w0 w9 ([(b_3, #[.int .i64 g.src, .int .i64 g.dst, .int .u32 g.seq, .int .u32 g.ack, .int .i64 g.fl, .int .i64 g.wnd, .slice sa sn sk]), (bc, #[.int .i64 t.st, .int .i64 t.lo, .int .u32 t.ip, .int .i64 t.po, .int .u32 t.iss, .int .u32 t.una, .int .u32 t.nx, .slice da dn dk, .int .i64 t.wnd, .bool t.en, .bool t.se, .int .u32 ((outS t.inn b rest).next : Nat), .slice ba2 bn2 bk2, .slice pa2 pn2 pk2, .bool t.ed, .int .u64 t.tm, .int .i64 t.rto, .int .i64 t.tr, .int .i64 t.er, .int .u64 nw, ov])] ++ (O ++ L)) _ := hE9.memr hv [1000, 1001] (by decide)
       clear hE9
       simp only [List.cons_append, List.nil_append] at hv
       go_wp2_with (first
         | (go_at_call 74; (refine (ended_C (CM.of (A := [_]) (c := ⟨{ t with inn := outS t.inn b rest }, out⟩) hv ⟨HS2.out _ HI.out.d, HI2.out, HCK2.out, ⟨HI.out.u.una, HI.out.u.nx, HI.out.u.iss, out_next _ _ _, HI.out.u.ip⟩⟩ (HO.out.mono HS2.out))).mono ?_); rintro e w1 ⟨R3, rfl, hc1⟩; obtain ⟨da3, dn3, dk3, ba3, bn3, bk3, pa3, pn3, pk3, l3, ov3, gs3, O3, hv1, hI1, hO1⟩ := CM.back (A := [_]) hc1; clear hv hc1; have hv : Mem w0 _ ([_] ++ (bc, #[.int .i64 ((ended nw ⟨{ t with inn := outS t.inn b rest }, out⟩).t.st : Nat), .int .i64 ((ended nw ⟨{ t with inn := outS t.inn b rest }, out⟩).t.lo : Nat), .int .u32 ((ended nw ⟨{ t with inn := outS t.inn b rest }, out⟩).t.ip : Nat), .int .i64 ((ended nw ⟨{ t with inn := outS t.inn b rest }, out⟩).t.po : Nat), .int .u32 ((ended nw ⟨{ t with inn := outS t.inn b rest }, out⟩).t.iss : Nat), .int .u32 ((ended nw ⟨{ t with inn := outS t.inn b rest }, out⟩).t.una : Nat), .int .u32 ((ended nw ⟨{ t with inn := outS t.inn b rest }, out⟩).t.nx : Nat), .slice da3 dn3 dk3, .int .i64 ((ended nw ⟨{ t with inn := outS t.inn b rest }, out⟩).t.wnd : Nat), .bool (ended nw ⟨{ t with inn := outS t.inn b rest }, out⟩).t.en, .bool (ended nw ⟨{ t with inn := outS t.inn b rest }, out⟩).t.se, .int .u32 ((ended nw ⟨{ t with inn := outS t.inn b rest }, out⟩).t.inn.next : Nat), .slice ba3 bn3 bk3, .slice pa3 pn3 pk3, .bool (ended nw ⟨{ t with inn := outS t.inn b rest }, out⟩).t.ed, .int .u64 ((ended nw ⟨{ t with inn := outS t.inn b rest }, out⟩).t.tm : Nat), .int .i64 ((ended nw ⟨{ t with inn := outS t.inn b rest }, out⟩).t.rto : Nat), .int .i64 ((ended nw ⟨{ t with inn := outS t.inn b rest }, out⟩).t.tr : Nat), .int .i64 ((ended nw ⟨{ t with inn := outS t.inn b rest }, out⟩).t.er : Nat), .int .u64 nw, ov3]) :: (O3 ++ L)) _ := hv1; clear hv1; have HI3 := Lib.hid hI1; have HO3 := Lib.hid hO1; clear hI1 hO1; simp only [List.cons_append, List.nil_append] at hv))
       go_end0
       first
         | exact CarP.of HC.out (CM.of (A := []) (O := O3) (c := ended nw ⟨{ t with inn := outS t.inn b rest }, out⟩) hv.drop HI3.out HO3.out) (fun x hx => mem_app R3 (HS2.out x hx))
         | exact CarP.of HC.out (CM.of (A := []) (O := O) (c := ⟨{ t with inn := outS t.inn b rest }, out⟩) hv.drop ⟨HS2.out _ HI.out.d, HI2.out, HCK2.out, ⟨HI.out.u.una, HI.out.u.nx, HI.out.u.iss, out_next _ _ _, HI.out.u.ip⟩⟩ (HO.out.mono HS2.out)) HS2.out
theorem carried_no (hc : CM w0 w bc L R nw ⟨t, out⟩) (hg : InG R g sa sn sk) (hl : out.length ≤ 400) (hno : ¬ (openS t = true ∧ 0 < g.data.length)) (ho : openS t = true) (h0 : g.data.length = 0) : Calls Try.prog 62 #[.pointer (some ⟨bc, 0, none⟩), .agg #[.int .i64 g.src, .int .i64 g.dst, .int .u32 g.seq, .int .u32 g.ack, .int .i64 g.fl, .int .i64 g.wnd, .slice sa sn sk]] w (CarP w0 bc L R nw g ⟨t, out⟩) := by
 obtain ⟨da, dn, dk, ba, bn, bk, pa, pn, pk, l, ov, gs, O, hv, HI, HO⟩ := hc.get
 clear hc
 have hfl := (chkG_facts hg.ck).2.2.2.2.1
 have h64 := (chkG_facts hg.ck).2.2.2.2.2.2
 have hsn : g.data.length = sn := len_rd1 (hv.rd hg.d)
 have HFL := Lib.hid hfl
 have HG := Lib.hid hg
 obtain ⟨x, hx⟩ : ∃ x, Tp.u32 (g.seq + g.data.length) = x := ⟨_, rfl⟩
 have q1 : IntKind.u32.wrap (sn : Int) = (sn : Int) := by simp [IntKind.wrap, IntKind.bits, IntKind.signed]; omega
 have q2 : IntKind.u32.wrap ((g.seq : Int) + (sn : Int)) = (x : Int) := by rw [← hx, hsn]; unfold Tp.u32; simp [IntKind.wrap, IntKind.bits, IntKind.signed]
 have HX := Lib.hid hx
 have HCAR : Hid (∀ c', c' = (if has g.fl 1 = false then (⟨t, out⟩ : C) else if t.st = 9 then wait nw 32 ⟨t, out⟩ else if openS t = true ∧ t.inn.next = x then ended nw ⟨t, out⟩ else ⟨t, out⟩) → Carried nw g ⟨t, out⟩ c') := Lib.hid (fun c' hc' => by
   refine ⟨t.inn, ?_, ?_⟩
   · rw [if_neg hno]
   · rw [hc', ← hx])
 have HC := HCAR.out _ rfl
 have y0 : (t.st == 3 || t.st == 4 || t.st == 5) = true := ho
 have hs0 : sn = 0 := by omega
 subst hs0
 have q3 : IntKind.u32.wrap (g.seq : Int) = (x : Int) := by simpa using q2
 have h9 : t.st ≠ 9 := by intro h; unfold openS at ho; rw [h] at ho; exact absurd ho (by decide)
 have y9 : ((t.st : Int) == 9) = false := by rw [beq_eq_false_iff_ne]; omega
 rcases three_c (g := g) (a := t.inn.next) (x := x) with hf0 | ⟨hf1, he⟩ | ⟨hf1, hn⟩
 all_goals try (rw [if_pos hf0] at HC)
 all_goals try (rw [if_neg (by rw [hf1]; decide), if_neg h9, if_pos ⟨ho, he⟩] at HC; have y2 : ((t.inn.next : Int) == (x : Int)) = true := (by rw [he]; simp); clear he)
 all_goals try (rw [if_neg (by rw [hf1]; decide), if_neg h9, if_neg (fun h => hn h.2)] at HC; have y2 : ((t.inn.next : Int) == (x : Int)) = false := (by rw [beq_eq_false_iff_ne]; omega); clear hn)
 all_goals
   replace HC := Lib.hid HC
   clear hno hfl h64 hx hg hl ho hsn h0 h9
   go_enter Try.func62, Try.ntmps62
   go_wp2_with (first
     | ((with_reducible refine gBx 72 3 ?_); refine nwB hv #[.int .i64 g.src, .int .i64 g.dst, .int .u32 g.seq, .int .u32 g.ack, .int .i64 g.fl, .int .i64 g.wnd, .slice sa 0 sk] 72 ?_; clear hv; intro b_3 w2 hv)
     | ((with_reducible refine gLd 3 ?_); refine ldC hv bc 0 (.int .i64 t.st) Try.underlying3 ?_)
     | (go_at_call 38; (with_reducible refine (open_any _ _).mono ?_); rintro e w1 ⟨rfl, hn1⟩; replace hv := hv.new hn1; clear hn1)
     | ((with_reducible refine gLd 23 ?_); refine ldC hv b_3 6 (.slice sa 0 sk) Try.underlying23 ?_)
     | ((with_reducible refine gLd 72 ?_); refine ldV hv b_3 7 Try.underlying72 infoM7 ?_)
     | (go_at_call 58; (with_reducible refine (has1_any _ _ _ _ _ _ HFL.out _).mono ?_); rintro e w1 ⟨rfl, hn1⟩; replace hv := hv.new hn1; clear hn1)
     | ((with_reducible refine gLd 3 ?_); refine ldC hv bc 0 (.int .i64 t.st) Try.underlying3 ?_))
   first
     | go_end0
       exact CarP.of HC.out (CM.of (A := []) (O := O) (c := ⟨t, out⟩) hv.drop HI.out HO.out) (fun x hx => hx)
     | refine Any.wp_region_walk [⟨[], none⟩, ⟨[], none⟩, ⟨[], none⟩, ⟨[], none⟩, ⟨[], none⟩, ⟨[], none⟩, ⟨[], none⟩, ⟨[1001], none⟩, ⟨[], none⟩, ⟨[], none⟩, ⟨[1000], none⟩, ⟨[], none⟩, ⟨[], none⟩, ⟨[1000], none⟩] [.val] (by kernel_rfl) (by kernel_rfl) (hv.vars.keep (List.sublist_append_left [(b_3, #[.int .i64 g.src, .int .i64 g.dst, .int .u32 g.seq, .int .u32 g.ack, .int .i64 g.fl, .int .i64 g.wnd, .slice sa 0 sk]), (bc, #[.int .i64 t.st, .int .i64 t.lo, .int .u32 t.ip, .int .i64 t.po, .int .u32 t.iss, .int .u32 t.una, .int .u32 t.nx, .slice da dn dk, .int .i64 t.wnd, .bool t.en, .bool t.se, .int .u32 t.inn.next, .slice ba bn bk, .slice pa pn pk, .bool t.ed, .int .u64 t.tm, .int .i64 t.rto, .int .i64 t.tr, .int .i64 t.er, .int .u64 nw, ov])] (O ++ L))) ?_
       simp only [List.length_cons, List.length_nil, Nat.zero_add, Any.someVals]
       iterate 20 apply Exists.intro
       repeat (first
         | (refine Any.E_off rfl ?_; simp only [Act.put, sia, scs, scz])
         | (apply Any.E_pureq rfl rfl rfl
            case h => intro K hK; go_big_quiet_op; (refine hK _ ?_; rfl)
            case hr => exact fun _ => rfl
            simp only [Act.put, sia, scs, scz])
         | (apply Any.E_val rfl rfl rfl rfl
            case h =>
              intro E' hA K hK
              first
                | ((with_reducible refine Any.at_qload (T := 22) ?_); refine Any.q_ldc 1001 hA (by decide) rfl rfl _ Try.underlying22 rfl (.int .u32 t.inn.next) rfl ?_; refine hK _ ?_; rfl)
                | ((with_reducible refine Any.at_qload (T := 22) ?_); refine Any.q_ldc 1000 hA (by decide) rfl rfl _ Try.underlying22 rfl (.int .u32 g.seq) rfl ?_; refine hK _ ?_; rfl)
                | ((with_reducible refine Any.at_qload (T := 23) ?_); refine Any.q_ldc 1000 hA (by decide) rfl rfl _ Try.underlying23 rfl (.slice sa 0 sk) rfl ?_; refine hK _ ?_; rfl)
                | (go_big_quiet_op; first
                  | (refine hK _ ?_; rfl)
                  | (refine ⟨_, fun _ _ => rfl, ?_⟩; refine hK _ ?_; rfl)
                  | (apply Exists.intro; refine ⟨fun w1 hw1 => ?_, ?_⟩; · (first
                      | fail)
                     refine hK _ ?_; rfl))
            case hD => rfl
            simp only [Act.put, sia, scs, scz])
         | ((with_reducible refine Any.at_ealloc ?_); refine Any.E_lay rfl rfl rfl (fun _ => rfl) ?_; intro B; simp only [Act.put, sia, scs, scz]))
       try any_goals exact undef
       refine Any.E_nil ?_
       intro w9 hE9
       replace hv : Mem w0 w9 ([(b_3, #[.int .i64 g.src, .int .i64 g.dst, .int .u32 g.seq, .int .u32 g.ack, .int .i64 g.fl, .int .i64 g.wnd, .slice sa 0 sk]), (bc, #[.int .i64 t.st, .int .i64 t.lo, .int .u32 t.ip, .int .i64 t.po, .int .u32 t.iss, .int .u32 t.una, .int .u32 t.nx, .slice da dn dk, .int .i64 t.wnd, .bool t.en, .bool t.se, .int .u32 t.inn.next, .slice ba bn bk, .slice pa pn pk, .bool t.ed, .int .u64 t.tm, .int .i64 t.rto, .int .i64 t.tr, .int .i64 t.er, .int .u64 nw, ov])] ++ (O ++ L)) _ := hE9.memr hv [1000, 1001] (by decide)
       clear hE9
       simp only [List.cons_append, List.nil_append] at hv
       go_wp2_with (first
         | (go_at_call 74; (refine (ended_C (CM.of (A := [_]) (c := ⟨t, out⟩) hv HI.out HO.out)).mono ?_); rintro e w1 ⟨R3, rfl, hc1⟩; obtain ⟨da3, dn3, dk3, ba3, bn3, bk3, pa3, pn3, pk3, l3, ov3, gs3, O3, hv1, hI1, hO1⟩ := CM.back (A := [_]) hc1; clear hv hc1; have hv : Mem w0 _ ([_] ++ (bc, #[.int .i64 ((ended nw ⟨t, out⟩).t.st : Nat), .int .i64 ((ended nw ⟨t, out⟩).t.lo : Nat), .int .u32 ((ended nw ⟨t, out⟩).t.ip : Nat), .int .i64 ((ended nw ⟨t, out⟩).t.po : Nat), .int .u32 ((ended nw ⟨t, out⟩).t.iss : Nat), .int .u32 ((ended nw ⟨t, out⟩).t.una : Nat), .int .u32 ((ended nw ⟨t, out⟩).t.nx : Nat), .slice da3 dn3 dk3, .int .i64 ((ended nw ⟨t, out⟩).t.wnd : Nat), .bool (ended nw ⟨t, out⟩).t.en, .bool (ended nw ⟨t, out⟩).t.se, .int .u32 ((ended nw ⟨t, out⟩).t.inn.next : Nat), .slice ba3 bn3 bk3, .slice pa3 pn3 pk3, .bool (ended nw ⟨t, out⟩).t.ed, .int .u64 ((ended nw ⟨t, out⟩).t.tm : Nat), .int .i64 ((ended nw ⟨t, out⟩).t.rto : Nat), .int .i64 ((ended nw ⟨t, out⟩).t.tr : Nat), .int .i64 ((ended nw ⟨t, out⟩).t.er : Nat), .int .u64 nw, ov3]) :: (O3 ++ L)) _ := hv1; clear hv1; have HI3 := Lib.hid hI1; have HO3 := Lib.hid hO1; clear hI1 hO1; simp only [List.cons_append, List.nil_append] at hv))
       go_end0
       first
         | exact CarP.of HC.out (CM.of (A := []) (O := O3) (c := ended nw ⟨t, out⟩) hv.drop HI3.out HO3.out) (fun x hx => mem_app R3 hx)
         | exact CarP.of HC.out (CM.of (A := []) (O := O) (c := ⟨t, out⟩) hv.drop HI.out HO.out) (fun x hx => hx)
theorem carried_nc (hc : CM w0 w bc L R nw ⟨t, out⟩) (hg : InG R g sa sn sk) (hl : out.length ≤ 400) (hno : ¬ (openS t = true ∧ 0 < g.data.length)) (ho : openS t = false) : Calls Try.prog 62 #[.pointer (some ⟨bc, 0, none⟩), .agg #[.int .i64 g.src, .int .i64 g.dst, .int .u32 g.seq, .int .u32 g.ack, .int .i64 g.fl, .int .i64 g.wnd, .slice sa sn sk]] w (CarP w0 bc L R nw g ⟨t, out⟩) := by
 obtain ⟨da, dn, dk, ba, bn, bk, pa, pn, pk, l, ov, gs, O, hv, HI, HO⟩ := hc.get
 clear hc
 have hfl := (chkG_facts hg.ck).2.2.2.2.1
 have h64 := (chkG_facts hg.ck).2.2.2.2.2.2
 have hsn : g.data.length = sn := len_rd1 (hv.rd hg.d)
 have HFL := Lib.hid hfl
 have HG := Lib.hid hg
 obtain ⟨x, hx⟩ : ∃ x, Tp.u32 (g.seq + g.data.length) = x := ⟨_, rfl⟩
 have q1 : IntKind.u32.wrap (sn : Int) = (sn : Int) := by simp [IntKind.wrap, IntKind.bits, IntKind.signed]; omega
 have q2 : IntKind.u32.wrap ((g.seq : Int) + (sn : Int)) = (x : Int) := by rw [← hx, hsn]; unfold Tp.u32; simp [IntKind.wrap, IntKind.bits, IntKind.signed]
 have HX := Lib.hid hx
 have HCAR : Hid (∀ c', c' = (if has g.fl 1 = false then (⟨t, out⟩ : C) else if t.st = 9 then wait nw 32 ⟨t, out⟩ else if openS t = true ∧ t.inn.next = x then ended nw ⟨t, out⟩ else ⟨t, out⟩) → Carried nw g ⟨t, out⟩ c') := Lib.hid (fun c' hc' => by
   refine ⟨t.inn, ?_, ?_⟩
   · rw [if_neg hno]
   · rw [hc', ← hx])
 have HC := HCAR.out _ rfl
 have y0 : (t.st == 3 || t.st == 4 || t.st == 5) = false := ho
 rcases three_c (g := g) (a := t.st) (x := 9) with hf0 | ⟨hf1, h9⟩ | ⟨hf1, hn⟩
 all_goals try (rw [if_pos hf0] at HC)
 all_goals try (rw [if_neg (by rw [hf1]; decide), if_pos h9] at HC; have y9 : ((t.st : Int) == 9) = true := (by rw [h9]; rfl); clear h9)
 all_goals try (rw [if_neg (by rw [hf1]; decide), if_neg hn, if_neg (fun h => by rw [ho] at h; cases h.1)] at HC; have y9 : ((t.st : Int) == 9) = false := (by rw [beq_eq_false_iff_ne]; omega); clear hn)
 all_goals
   replace HC := Lib.hid HC
   clear hno hfl h64 hx hg hl ho hsn
   go_enter Try.func62, Try.ntmps62
   go_wp2_with (first
     | ((with_reducible refine gBx 72 3 ?_); refine nwB hv #[.int .i64 g.src, .int .i64 g.dst, .int .u32 g.seq, .int .u32 g.ack, .int .i64 g.fl, .int .i64 g.wnd, .slice sa sn sk] 72 ?_; clear hv; intro b_3 w2 hv)
     | ((with_reducible refine gLd 3 ?_); refine ldC hv bc 0 (.int .i64 t.st) Try.underlying3 ?_)
     | (go_at_call 38; (with_reducible refine (open_any _ _).mono ?_); rintro e w1 ⟨rfl, hn1⟩; replace hv := hv.new hn1; clear hn1)
     | ((with_reducible refine gLd 23 ?_); refine ldC hv b_3 6 (.slice sa sn sk) Try.underlying23 ?_)
     | ((with_reducible refine gLd 72 ?_); refine ldV hv b_3 7 Try.underlying72 infoM7 ?_)
     | (go_at_call 58; (with_reducible refine (has1_any _ _ _ _ _ _ HFL.out _).mono ?_); rintro e w1 ⟨rfl, hn1⟩; replace hv := hv.new hn1; clear hn1)
     | ((with_reducible refine gLd 3 ?_); refine ldC hv bc 0 (.int .i64 t.st) Try.underlying3 ?_)
     | (go_at_call 46; (refine (wait_32 (CM.of (A := [_]) (c := ⟨t, out⟩) hv HI.out HO.out)).mono ?_); rintro e w1 ⟨R3, rfl, hc1⟩; obtain ⟨da3, dn3, dk3, ba3, bn3, bk3, pa3, pn3, pk3, l3, ov3, gs3, O3, hv1, hI1, hO1⟩ := CM.back (A := [_]) hc1; clear hv hc1; have hv : Mem w0 _ ([_] ++ (bc, #[.int .i64 t.st, .int .i64 t.lo, .int .u32 t.ip, .int .i64 t.po, .int .u32 t.iss, .int .u32 t.una, .int .u32 t.nx, .slice da3 dn3 dk3, .int .i64 t.wnd, .bool t.en, .bool t.se, .int .u32 t.inn.next, .slice ba3 bn3 bk3, .slice pa3 pn3 pk3, .bool t.ed, .int .u64 (later nw 32 : Nat), .int .i64 t.rto, .int .i64 t.tr, .int .i64 t.er, .int .u64 nw, ov3]) :: (O3 ++ L)) _ := hv1; clear hv1; have HI3 := Lib.hid hI1; have HO3 := Lib.hid hO1; clear hI1 hO1; simp only [List.cons_append, List.nil_append] at hv))
   first
     | go_end0
       first
         | exact CarP.of HC.out (CM.of (A := []) (O := O3) (c := wait nw 32 ⟨t, out⟩) hv.drop HI3.out HO3.out) (fun x hx => mem_app R3 hx)
         | exact CarP.of HC.out (CM.of (A := []) (O := O) (c := ⟨t, out⟩) hv.drop HI.out HO.out) (fun x hx => hx)
     | refine Any.wp_region_walk [⟨[], none⟩, ⟨[], none⟩, ⟨[], none⟩, ⟨[], none⟩, ⟨[], none⟩, ⟨[], none⟩, ⟨[], none⟩, ⟨[1001], none⟩, ⟨[], none⟩, ⟨[], none⟩, ⟨[1000], none⟩, ⟨[], none⟩, ⟨[], none⟩, ⟨[1000], none⟩] [.val] (by kernel_rfl) (by kernel_rfl) (hv.vars.keep (List.sublist_append_left [(b_3, #[.int .i64 g.src, .int .i64 g.dst, .int .u32 g.seq, .int .u32 g.ack, .int .i64 g.fl, .int .i64 g.wnd, .slice sa sn sk]), (bc, #[.int .i64 t.st, .int .i64 t.lo, .int .u32 t.ip, .int .i64 t.po, .int .u32 t.iss, .int .u32 t.una, .int .u32 t.nx, .slice da dn dk, .int .i64 t.wnd, .bool t.en, .bool t.se, .int .u32 t.inn.next, .slice ba bn bk, .slice pa pn pk, .bool t.ed, .int .u64 t.tm, .int .i64 t.rto, .int .i64 t.tr, .int .i64 t.er, .int .u64 nw, ov])] (O ++ L))) ?_
       simp only [List.length_cons, List.length_nil, Nat.zero_add, Any.someVals]
       iterate 20 apply Exists.intro
       repeat (first
         | (refine Any.E_off rfl ?_; simp only [Act.put, sia, scs, scz])
         | (apply Any.E_pureq rfl rfl rfl
            case h => intro K hK; go_big_quiet_op; (refine hK _ ?_; rfl)
            case hr => exact fun _ => rfl
            simp only [Act.put, sia, scs, scz])
         | (apply Any.E_val rfl rfl rfl rfl
            case h =>
              intro E' hA K hK
              first
                | ((with_reducible refine Any.at_qload (T := 22) ?_); refine Any.q_ldc 1001 hA (by decide) rfl rfl _ Try.underlying22 rfl (.int .u32 t.inn.next) rfl ?_; refine hK _ ?_; rfl)
                | ((with_reducible refine Any.at_qload (T := 22) ?_); refine Any.q_ldc 1000 hA (by decide) rfl rfl _ Try.underlying22 rfl (.int .u32 g.seq) rfl ?_; refine hK _ ?_; rfl)
                | ((with_reducible refine Any.at_qload (T := 23) ?_); refine Any.q_ldc 1000 hA (by decide) rfl rfl _ Try.underlying23 rfl (.slice sa sn sk) rfl ?_; refine hK _ ?_; rfl)
                | (go_big_quiet_op; first
                  | (refine hK _ ?_; rfl)
                  | (refine ⟨_, fun _ _ => rfl, ?_⟩; refine hK _ ?_; rfl)
                  | (apply Exists.intro; refine ⟨fun w1 hw1 => ?_, ?_⟩; · (first
                      | fail)
                     refine hK _ ?_; rfl))
            case hD => rfl
            simp only [Act.put, sia, scs, scz])
         | ((with_reducible refine Any.at_ealloc ?_); refine Any.E_lay rfl rfl rfl (fun _ => rfl) ?_; intro B; simp only [Act.put, sia, scs, scz]))
       try any_goals exact undef
       refine Any.E_nil ?_
       intro w9 hE9
       replace hv : Mem w0 w9 ([(b_3, #[.int .i64 g.src, .int .i64 g.dst, .int .u32 g.seq, .int .u32 g.ack, .int .i64 g.fl, .int .i64 g.wnd, .slice sa sn sk]), (bc, #[.int .i64 t.st, .int .i64 t.lo, .int .u32 t.ip, .int .i64 t.po, .int .u32 t.iss, .int .u32 t.una, .int .u32 t.nx, .slice da dn dk, .int .i64 t.wnd, .bool t.en, .bool t.se, .int .u32 t.inn.next, .slice ba bn bk, .slice pa pn pk, .bool t.ed, .int .u64 t.tm, .int .i64 t.rto, .int .i64 t.tr, .int .i64 t.er, .int .u64 nw, ov])] ++ (O ++ L)) _ := hE9.memr hv [1000, 1001] (by decide)
       clear hE9
       simp only [List.cons_append, List.nil_append] at hv
       go_wp2
       go_end0
       exact CarP.of HC.out (CM.of (A := []) (O := O) (c := ⟨t, out⟩) hv.drop HI.out HO.out) (fun x hx => hx)
theorem carried_C (hc : CM w0 w bc L R nw ⟨t, out⟩) (hg : InG R g sa sn sk) (hl : out.length ≤ 400) : Calls Try.prog 62 #[.pointer (some ⟨bc, 0, none⟩), .agg #[.int .i64 g.src, .int .i64 g.dst, .int .u32 g.seq, .int .u32 g.ack, .int .i64 g.fl, .int .i64 g.wnd, .slice sa sn sk]] w (CarP w0 bc L R nw g ⟨t, out⟩) := by
 rcases Bool.eq_false_or_eq_true (openS t) with ho | ho
 · by_cases h0 : 0 < g.data.length
   · exact carried_t hc hg hl ho h0
   · exact carried_no hc hg hl (fun h => h0 h.2) ho (by omega)
 · exact carried_nc hc hg hl (fun h => by rw [ho] at h; cases h.1) ho
end Go.Proofs.Ythenepdbgeafkaa
end

section
/-
 The reference (layer 26): what it says of a connection, whichever; what it lets through may be.
-/
namespace Go.Proofs.Ythenepdbgeafkaa
open Go.Proofs.Wi Go.RowKit Go.Proofs Go.Proofs.Tp
end Go.Proofs.Ythenepdbgeafkaa
end
