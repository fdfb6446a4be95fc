import Derived.Test.YthenepdbgeafkaaGAX
import Derived.Test.YthenepdbgeafkaaGAU
import Derived.Test.YthenepdbgeafkaaGAV
set_option linter.unusedSimpArgs false
set_option linter.unusedVariables false
set_option maxRecDepth 100000
set_option maxHeartbeats 32000000
section
/-
 Connections (layer 26): a segment with an acknowledgement.
-/
namespace Go.Proofs.Tp
open Go Go.RowKit Go.Proofs.Wi
variable {t : T}
theorem out_on {gs : List Gv} {n k : Nat} (h : gs.length = n) (h2 : (cellsG gs).length = k * 7) : n = k := by
 rw [cellsG_len] at h2
 omega
theorem onz (n : Nat) : (n = 0 ∧ ((n : Int) == 0) = true) ∨ (0 < n ∧ ((n : Int) == 0) = false) := by
 rcases Nat.eq_zero_or_pos n with h | h
 · exact .inl ⟨h, by rw [h]; rfl⟩
 · exact .inr ⟨h, by rw [beq_eq_false_iff_ne]; omega⟩
theorem nm_own (h : Nm t) : 0 ≤ flight t ∧ own t ≤ t.data.length := by
 have h1 := h.1
 refine ⟨?_, h.2⟩
 unfold own at h1
 split at h1 <;> omega
theorem flush_pre {g : G} {nw : Nat} {c1 : C} (hck : chkT t = true) (hs2 : 2 ≤ t.st) (hg : chkG g = true) (hb : (acked nw g ⟨t, []⟩).2 = true) (hc : Carried nw g (acked nw g ⟨t, []⟩).1 c1) : 0 ≤ flight c1.t ∧ own c1.t ≤ c1.t.data.length ∧ c1.t.data.length ≤ 256 ∧ c1.t.wnd ≤ 65535 ∧ c1.t.rto ≤ 64 ∧ c1.out = [] := by
 obtain ⟨h1, h2⟩ := acked_kept (start hck) hs2 hg nw
 have h3 := h2 hb
 obtain ⟨h4, h5, h6⟩ := carried_kept h1.1 ((numbers_nm h3).1 h1.2) h3 hc
 have h7 := chkT_facts (kept_of h4 h5 h6).chk
 exact ⟨(nm_own h5).1, h5.2, h7.2.2.2.2.2.1, h7.2.2.2.2.2.2.1, h7.2.2.2.2.2.2.2.2.2.2.1, by rw [carried_out hc, acked_out hb]⟩
def AckPre (t : T) : Prop := flight t ≤ 1000 ∧ t.data.length ≤ 256 ∧ ∀ (g : G), t.st ≠ 2 → ¬ flight t < dif g.ack t.una → 0 < dif g.ack t.una → goneM (dif g.ack t.una).toNat ⟨{ t with wnd := g.wnd }, []⟩ ≤ t.data.length
theorem acked_pre (hck : chkT t = true) (hs2 : 2 ≤ t.st) : AckPre t := by
 show flight t ≤ 1000 ∧ t.data.length ≤ 256 ∧ ∀ (g : G), t.st ≠ 2 → ¬ flight t < dif g.ack t.una → 0 < dif g.ack t.una → goneM (dif g.ack t.una).toNat ⟨{ t with wnd := g.wnd }, []⟩ ≤ t.data.length
 have h := chkT_facts hck
 have hd := h.2.2.2.2.2.1
 by_cases h2 : t.st = 2
 · obtain ⟨e1, e2, _, _⟩ := begun_num h.2.2.2.2.2.2.2.2.2.2.2.2.2.2 (.inr h2)
   refine ⟨?_, hd, fun g h3 => absurd h2 h3⟩
   unfold flight
   rw [e1, e2]
   unfold dif u32
   split <;> omega
 · have hn : Nm t := (numbers_nm (by omega)).1 h.2.2.2.2.2.2.2.2.2.2.2.2.2.2
   have := hn.fl hd
   exact ⟨by omega, hd, fun g _ h3 h4 => gone_le hn (by omega) (by omega)⟩
end Go.Proofs.Tp
namespace Go.Proofs.Ythenepdbgeafkaa
open Go.Proofs.Wi Go.RowKit Go.Proofs Go.Proofs.Tp
variable {w0 w : World} {L : LV} {R : LR} {bc nw : Nat} {t : T} {g : G} {sa : Option Addr} {sn sk : Nat}
theorem acked_C2 (hc : CM w0 w bc L R nw ⟨t, []⟩) (hg : InG R g sa sn sk) (hp : AckPre t) : Calls Try.prog 61 #[.pointer (some ⟨bc, 0, none⟩), .agg #[.int .i64 g.src, .int .i64 g.dst, .int .u32 g.seq, .int .u32 g.ack, .int .i64 g.fl, .int .i64 g.wnd, .slice sa sn sk]] w (CMP w0 bc L R nw (.bool (acked nw g ⟨t, []⟩).2) (acked nw g ⟨t, []⟩).1) := acked_C hc hg (Nat.zero_le _) hp.1 hp.2.1 (hp.2.2 g)
theorem taken_f (hc : CM w0 w bc L R nw ⟨t, []⟩) (hg : InG R g sa sn sk) (hck : chkT t = true) (hs2 : 2 ≤ t.st) {x1 : Nat} (hx1 : Tp.u32 (g.seq + 1) = x1) (ha : againSyn g t = false) (hna : NotAgain g t x1) (hf : fits g t = true) (h4 : has g.fl 4 = false) (h2 : has g.fl 2 = false) (h16 : has g.fl 16 = true) (hb : (acked nw g ⟨t, []⟩).2 = false) : Calls Try.prog 34 #[.pointer (some ⟨bc, 0, none⟩), .agg #[.int .i64 g.src, .int .i64 g.dst, .int .u32 g.seq, .int .u32 g.ack, .int .i64 g.fl, .int .i64 g.wnd, .slice sa sn sk]] w (TknP w0 bc L R nw g ⟨t, []⟩) := by
 obtain ⟨da, dn, dk, ba, bn, bk, pa, pn, pk, l, ov, gs, O, hv0, hI, hO⟩ := hc
 have hv : Mem w0 w ((bc, #[.int .i64 t.st, .int .i64 t.lo, .int .u32 t.ip, .int .i64 t.po, .int .u32 t.iss, .int .u32 t.una, .int .u32 t.nx, .slice da dn dk, .int .i64 t.wnd, .bool t.en, .bool t.se, .int .u32 t.inn.next, .slice ba bn bk, .slice pa pn pk, .bool t.ed, .int .u64 t.tm, .int .i64 t.rto, .int .i64 t.tr, .int .i64 t.er, .int .u64 nw, ov]) :: (O ++ L)) R := hv0
 have HI := Lib.hid hI
 have HO := Lib.hid hO
 clear hv0 hI hO
 have HG := Lib.hid hg
 have HFL := Lib.hid (chkG_facts hg.ck).2.2.2.2.1
 have HCT := Lib.hid hck
 have q1 : IntKind.u32.wrap ((g.seq : Int) + 1) = (x1 : Int) := by rw [← hx1]; unfold Tp.u32; simp [IntKind.wrap, IntKind.bits, IntKind.signed]
 have HTK : Hid (Taken nw g ⟨t, []⟩ ((acked nw g ⟨t, []⟩).1)) := Lib.hid (by unfold Taken; rw [if_neg (by rw [ha]; decide)]; rw [if_neg (by rw [hf]; decide), if_neg (by rw [h4]; decide), if_neg (by rw [h2]; decide), if_neg (by rw [h16]; decide), if_pos hb])
 have HPA := Lib.hid (acked_pre hck hs2)
 clear hg hck hs2 hx1 ha 
 rcases hna with ⟨y0, -⟩ | ⟨y0, y1⟩ | ⟨y0, y1, y2⟩
 all_goals
   go_enter Try.func34, Try.ntmps34
   go_wp2_with (first
     | ((with_reducible refine gBx 72 3 ?_); refine nwB hv #[.int .i64 g.src, .int .i64 g.dst, .int .u32 g.seq, .int .u32 g.ack, .int .i64 g.fl, .int .i64 g.wnd, .slice sa sn sk] 72 ?_; clear hv; intro b_3 w2 hv))
   refine Any.wr2 27 [(4, [1001], none), (9, [1000], none), (16, [1000], none), (23, [1001], none)] [] hv ?_
   simp only [Any.someVals]
   iterate 27 apply Exists.intro
   repeat ((first
    | refine Any.E_off rfl ?_
    | ((with_reducible refine Any.gE 3 ?_); refine Any.eC 1001 (.int .i64 t.st) Try.underlying3 ?_)
    | ((with_reducible refine Any.gE 3 ?_); refine Any.eC 1000 (.int .i64 g.fl) Try.underlying3 ?_)
    | ((with_reducible refine Any.gE 22 ?_); refine Any.eC 1000 (.int .u32 g.seq) Try.underlying22 ?_)
    | ((with_reducible refine Any.gE 22 ?_); refine Any.eC 1001 (.int .u32 t.inn.next) Try.underlying22 ?_)
    | refine Any.eV ?_); simp only [Act.put, sia, scs, scz])
   try any_goals exact undef
   refine Any.fin2 hv [1000, 1001] ?_; clear hv; intro w9 hv
   go_wp2_with (first
     | ((with_reducible refine gLd 72 ?_); refine ldV hv b_3 7 Try.underlying72 infoM7 ?_)
     | (go_at_call 60; (refine (fits_C (CM.of (A := [_]) (c := ⟨t, []⟩) hv HI.out HO.out) HG.out (by decide)).mono ?_); rintro e w1 ⟨R1, rfl, hc1⟩; obtain ⟨da1, dn1, dk1, ba1, bn1, bk1, pa1, pn1, pk1, l1, ov1, gs1, O1, hv1, hI1, hO1⟩ := CM.back (A := [_]) hc1; clear hv hc1; have hv : Mem w0 _ ([_] ++ (bc, #[.int .i64 t.st, .int .i64 t.lo, .int .u32 t.ip, .int .i64 t.po, .int .u32 t.iss, .int .u32 t.una, .int .u32 t.nx, .slice da1 dn1 dk1, .int .i64 t.wnd, .bool t.en, .bool t.se, .int .u32 t.inn.next, .slice ba1 bn1 bk1, .slice pa1 pn1 pk1, .bool t.ed, .int .u64 t.tm, .int .i64 t.rto, .int .i64 t.tr, .int .i64 t.er, .int .u64 nw, ov1]) :: (O1 ++ L)) _ := hv1; clear hv1; have HI1 := Lib.hid hI1; have HO1 := Lib.hid hO1; clear hI1 hO1; simp only [List.cons_append, List.nil_append] at hv)
     | (go_at_call 58; (with_reducible refine (has4_any _ _ _ _ _ _ HFL.out _).mono ?_); rintro e w1 ⟨rfl, hn1⟩; replace hv := hv.new hn1; clear hn1)
     | (go_at_call 58; (with_reducible refine (has2_any _ _ _ _ _ _ HFL.out _).mono ?_); rintro e w1 ⟨rfl, hn1⟩; replace hv := hv.new hn1; clear hn1)
     | (go_at_call 58; (with_reducible refine (has16_any _ _ _ _ _ _ HFL.out _).mono ?_); rintro e w1 ⟨rfl, hn1⟩; replace hv := hv.new hn1; clear hn1)
     | (go_at_call 61; (refine (acked_C2 (CM.of (A := [_]) (c := ⟨t, []⟩) hv HI1.out HO1.out) (HG.out.mono (fun x hx => mem_app R1 hx)) HPA.out).mono ?_); rintro e w1 ⟨R3, rfl, hc1⟩; obtain ⟨da3, dn3, dk3, ba3, bn3, bk3, pa3, pn3, pk3, l3, ov3, gs3, O3, hv1, hI1, hO1⟩ := CM.back (A := [_]) hc1; clear hv hc1; have hv : Mem w0 _ ([_] ++ (bc, #[.int .i64 ((acked nw g ⟨t, []⟩).1.t.st : Nat), .int .i64 ((acked nw g ⟨t, []⟩).1.t.lo : Nat), .int .u32 ((acked nw g ⟨t, []⟩).1.t.ip : Nat), .int .i64 ((acked nw g ⟨t, []⟩).1.t.po : Nat), .int .u32 ((acked nw g ⟨t, []⟩).1.t.iss : Nat), .int .u32 ((acked nw g ⟨t, []⟩).1.t.una : Nat), .int .u32 ((acked nw g ⟨t, []⟩).1.t.nx : Nat), .slice da3 dn3 dk3, .int .i64 ((acked nw g ⟨t, []⟩).1.t.wnd : Nat), .bool (acked nw g ⟨t, []⟩).1.t.en, .bool (acked nw g ⟨t, []⟩).1.t.se, .int .u32 ((acked nw g ⟨t, []⟩).1.t.inn.next : Nat), .slice ba3 bn3 bk3, .slice pa3 pn3 pk3, .bool (acked nw g ⟨t, []⟩).1.t.ed, .int .u64 ((acked nw g ⟨t, []⟩).1.t.tm : Nat), .int .i64 ((acked nw g ⟨t, []⟩).1.t.rto : Nat), .int .i64 ((acked nw g ⟨t, []⟩).1.t.tr : Nat), .int .i64 ((acked nw g ⟨t, []⟩).1.t.er : Nat), .int .u64 nw, ov3]) :: (O3 ++ L)) _ := hv1; clear hv1; have HI3 := Lib.hid hI1; have HO3 := Lib.hid hO1; clear hI1 hO1; simp only [List.cons_append, List.nil_append] at hv))
   try rw [Exit.noGoto_ret]
   try simp only [Exit.inBlock, Exit.then]
   refine bodyPost_ret (results_none rfl _ _ _) rfl ?_
   exact TknP.of HTK.out (CM.of (A := []) (O := O3) (c := (acked nw g ⟨t, []⟩).1) hv.drop HI3.out HO3.out) (fun x hx => mem_app R3 (mem_app R1 hx))
theorem taken_k (hc : CM w0 w bc L R nw ⟨t, []⟩) (hg : InG R g sa sn sk) (hck : chkT t = true) (hs2 : 2 ≤ t.st) {x1 : Nat} (hx1 : Tp.u32 (g.seq + 1) = x1) (ha : againSyn g t = false) (hna : NotAgain g t x1) (hf : fits g t = true) (h4 : has g.fl 4 = false) (h2 : has g.fl 2 = false) (h16 : has g.fl 16 = true) (hb : (acked nw g ⟨t, []⟩).2 = true) (hd : 0 < g.data.length ∨ (g.data.length = 0 ∧ has g.fl 1 = true) ∨ (g.data.length = 0 ∧ has g.fl 1 = false)) : Calls Try.prog 34 #[.pointer (some ⟨bc, 0, none⟩), .agg #[.int .i64 g.src, .int .i64 g.dst, .int .u32 g.seq, .int .u32 g.ack, .int .i64 g.fl, .int .i64 g.wnd, .slice sa sn sk]] w (TknP w0 bc L R nw g ⟨t, []⟩) := by
 obtain ⟨da, dn, dk, ba, bn, bk, pa, pn, pk, l, ov, gs, O, hv0, hI, hO⟩ := hc
 have hv : Mem w0 w ((bc, #[.int .i64 t.st, .int .i64 t.lo, .int .u32 t.ip, .int .i64 t.po, .int .u32 t.iss, .int .u32 t.una, .int .u32 t.nx, .slice da dn dk, .int .i64 t.wnd, .bool t.en, .bool t.se, .int .u32 t.inn.next, .slice ba bn bk, .slice pa pn pk, .bool t.ed, .int .u64 t.tm, .int .i64 t.rto, .int .i64 t.tr, .int .i64 t.er, .int .u64 nw, ov]) :: (O ++ L)) R := hv0
 have HI := Lib.hid hI
 have HO := Lib.hid hO
 clear hv0 hI hO
 have HG := Lib.hid hg
 have HFL := Lib.hid (chkG_facts hg.ck).2.2.2.2.1
 have HCT := Lib.hid hck
 have q1 : IntKind.u32.wrap ((g.seq : Int) + 1) = (x1 : Int) := by rw [← hx1]; unfold Tp.u32; simp [IntKind.wrap, IntKind.bits, IntKind.signed]
 have HPA := Lib.hid (acked_pre hck hs2)
 have HS2 := Lib.hid hs2
 have HB := Lib.hid hb
 have HA := Lib.hid ha
 have HF := Lib.hid hf
 have HOL : Hid ((acked nw g ⟨t, []⟩).1.out.length ≤ 400) := Lib.hid (by rw [acked_out hb]; exact Nat.zero_le _)
 have hsn : g.data.length = sn := len_rd1 (hv.rd hg.d)
 rcases hd with hd | ⟨hd, h1⟩ | ⟨hd, h1⟩
 all_goals try (have y5 : (0 : Int) < (sn : Int) := (by omega); have HD : Hid (0 < g.data.length ∨ has g.fl 1 = true) := Lib.hid (.inl hd); clear hd)
 all_goals try (have y5 : decide ((0 : Int) < (sn : Int)) = false := decide_eq_false (by omega); have y6 : decide (0 < sn) = false := decide_eq_false (by omega))
 all_goals try (have HD : Hid (0 < g.data.length ∨ has g.fl 1 = true) := Lib.hid (.inr h1); clear hd)
 all_goals try (have HD : Hid (¬ (0 < g.data.length ∨ has g.fl 1 = true)) := Lib.hid (fun h => by rcases h with h | h; omega; rw [h1] at h; cases h); clear hd)
 all_goals clear hg hck hs2 hx1 ha hsn
 all_goals rcases hna with ⟨y0, -⟩ | ⟨y0, y1⟩ | ⟨y0, y1, y2⟩
 all_goals
   go_enter Try.func34, Try.ntmps34
   go_wp2_with (first
     | ((with_reducible refine gBx 72 3 ?_); refine nwB hv #[.int .i64 g.src, .int .i64 g.dst, .int .u32 g.seq, .int .u32 g.ack, .int .i64 g.fl, .int .i64 g.wnd, .slice sa sn sk] 72 ?_; clear hv; intro b_3 w2 hv))
   refine Any.wr2 27 [(4, [1001], none), (9, [1000], none), (16, [1000], none), (23, [1001], none)] [] hv ?_
   simp only [Any.someVals]
   iterate 27 apply Exists.intro
   repeat ((first
    | refine Any.E_off rfl ?_
    | ((with_reducible refine Any.gE 3 ?_); refine Any.eC 1001 (.int .i64 t.st) Try.underlying3 ?_)
    | ((with_reducible refine Any.gE 3 ?_); refine Any.eC 1000 (.int .i64 g.fl) Try.underlying3 ?_)
    | ((with_reducible refine Any.gE 22 ?_); refine Any.eC 1000 (.int .u32 g.seq) Try.underlying22 ?_)
    | ((with_reducible refine Any.gE 22 ?_); refine Any.eC 1001 (.int .u32 t.inn.next) Try.underlying22 ?_)
    | refine Any.eV ?_); simp only [Act.put, sia, scs, scz])
   try any_goals exact undef
   refine Any.fin2 hv [1000, 1001] ?_; clear hv; intro w9 hv
   go_wp2_with (first
     | ((with_reducible refine gLd 72 ?_); refine ldV hv b_3 7 Try.underlying72 infoM7 ?_)
     | (go_at_call 60; (refine (fits_C (CM.of (A := [_]) (c := ⟨t, []⟩) hv HI.out HO.out) HG.out (by decide)).mono ?_); rintro e w1 ⟨R1, rfl, hc1⟩; obtain ⟨da1, dn1, dk1, ba1, bn1, bk1, pa1, pn1, pk1, l1, ov1, gs1, O1, hv1, hI1, hO1⟩ := CM.back (A := [_]) hc1; clear hv hc1; have hv : Mem w0 _ ([_] ++ (bc, #[.int .i64 t.st, .int .i64 t.lo, .int .u32 t.ip, .int .i64 t.po, .int .u32 t.iss, .int .u32 t.una, .int .u32 t.nx, .slice da1 dn1 dk1, .int .i64 t.wnd, .bool t.en, .bool t.se, .int .u32 t.inn.next, .slice ba1 bn1 bk1, .slice pa1 pn1 pk1, .bool t.ed, .int .u64 t.tm, .int .i64 t.rto, .int .i64 t.tr, .int .i64 t.er, .int .u64 nw, ov1]) :: (O1 ++ L)) _ := hv1; clear hv1; have HI1 := Lib.hid hI1; have HO1 := Lib.hid hO1; clear hI1 hO1; simp only [List.cons_append, List.nil_append] at hv)
     | (go_at_call 58; (with_reducible refine (has4_any _ _ _ _ _ _ HFL.out _).mono ?_); rintro e w1 ⟨rfl, hn1⟩; replace hv := hv.new hn1; clear hn1)
     | (go_at_call 58; (with_reducible refine (has2_any _ _ _ _ _ _ HFL.out _).mono ?_); rintro e w1 ⟨rfl, hn1⟩; replace hv := hv.new hn1; clear hn1)
     | (go_at_call 58; (with_reducible refine (has16_any _ _ _ _ _ _ HFL.out _).mono ?_); rintro e w1 ⟨rfl, hn1⟩; replace hv := hv.new hn1; clear hn1)
     | (go_at_call 61; (refine (acked_C2 (CM.of (A := [_]) (c := ⟨t, []⟩) hv HI1.out HO1.out) (HG.out.mono (fun x hx => mem_app R1 hx)) HPA.out).mono ?_); rintro e w1 ⟨R3, rfl, hc1⟩; obtain ⟨da3, dn3, dk3, ba3, bn3, bk3, pa3, pn3, pk3, l3, ov3, gs3, O3, hv1, hI1, hO1⟩ := CM.back (A := [_]) hc1; clear hv hc1; have hv : Mem w0 _ ([_] ++ (bc, #[.int .i64 ((acked nw g ⟨t, []⟩).1.t.st : Nat), .int .i64 ((acked nw g ⟨t, []⟩).1.t.lo : Nat), .int .u32 ((acked nw g ⟨t, []⟩).1.t.ip : Nat), .int .i64 ((acked nw g ⟨t, []⟩).1.t.po : Nat), .int .u32 ((acked nw g ⟨t, []⟩).1.t.iss : Nat), .int .u32 ((acked nw g ⟨t, []⟩).1.t.una : Nat), .int .u32 ((acked nw g ⟨t, []⟩).1.t.nx : Nat), .slice da3 dn3 dk3, .int .i64 ((acked nw g ⟨t, []⟩).1.t.wnd : Nat), .bool (acked nw g ⟨t, []⟩).1.t.en, .bool (acked nw g ⟨t, []⟩).1.t.se, .int .u32 ((acked nw g ⟨t, []⟩).1.t.inn.next : Nat), .slice ba3 bn3 bk3, .slice pa3 pn3 pk3, .bool (acked nw g ⟨t, []⟩).1.t.ed, .int .u64 ((acked nw g ⟨t, []⟩).1.t.tm : Nat), .int .i64 ((acked nw g ⟨t, []⟩).1.t.rto : Nat), .int .i64 ((acked nw g ⟨t, []⟩).1.t.tr : Nat), .int .i64 ((acked nw g ⟨t, []⟩).1.t.er : Nat), .int .u64 nw, ov3]) :: (O3 ++ L)) _ := hv1; clear hv1; have HI3 := Lib.hid hI1; have HO3 := Lib.hid hO1; clear hI1 hO1; simp only [List.cons_append, List.nil_append] at hv)
     | (go_at_call 62; (refine (carried_C (CM.of (A := [_]) (c := (acked nw g ⟨t, []⟩).1) hv HI3.out HO3.out) (HG.out.mono (fun x hx => mem_app R3 (mem_app R1 hx))) HOL.out).mono ?_); rintro e w1 ⟨c1, R5, rfl, hcar, hc1⟩; obtain ⟨da5, dn5, dk5, ba5, bn5, bk5, pa5, pn5, pk5, l5, ov5, gs5, O5, hv1, hI1, hO1⟩ := CM.back (A := [_]) hc1; clear hv hc1; have hv : Mem w0 _ ([_] ++ (bc, #[.int .i64 c1.t.st, .int .i64 c1.t.lo, .int .u32 c1.t.ip, .int .i64 c1.t.po, .int .u32 c1.t.iss, .int .u32 c1.t.una, .int .u32 c1.t.nx, .slice da5 dn5 dk5, .int .i64 c1.t.wnd, .bool c1.t.en, .bool c1.t.se, .int .u32 c1.t.inn.next, .slice ba5 bn5 bk5, .slice pa5 pn5 pk5, .bool c1.t.ed, .int .u64 c1.t.tm, .int .i64 c1.t.rto, .int .i64 c1.t.tr, .int .i64 c1.t.er, .int .u64 nw, ov5]) :: (O5 ++ L)) _ := hv1; clear hv1; have HI5 := Lib.hid hI1; have HO5 := Lib.hid hO1; have HCAR := Lib.hid hcar; have HFP := Lib.hid (flush_pre HCT.out HS2.out HG.out.ck HB.out hcar); clear hI1 hO1 hcar; simp only [List.cons_append, List.nil_append] at hv)
     | (go_at_call 28; (refine (flush_C (CM.of (A := [_]) (c := c1) hv HI5.out HO5.out) (fun _ => HFP.out.1) (fun _ => HFP.out.2.1) HFP.out.2.2.1 HFP.out.2.2.2.1 HFP.out.2.2.2.2.1 (by rw [HFP.out.2.2.2.2.2]; decide)).mono ?_); rintro e w1 ⟨R7, rfl, hc1⟩; obtain ⟨da7, dn7, dk7, ba7, bn7, bk7, pa7, pn7, pk7, l7, ov7, gs7, O7, hv1, hI1, hO1⟩ := CM.back (A := [_]) hc1; clear hv hc1; have hv : Mem w0 _ ([_] ++ (bc, #[.int .i64 ((flush nw c1).t.st : Nat), .int .i64 ((flush nw c1).t.lo : Nat), .int .u32 ((flush nw c1).t.ip : Nat), .int .i64 ((flush nw c1).t.po : Nat), .int .u32 ((flush nw c1).t.iss : Nat), .int .u32 ((flush nw c1).t.una : Nat), .int .u32 ((flush nw c1).t.nx : Nat), .slice da7 dn7 dk7, .int .i64 ((flush nw c1).t.wnd : Nat), .bool (flush nw c1).t.en, .bool (flush nw c1).t.se, .int .u32 ((flush nw c1).t.inn.next : Nat), .slice ba7 bn7 bk7, .slice pa7 pn7 pk7, .bool (flush nw c1).t.ed, .int .u64 ((flush nw c1).t.tm : Nat), .int .i64 ((flush nw c1).t.rto : Nat), .int .i64 ((flush nw c1).t.tr : Nat), .int .i64 ((flush nw c1).t.er : Nat), .int .u64 nw, ov7]) :: (O7 ++ L)) _ := hv1; clear hv1; have HI7 := Lib.hid hI1; have HO7 := Lib.hid hO1; clear hI1 hO1; simp only [List.cons_append, List.nil_append] at hv; obtain ⟨oa, on, oc, rfl, hon⟩ := id HO7.out.own.slice; have hlen7 : (flush nw c1).out.length = on := out_on HO7.out.len hon; have HLN7 := Lib.hid hlen7; clear hlen7; rcases onz on with ⟨h0, z1⟩ | ⟨h0, z1⟩ <;> (have HON := Lib.hid hon; have HZ := Lib.hid h0; clear hon h0))
     | ((with_reducible refine gLd 32 ?_); refine ldC hv bc 20 (.slice oa on oc) Try.underlying32 ?_)
     | ((with_reducible refine gLd 23 ?_); refine ldC hv b_3 6 (.slice sa sn sk) Try.underlying23 ?_)
     | (go_at_call 58; (with_reducible refine (has1_any _ _ _ _ _ _ HFL.out _).mono ?_); rintro e w1 ⟨rfl, hn1⟩; replace hv := hv.new hn1; clear hn1)
     | (go_at_call 39; (have HLEN : Hid ((flush nw c1).out.length ≤ 1000) := Lib.hid (by have h1 := HLN7.out; have := HZ.out; omega); refine (ack_C (CM.of (A := [_]) (c := flush nw c1) hv HI7.out HO7.out) HLEN.out).mono ?_); rintro e w1 ⟨R9, rfl, hc1⟩; obtain ⟨da9, dn9, dk9, ba9, bn9, bk9, pa9, pn9, pk9, l9, ov9, gs9, O9, hv1, hI1, hO1⟩ := CM.back (A := [_]) hc1; clear hv hc1; have hv : Mem w0 _ ([_] ++ (bc, #[.int .i64 ((flush nw c1).t.st : Nat), .int .i64 ((flush nw c1).t.lo : Nat), .int .u32 ((flush nw c1).t.ip : Nat), .int .i64 ((flush nw c1).t.po : Nat), .int .u32 ((flush nw c1).t.iss : Nat), .int .u32 ((flush nw c1).t.una : Nat), .int .u32 ((flush nw c1).t.nx : Nat), .slice da9 dn9 dk9, .int .i64 ((flush nw c1).t.wnd : Nat), .bool (flush nw c1).t.en, .bool (flush nw c1).t.se, .int .u32 ((flush nw c1).t.inn.next : Nat), .slice ba9 bn9 bk9, .slice pa9 pn9 pk9, .bool (flush nw c1).t.ed, .int .u64 ((flush nw c1).t.tm : Nat), .int .i64 ((flush nw c1).t.rto : Nat), .int .i64 ((flush nw c1).t.tr : Nat), .int .i64 ((flush nw c1).t.er : Nat), .int .u64 nw, ov9]) :: (O9 ++ L)) _ := hv1; clear hv1; have HI9 := Lib.hid hI1; have HO9 := Lib.hid hO1; clear hI1 hO1; simp only [List.cons_append, List.nil_append] at hv))
   all_goals first
     | (go_end0
        have HT : Taken nw g ⟨t, []⟩ (lastAck g (flush nw c1)) := by
          unfold Taken
          rw [if_neg (by rw [HA.out]; decide)]
          rw [if_neg (by rw [HF.out]; decide), if_neg (by rw [h4]; decide), if_neg (by rw [h2]; decide), if_neg (by rw [h16]; decide), if_neg (by rw [HB.out]; decide)]
          exact ⟨c1, HCAR.out, rfl⟩
        have hlen : (flush nw c1).out.length = on := HLN7.out
        rw [show lastAck g (flush nw c1) = ackC (flush nw c1) from by unfold lastAck; rw [if_pos ⟨List.length_eq_zero_iff.1 (by rw [hlen]; exact HZ.out), HD.out⟩]] at HT
        exact TknP.of HT (CM.of (A := []) (O := O9) (c := ackC (flush nw c1)) hv.drop HI9.out HO9.out) (fun x hx => mem_app R9 (mem_app R7 (mem_app R5 (mem_app R3 (mem_app R1 hx))))))
     | (go_end0
        have HT : Taken nw g ⟨t, []⟩ (lastAck g (flush nw c1)) := by
          unfold Taken
          rw [if_neg (by rw [HA.out]; decide)]
          rw [if_neg (by rw [HF.out]; decide), if_neg (by rw [h4]; decide), if_neg (by rw [h2]; decide), if_neg (by rw [h16]; decide), if_neg (by rw [HB.out]; decide)]
          exact ⟨c1, HCAR.out, rfl⟩
        have hlen : (flush nw c1).out.length = on := HLN7.out
        rw [show lastAck g (flush nw c1) = flush nw c1 from by unfold lastAck; rw [if_neg (fun h => by have h9 := congrArg List.length h.1; rw [hlen] at h9; have := HZ.out; simp at h9; omega)]] at HT
        exact TknP.of HT (CM.of (A := []) (O := O7) (c := flush nw c1) hv.drop HI7.out HO7.out) (fun x hx => mem_app R7 (mem_app R5 (mem_app R3 (mem_app R1 hx)))))
     | (go_end0
        have HT : Taken nw g ⟨t, []⟩ (lastAck g (flush nw c1)) := by
          unfold Taken
          rw [if_neg (by rw [HA.out]; decide)]
          rw [if_neg (by rw [HF.out]; decide), if_neg (by rw [h4]; decide), if_neg (by rw [h2]; decide), if_neg (by rw [h16]; decide), if_neg (by rw [HB.out]; decide)]
          exact ⟨c1, HCAR.out, rfl⟩
        have hlen : (flush nw c1).out.length = on := HLN7.out
        rw [show lastAck g (flush nw c1) = flush nw c1 from by unfold lastAck; rw [if_neg (fun h => HD.out h.2)]] at HT
        exact TknP.of HT (CM.of (A := []) (O := O7) (c := flush nw c1) hv.drop HI7.out HO7.out) (fun x hx => mem_app R7 (mem_app R5 (mem_app R3 (mem_app R1 hx)))))
theorem taken_C (hc : CM w0 w bc L R nw ⟨t, []⟩) (hg : InG R g sa sn sk) (hck : chkT t = true) (hs2 : 2 ≤ t.st) : Calls Try.prog 34 #[.pointer (some ⟨bc, 0, none⟩), .agg #[.int .i64 g.src, .int .i64 g.dst, .int .u32 g.seq, .int .u32 g.ack, .int .i64 g.fl, .int .i64 g.wnd, .slice sa sn sk]] w (TknP w0 bc L R nw g ⟨t, []⟩) := by
 obtain ⟨x1, hx1⟩ : ∃ x, Tp.u32 (g.seq + 1) = x := ⟨_, rfl⟩
 rcases again_or (t := t) (chkG_facts hg.ck).2.2.2.2.1 hx1 with ⟨ha, y0, y1, y2⟩ | ⟨ha, hna⟩
 · exact taken_again hc hg hck hs2 hx1 ha y0 y1 y2
 · rcases Bool.eq_false_or_eq_true (fits g t) with hf | hf
   · rcases Bool.eq_false_or_eq_true (has g.fl 4) with h4 | h4
     · exact taken_leaf hc hg hck hs2 hx1 ha hna (.r hf h4)
     · rcases Bool.eq_false_or_eq_true (has g.fl 2) with h2 | h2
       · exact taken_leaf hc hg hck hs2 hx1 ha hna (.s hf h4 h2)
       · rcases Bool.eq_false_or_eq_true (has g.fl 16) with h16 | h16
         · rcases Bool.eq_false_or_eq_true (acked nw g ⟨t, []⟩).2 with hb | hb
           · by_cases hd : 0 < g.data.length
             · exact taken_k hc hg hck hs2 hx1 ha hna hf h4 h2 h16 hb (.inl hd)
             · rcases Bool.eq_false_or_eq_true (has g.fl 1) with h1 | h1
               · exact taken_k hc hg hck hs2 hx1 ha hna hf h4 h2 h16 hb (.inr (.inl ⟨by omega, h1⟩))
               · exact taken_k hc hg hck hs2 hx1 ha hna hf h4 h2 h16 hb (.inr (.inr ⟨by omega, h1⟩))
           · exact taken_f hc hg hck hs2 hx1 ha hna hf h4 h2 h16 hb
         · exact taken_leaf hc hg hck hs2 hx1 ha hna (.n hf h4 h2 h16)
   · rcases Bool.eq_false_or_eq_true (has g.fl 4) with h4 | h4
     · exact taken_leaf hc hg hck hs2 hx1 ha hna (.nr hf h4)
     · by_cases h9 : t.st = 9
       · rcases Bool.eq_false_or_eq_true (has g.fl 1) with h1 | h1
         · exact taken_leaf hc hg hck hs2 hx1 ha hna (.nw hf h4 h9 h1)
         · exact taken_leaf hc hg hck hs2 hx1 ha hna (.nb hf h4 h9 h1)
       · exact taken_leaf hc hg hck hs2 hx1 ha hna (.na hf h4 h9)
end Go.Proofs.Ythenepdbgeafkaa
end

section
/-
 Connections (layer 26): Take.
-/
namespace Go.Proofs.Tp
open Go Go.RowKit Go.Proofs.Wi
def TkdP (w0 : World) (bc : Nat) (L : LV) (R : LR) (nw : Nat) (g : G) (t : T) (e : Ending) (w' : World) : Prop :=
 ∃ c' R', e = .returned (.tuple #[]) ∧ Take nw g t c' ∧ CM w0 w' bc L (R' ++ R) nw c'
theorem chkI_G {g : G} (h : chkG g = true) : chkI g.src g.dst g.fl g.wnd g.data.length = true := by
 have := chkG_facts h
 exact decide_eq_true (by omega)
def RTT (w0 : World) (L : LV) (R : LR) (nw : Nat) (g : G) (t : T) (e : Ending) (w' : World) : Prop :=
 ∃ c' R' vt ov, e = .returned (.tuple #[vt, ov]) ∧ Take nw g t c' ∧ RT w0 w' L (R' ++ R) c' vt ov
def KTk (nw : Nat) (g : G) (t : T) (LL : LV) (c' : C) (L' : LV) (_ : LR) : Prop := Take nw g t c' ∧ L' = LL
theorem app2 (a b : Value) : #[a] ++ #[b] = #[a, b] := by simp
end Go.Proofs.Tp
namespace Go.Proofs.Tp
open Go Go.RowKit Go.Proofs.Wi
section
variable {nw : Nat} {g : G} {t : T}
theorem five_k (a b c d e : Nat) : a ≠ b ∨ (a = b ∧ c ≠ d) ∨ (a = b ∧ c = d ∧ e = 0) ∨ (a = b ∧ c = d ∧ e ≠ 0 ∧ e = 1) ∨ (a = b ∧ c = d ∧ e ≠ 0 ∧ e ≠ 1) := by omega
theorem tk_1 (h : g.src ≠ t.po) : Take nw g t ⟨t, []⟩ := by unfold Take; rw [if_pos (.inr (.inl h))]
theorem tk_2 (h : g.dst ≠ t.lo) : Take nw g t ⟨t, []⟩ := by unfold Take; rw [if_pos (.inr (.inr (.inl h)))]
theorem tk_3 (h : t.st = 0) : Take nw g t ⟨t, []⟩ := by unfold Take; rw [if_pos (.inr (.inr (.inr h)))]
theorem tk_4 (hk : chkG g = true) (h : g.src = t.po) (h2 : g.dst = t.lo) (h3 : t.st ≠ 0) (h4 : t.st = 1) : Take nw g t (answered nw g ⟨t, []⟩) := by
 unfold Take
 rw [if_neg (fun x => by rcases x with x | x | x | x; rw [hk] at x; cases x; exact x h; exact x h2; exact h3 x), if_pos h4]
theorem tk_5 (hk : chkG g = true) (h : g.src = t.po) (h2 : g.dst = t.lo) (h3 : t.st ≠ 0) (h4 : t.st ≠ 1) : ∀ c', Taken nw g ⟨t, []⟩ c' → Take nw g t c' := fun c' hc' => by
 unfold Take
 rw [if_neg (fun x => by rcases x with x | x | x | x; rw [hk] at x; cases x; exact x h; exact x h2; exact h3 x), if_neg h4]; exact hc'
end
end Go.Proofs.Tp
namespace Go.Proofs.Ythenepdbgeafkaa
open Go.Proofs.Wi Go.RowKit Go.Proofs Go.Proofs.Tp
variable {L : LV} {R : LR} {t : T} {g : G} {sa : Option Addr}
theorem built_came (a b c d e f g : Value) : Try.prog.built 72 [(0, .agg #[a, b, c, d, e, f, g])] = some #[a, b, c, d, e, f, g] := by kernel_rfl
theorem take_C {w0 w : World} {bc nw bs9 : Nat} {sn sk : Nat} (hc : CM w0 w bc ((bs9, #[.int .i64 g.src, .int .i64 g.dst, .int .u32 g.seq, .int .u32 g.ack, .int .i64 g.fl, .int .i64 g.wnd, .slice sa sn sk]) :: L) R nw ⟨t, []⟩) (hg : InG R g sa sn sk) (hck : chkT t = true) : Calls Try.prog 31 #[.pointer (some ⟨bc, 0, none⟩), .pointer (some ⟨bs9, 0, none⟩)] w (TkdP w0 bc ((bs9, #[.int .i64 g.src, .int .i64 g.dst, .int .u32 g.seq, .int .u32 g.ack, .int .i64 g.fl, .int .i64 g.wnd, .slice sa sn sk]) :: L) R nw g t) := by
 obtain ⟨da, dn, dk, ba, bn, bk, pa, pn, pk, l, ov, gs, O, hv0, hI, hO⟩ := hc
 have hv : Mem w0 w ((bs9, #[.int .i64 g.src, .int .i64 g.dst, .int .u32 g.seq, .int .u32 g.ack, .int .i64 g.fl, .int .i64 g.wnd, .slice sa sn sk]) :: (bc, #[.int .i64 t.st, .int .i64 t.lo, .int .u32 t.ip, .int .i64 t.po, .int .u32 t.iss, .int .u32 t.una, .int .u32 t.nx, .slice da dn dk, .int .i64 t.wnd, .bool t.en, .bool t.se, .int .u32 t.inn.next, .slice ba bn bk, .slice pa pn pk, .bool t.ed, .int .u64 t.tm, .int .i64 t.rto, .int .i64 t.tr, .int .i64 t.er, .int .u64 nw, ov]) :: (O ++ L)) R := hv0.perm (List.perm_middle (l₁ := (bc, _) :: O))
 have HI := Lib.hid hI
 have HO := Lib.hid hO
 have hsn : g.data.length = sn := len_rd1 (hv.rd hg.d)
 have HSK : Hid (∀ w, Calls Try.prog 32 #[.agg #[.int .i64 g.src, .int .i64 g.dst, .int .u32 g.seq, .int .u32 g.ack, .int .i64 g.fl, .int .i64 g.wnd, .slice sa sn sk]] w fun e w' => e = .returned (.bool true) ∧ New w w') := Lib.hid (fun w => by
   have h := chkG_facts hg.ck
   have := SCheck_any (.int .u32 g.seq) (.int .u32 g.ack) g.src g.dst g.fl g.wnd (by omega) (dn := sn) (dk := sk) (da := sa) w
   rw [← hsn, chkI_G hg.ck] at this
   rw [← hsn]
   exact this)
 have HG := Lib.hid hg
 have HCT := Lib.hid hck
 clear hv0 hI hO hsn
 have HRT := Lib.hid (chkT_facts hck).2.2.2.2.2.2.2.2.2.2.1
 rcases five_k g.src t.po g.dst t.lo t.st with n1 | ⟨h, n2⟩ | ⟨h, h2, h3⟩ | ⟨h, h2, n3, h4⟩ | ⟨h, h2, n3, n4⟩
 all_goals first
   | have HTK := Lib.hid (tk_5 (nw := nw) hg.ck h h2 n3 n4)
   | have HTK := Lib.hid (tk_4 (nw := nw) hg.ck h h2 n3 h4)
   | have HTK := Lib.hid (tk_3 (nw := nw) (g := g) h3)
   | have HTK := Lib.hid (tk_2 (nw := nw) n2)
   | have HTK := Lib.hid (tk_1 (nw := nw) n1)
 all_goals try (have hs2 : 2 ≤ t.st := (by omega); have HS2 := Lib.hid hs2; clear hs2)
 all_goals try (have y1 : (((g.src : Nat) : Int) != ((t.po : Nat) : Int)) = true := (by rw [bne_iff_ne]; omega); clear n1)
 all_goals try (have y1 : (((g.src : Nat) : Int) != ((t.po : Nat) : Int)) = false := (by rw [h]; simp); clear h)
 all_goals try (have y2 : (((g.dst : Nat) : Int) != ((t.lo : Nat) : Int)) = true := (by rw [bne_iff_ne]; omega); clear n2)
 all_goals try (have y2 : (((g.dst : Nat) : Int) != ((t.lo : Nat) : Int)) = false := (by rw [h2]; simp); clear h2)
 all_goals try (have y3 : ((t.st : Int) == 0) = true := (by rw [h3]; rfl); clear h3)
 all_goals try (have y3 : ((t.st : Int) == 0) = false := (by rw [beq_eq_false_iff_ne]; omega))
 all_goals try (have y4 : ((t.st : Int) == 1) = true := (by rw [h4]; rfl); clear h4)
 all_goals try (have y4 : ((t.st : Int) == 1) = false := (by rw [beq_eq_false_iff_ne]; omega))
 all_goals ((try clear n3); (try clear n4))
 all_goals
   clear hg hck
   go_enter Try.func31, Try.ntmps31
   go_wp2
   refine Any.wr2 32 [(0, [1000], none), (5, [1000], none), (10, [1001], none), (15, [1000], none), (20, [1001], none), (28, [1001], none)] [] hv ?_
   simp only [Any.someVals]
   iterate 32 apply Exists.intro
   repeat ((first
    | refine Any.E_off rfl ?_
    | ((with_reducible refine Any.gE 42 ?_); refine Any.eW 1000 7 Try.underlying42 infoG7 ?_)
    | ((with_reducible refine Any.gE 3 ?_); refine Any.eC 1000 (.int .i64 g.src) Try.underlying3 ?_)
    | ((with_reducible refine Any.gE 3 ?_); refine Any.eC 1000 (.int .i64 g.dst) Try.underlying3 ?_)
    | ((with_reducible refine Any.gE 3 ?_); refine Any.eC 1001 (.int .i64 t.po) Try.underlying3 ?_)
    | ((with_reducible refine Any.gE 3 ?_); refine Any.eC 1001 (.int .i64 t.lo) Try.underlying3 ?_)
    | ((with_reducible refine Any.gE 3 ?_); refine Any.eC 1001 (.int .i64 t.st) Try.underlying3 ?_)
    | (apply Any.E_val rfl rfl rfl rfl
       case h =>
        intro E' hA K hK
        first
         | (go_big_quiet_op; first
            | (refine hK _ ?_; rfl)
            | (refine ⟨_, fun _ _ => rfl, ?_⟩; refine hK _ ?_; rfl)
            | (apply Exists.intro; refine ⟨fun w1 hw1 => ?_, ?_⟩; · (first
                | (go_at_call 32; exact Any.calls_VE (HSK.out _) hw1))
               refine hK _ ?_; rfl))
       case hD => rfl)); simp only [Act.put, sia, scs, scz])
   try any_goals exact undef
   refine Any.fin2 hv [1000, 1001] ?_; clear hv; intro w9 hv
   clear HSK
   go_wp2_with (first
     | ((with_reducible refine gLd 3 ?_); refine ldC hv bc 0 (.int .i64 t.st) Try.underlying3 ?_)
     | ((with_reducible refine gLd 42 ?_); refine ldV hv bs9 7 Try.underlying42 infoG7 ?_)
     | ((with_reducible refine at_build (T := 72) ?_); refine wl_build rfl _ rfl (built_came _ _ _ _ _ _ _) ?_)
     | (go_at_call 33; (refine (answered_C (CM.of (A := [_]) (c := ⟨t, []⟩) hv HI.out HO.out) HG.out (by decide) HRT.out).mono ?_); rintro e w1 ⟨R1, rfl, hc1⟩; obtain ⟨da1, dn1, dk1, ba1, bn1, bk1, pa1, pn1, pk1, l1, ov1, gs1, O1, hv1, hI1, hO1⟩ := CM.back (A := [_]) hc1; clear hv hc1; have hv : Mem w0 _ ([_] ++ (bc, #[.int .i64 ((answered nw g ⟨t, []⟩).t.st : Nat), .int .i64 ((answered nw g ⟨t, []⟩).t.lo : Nat), .int .u32 ((answered nw g ⟨t, []⟩).t.ip : Nat), .int .i64 ((answered nw g ⟨t, []⟩).t.po : Nat), .int .u32 ((answered nw g ⟨t, []⟩).t.iss : Nat), .int .u32 ((answered nw g ⟨t, []⟩).t.una : Nat), .int .u32 ((answered nw g ⟨t, []⟩).t.nx : Nat), .slice da1 dn1 dk1, .int .i64 ((answered nw g ⟨t, []⟩).t.wnd : Nat), .bool (answered nw g ⟨t, []⟩).t.en, .bool (answered nw g ⟨t, []⟩).t.se, .int .u32 ((answered nw g ⟨t, []⟩).t.inn.next : Nat), .slice ba1 bn1 bk1, .slice pa1 pn1 pk1, .bool (answered nw g ⟨t, []⟩).t.ed, .int .u64 ((answered nw g ⟨t, []⟩).t.tm : Nat), .int .i64 ((answered nw g ⟨t, []⟩).t.rto : Nat), .int .i64 ((answered nw g ⟨t, []⟩).t.tr : Nat), .int .i64 ((answered nw g ⟨t, []⟩).t.er : Nat), .int .u64 nw, ov1]) :: (O1 ++ L)) _ := hv1; clear hv1; have HI1 := Lib.hid hI1; have HO1 := Lib.hid hO1; clear hI1 hO1; simp only [List.cons_append, List.nil_append] at hv)
     | (go_at_call 34; (refine (taken_C (CM.of (A := [_]) (c := ⟨t, []⟩) hv HI.out HO.out) HG.out HCT.out HS2.out).mono ?_); rintro e w1 ⟨c1, R1, rfl, htk, hc1⟩; have HTN := Lib.hid htk; have HC1 := Lib.hid hc1; clear hv htk hc1))
   go_end0
   first
     | exact ⟨_, R1, rfl, HTK.out, CM.of (A := [_]) (O := O1) (c := answered nw g ⟨t, []⟩) hv HI1.out HO1.out⟩
     | exact ⟨c1, R1, rfl, HTK.out _ HTN.out, HC1.out⟩
     | exact ⟨_, [], rfl, HTK.out, CM.of (A := [_]) (O := O) (c := ⟨t, []⟩) hv HI.out HO.out⟩
theorem take_do {w0 : World} {sn sk nw b4 : Nat} {x6 x3 : Nat × Array Value} (hg : InG R g sa sn sk) (hck : chkT t = true) (w1 : World) (bc : Nat) (A : LV)
   (hc : CM w0 w1 bc (A ++ (x6 :: (b4, #[.int .i64 g.src, .int .i64 g.dst, .int .u32 g.seq, .int .u32 g.ack, .int .i64 g.fl, .int .i64 g.wnd, .slice sa sn sk]) :: x3 :: L)) R nw ⟨t, []⟩) :
   Calls Try.prog 31 (#[.pointer (some ⟨bc, 0, none⟩)] ++ #[.pointer (some ⟨b4, 0, none⟩)]) w1 (DoP (KTk nw g t (x6 :: (b4, #[.int .i64 g.src, .int .i64 g.dst, .int .u32 g.seq, .int .u32 g.ack, .int .i64 g.fl, .int .i64 g.wnd, .slice sa sn sk]) :: x3 :: L)) w0 bc A R nw) := by
 rw [app2]
 refine (take_C (bs9 := b4) (hc.perm (permA1 A _ _ _)) hg hck).mono ?_
 rintro e w' ⟨c', R', rfl, h1, h2⟩
 exact ⟨_, _, R', rfl, ⟨h1, rfl⟩, h2.perm (permA1 A _ _ _).symm⟩
theorem Take_T {w0 w : World} (hv : Mem w0 w L R) {da ba pa : Option Addr} {dn dk bn bk pn pk : Nat} {l : List PcV} (hI : InC R t da dn dk ba bn bk pa pn pk l) (hck : chkT t = true) {nw : Nat} {sn sk : Nat} (hg : InG R g sa sn sk) : Calls Try.prog 13 #[.agg #[.int .i64 t.st, .int .i64 t.lo, .int .u32 t.ip, .int .i64 t.po, .int .u32 t.iss, .int .u32 t.una, .int .u32 t.nx, .slice da dn dk, .int .i64 t.wnd, .bool t.en, .bool t.se, .int .u32 t.inn.next, .slice ba bn bk, .slice pa pn pk, .bool t.ed, .int .u64 t.tm, .int .i64 t.rto, .int .i64 t.tr, .int .i64 t.er], .agg #[.int .i64 g.src, .int .i64 g.dst, .int .u32 g.seq, .int .u32 g.ack, .int .i64 g.fl, .int .i64 g.wnd, .slice sa sn sk], .int .u64 nw] w (RTT w0 L R nw g t) := by
 have HG := Lib.hid hg
 have HI := Lib.hid hI
 have HCK := Lib.hid hck
 clear hI hck
 clear hg
 go_enter Try.func13, Try.ntmps13
 go_wp2_with (first
   | ((with_reducible refine gBx 31 3 ?_); refine nwB hv #[.int .i64 t.st, .int .i64 t.lo, .int .u32 t.ip, .int .i64 t.po, .int .u32 t.iss, .int .u32 t.una, .int .u32 t.nx, .slice da dn dk, .int .i64 t.wnd, .bool t.en, .bool t.se, .int .u32 t.inn.next, .slice ba bn bk, .slice pa pn pk, .bool t.ed, .int .u64 t.tm, .int .i64 t.rto, .int .i64 t.tr, .int .i64 t.er] 31 ?_; clear hv; intro b_3 w2 hv)
   | ((with_reducible refine gBx 42 4 ?_); refine nwB hv #[.int .i64 g.src, .int .i64 g.dst, .int .u32 g.seq, .int .u32 g.ack, .int .i64 g.fl, .int .i64 g.wnd, .slice sa sn sk] 42 ?_; clear hv; intro b_4 w2 hv)
   | ((with_reducible refine gAl 31 6 ?_); refine nwB hv #[.int .i64 0, .int .i64 0, .int .u32 0, .int .i64 0, .int .u32 0, .int .u32 0, .int .u32 0, .slice none 0 0, .int .i64 0, .bool false, .bool false, .int .u32 0, .slice none 0 0, .slice none 0 0, .bool false, .int .u64 0, .int .i64 0, .int .i64 0, .int .i64 0] 31 ?_; clear hv; intro b_6 w2 hv)
   | ((with_reducible refine gLd 31 ?_); refine ldV hv b_3 19 Try.underlying31 infoT19 ?_)
   | (go_at_call 25; (refine (done_C (K := KTk nw g t ((b_6, #[.int .i64 0, .int .i64 0, .int .u32 0, .int .i64 0, .int .u32 0, .int .u32 0, .int .u32 0, .slice none 0 0, .int .i64 0, .bool false, .bool false, .int .u32 0, .slice none 0 0, .slice none 0 0, .bool false, .int .u64 0, .int .i64 0, .int .i64 0, .int .i64 0]) :: (b_4, #[.int .i64 g.src, .int .i64 g.dst, .int .u32 g.seq, .int .u32 g.ack, .int .i64 g.fl, .int .i64 g.wnd, .slice sa sn sk]) :: (b_3, #[.int .i64 t.st, .int .i64 t.lo, .int .u32 t.ip, .int .i64 t.po, .int .u32 t.iss, .int .u32 t.una, .int .u32 t.nx, .slice da dn dk, .int .i64 t.wnd, .bool t.en, .bool t.se, .int .u32 t.inn.next, .slice ba bn bk, .slice pa pn pk, .bool t.ed, .int .u64 t.tm, .int .i64 t.rto, .int .i64 t.tr, .int .i64 t.er]) :: L)) hv HI.out HCK.out (nw := nw) (f := 31) (cap := #[.pointer (some ⟨b_4, 0, none⟩)]) (Go.Proofs.enters_of Try.func31 (by kernel_rfl) rfl) (take_do (b4 := b_4) (x6 := (b_6, #[.int .i64 0, .int .i64 0, .int .u32 0, .int .i64 0, .int .u32 0, .int .u32 0, .int .u32 0, .slice none 0 0, .int .i64 0, .bool false, .bool false, .int .u32 0, .slice none 0 0, .slice none 0 0, .bool false, .int .u64 0, .int .i64 0, .int .i64 0, .int .i64 0])) (x3 := (b_3, #[.int .i64 t.st, .int .i64 t.lo, .int .u32 t.ip, .int .i64 t.po, .int .u32 t.iss, .int .u32 t.una, .int .u32 t.nx, .slice da dn dk, .int .i64 t.wnd, .bool t.en, .bool t.se, .int .u32 t.inn.next, .slice ba bn bk, .slice pa pn pk, .bool t.ed, .int .u64 t.tm, .int .i64 t.rto, .int .i64 t.tr, .int .i64 t.er])) (L := L) HG.out HCK.out)).mono ?_); rintro e w1 ⟨c1, L1, R1, vt, ov1, rfl, ⟨htk, rfl⟩, hr1⟩; obtain ⟨da1, dn1, dk1, ba1, bn1, bk1, pa1, pn1, pk1, l1, gs1, O1, rfl, hv1, hI1, hO1⟩ := hr1; clear hv; have hv := hv1; clear hv1; have HI1 := Lib.hid hI1; have HO1 := Lib.hid hO1; have HTK := Lib.hid htk; clear hI1 hO1 htk; have hv2 : Mem w0 _ ([(b_6, #[.int .i64 0, .int .i64 0, .int .u32 0, .int .i64 0, .int .u32 0, .int .u32 0, .int .u32 0, .slice none 0 0, .int .i64 0, .bool false, .bool false, .int .u32 0, .slice none 0 0, .slice none 0 0, .bool false, .int .u64 0, .int .i64 0, .int .i64 0, .int .i64 0]), (b_4, #[.int .i64 g.src, .int .i64 g.dst, .int .u32 g.seq, .int .u32 g.ack, .int .i64 g.fl, .int .i64 g.wnd, .slice sa sn sk]), (b_3, #[.int .i64 t.st, .int .i64 t.lo, .int .u32 t.ip, .int .i64 t.po, .int .u32 t.iss, .int .u32 t.una, .int .u32 t.nx, .slice da dn dk, .int .i64 t.wnd, .bool t.en, .bool t.se, .int .u32 t.inn.next, .slice ba bn bk, .slice pa pn pk, .bool t.ed, .int .u64 t.tm, .int .i64 t.rto, .int .i64 t.tr, .int .i64 t.er])] ++ (O1 ++ L)) _ := hv.perm (perm_out O1 [(b_6, #[.int .i64 0, .int .i64 0, .int .u32 0, .int .i64 0, .int .u32 0, .int .u32 0, .int .u32 0, .slice none 0 0, .int .i64 0, .bool false, .bool false, .int .u32 0, .slice none 0 0, .slice none 0 0, .bool false, .int .u64 0, .int .i64 0, .int .i64 0, .int .i64 0]), (b_4, #[.int .i64 g.src, .int .i64 g.dst, .int .u32 g.seq, .int .u32 g.ack, .int .i64 g.fl, .int .i64 g.wnd, .slice sa sn sk]), (b_3, #[.int .i64 t.st, .int .i64 t.lo, .int .u32 t.ip, .int .i64 t.po, .int .u32 t.iss, .int .u32 t.una, .int .u32 t.nx, .slice da dn dk, .int .i64 t.wnd, .bool t.en, .bool t.se, .int .u32 t.inn.next, .slice ba bn bk, .slice pa pn pk, .bool t.ed, .int .u64 t.tm, .int .i64 t.rto, .int .i64 t.tr, .int .i64 t.er])] L); clear hv; have hv := hv2; clear hv2; simp only [List.cons_append, List.nil_append] at hv)
   | ((with_reducible refine gSt 31 ?_); refine stV hv b_6 19 infoT19 ?_ (h1 := (rowT_one _ _ _ _ _ _ _ _ _ _)); clear hv; intro w2 hv))
 try simp only [Exit.inBlock, Exit.then]
 refine ret_cell2 (v := .agg (rowT c1.t (.slice da1 dn1 dk1) (.slice ba1 bn1 bk1) (.slice pa1 pn1 pk1))) (v1 := ov1) rfl rfl (read_row _ b_6 31 _ (hv.vars.ro (b := b_6)) 19 _ Try.underlying31 rfl infoT19 (by decide) rfl) rfl rfl ?_
 exact ⟨c1, R1, _, ov1, rfl, HTK.out, _, _, _, _, _, _, _, _, _, _, _, _, rfl, hv.drop.drop.drop, HI1.out, HO1.out⟩
end Go.Proofs.Ythenepdbgeafkaa
end

section
/-
 Connections (layer 26): one that begins; one that somebody begins.
-/
namespace Go.Proofs.Tp
open Go Go.RowKit Go.Proofs.Wi
def BegP (w0 : World) (L : LV) (R : LR) (nw : Nat) (c : C) (e : Ending) (w' : World) : Prop :=
 ∃ bc R', e = .returned (.pointer (some ⟨bc, 0, none⟩)) ∧ CM w0 w' bc L (R' ++ R) nw c
theorem has_20 : ∀ fl : Fin 32, bits .and .i64 ((fl.val : Nat) : Int) 20 = if has fl.val 16 = true ∨ has fl.val 4 = true then bits .and .i64 ((fl.val : Nat) : Int) 20 else 0 := by decide +kernel
theorem and_20 {fl : Nat} (h : fl ≤ 31) : bits .and .i64 (fl : Int) 20 = if has fl 16 = true ∨ has fl 4 = true then bits .and .i64 (fl : Int) 20 else 0 := has_20 ⟨fl, by omega⟩
theorem _root_.Go.Proofs.Wi.InS.next {R : LR} {nx : Nat} {bv pv : Value} {s0 : Nat} {l : List PcV} (h : InS R nx bv pv ⟨s0, [], []⟩ l) (y : Nat) : InS R y bv pv ⟨y, [], []⟩ l := ⟨h.b, h.p, h.all, by have := h.ps; unfold stOf; rw [this]⟩
def RTA (w0 : World) (L : LV) (R : LR) (c : C) (e : Ending) (w' : World) : Prop :=
 ∃ R' vt ov, e = .returned (.tuple #[vt, ov, .bool true]) ∧ RT w0 w' L (R' ++ R) c vt ov
end Go.Proofs.Tp
namespace Go.Proofs.Ythenepdbgeafkaa
open Go.Proofs.Wi Go.RowKit Go.Proofs Go.Proofs.Tp
variable {w0 w : World} {L : LV} {R : LR}
theorem built_tcb (a b c d e f g : Int) : Try.prog.built 31 [(0, .int .i64 a), (1, .int .i64 b), (2, .int .u32 c), (3, .int .i64 d), (4, .int .u32 e), (5, .int .u32 f), (6, .int .u32 g), (14, .int .i64 4)] = some #[.int .i64 a, .int .i64 b, .int .u32 c, .int .i64 d, .int .u32 e, .int .u32 f, .int .u32 g, .slice none 0 0, .int .i64 0, .bool false, .bool false, .int .u32 0, .slice none 0 0, .slice none 0 0, .bool false, .int .u64 0, .int .i64 4, .int .i64 0, .int .i64 0] := by kernel_rfl
theorem built_t0 : Try.prog.built 31 [] = some #[.int .i64 0, .int .i64 0, .int .u32 0, .int .i64 0, .int .u32 0, .int .u32 0, .int .u32 0, .slice none 0 0, .int .i64 0, .bool false, .bool false, .int .u32 0, .slice none 0 0, .slice none 0 0, .bool false, .int .u64 0, .int .i64 0, .int .i64 0, .int .i64 0] := by kernel_rfl
theorem begun_C (hv : Mem w0 w L R) {st lo ip po iss nw x1 : Nat} (hip : ip < 4294967296) (his : iss < 4294967296) (hx1 : Tp.u32 (iss + 1) = x1) : Calls Try.prog 43 #[.int .i64 st, .int .i64 lo, .int .u32 ip, .int .i64 po, .int .u32 iss, .int .u64 nw] w (BegP w0 L R nw ⟨(⟨st, lo, ip, po, iss, iss, x1, [], 0, false, false, ⟨0, [], []⟩, false, later nw 4, 4, 0, 0⟩ : T), []⟩) := by
 have hv9 := (hv.fresh (k := 2) (Below.refl _ _) (FR.nil _ _ 2)).fresh (k := 1) (Below.refl _ _) (FR.nil _ _ 1)
 clear hv
 have hv := hv9
 clear hv9
 have HIP := Lib.hid hip
 have HIS := Lib.hid his
 have HX1 : Hid (x1 < 4294967296) := Lib.hid (by rw [← hx1]; exact Tp.u32_lt _)
 have q1 : IntKind.u32.wrap ((iss : Int) + 1) = (x1 : Int) := by rw [← hx1]; unfold Tp.u32; simp [IntKind.wrap, IntKind.bits, IntKind.signed]
 clear hip his hx1
 go_enter Try.func43, Try.ntmps43
 go_wp2_with (first
   | ((with_reducible refine at_build (T := 31) ?_); refine wl_build rfl _ rfl (built_tcb _ _ _ _ _ _ _) ?_)
   | ((with_reducible refine at_build (T := 67) ?_); refine wl_build rfl _ rfl (built_con _ _ _ _ _ _ _ _ _ _ _ _ _ _ _ _ _ _ _ _) ?_)
   | ((with_reducible refine gBx 67 25 ?_); refine nwB hv #[.int .i64 st, .int .i64 lo, .int .u32 ip, .int .i64 po, .int .u32 iss, .int .u32 iss, .int .u32 x1, .slice none 0 0, .int .i64 0, .bool false, .bool false, .int .u32 0, .slice none 0 0, .slice none 0 0, .bool false, .int .u64 0, .int .i64 4, .int .i64 0, .int .i64 0, .int .u64 nw, .slice none 0 0] 67 ?_; clear hv; intro bc w2 hv)
   | (go_at_call 46; (refine (wait_4 (show CM w0 _ bc L _ nw ⟨(⟨st, lo, ip, po, iss, iss, x1, [], 0, false, false, ⟨0, [], []⟩, false, 0, 4, 0, 0⟩ : T), []⟩ from ⟨none, 0, 0, none, 0, 0, none, 0, 0, [], .slice none 0 0, [], [], hv, ⟨Mem.z, ⟨Mem.z, Mem.s Mem.z, fun p hp => (List.not_mem_nil hp).elim, rfl⟩, chk_empty 0 [] (Nat.zero_le _), ⟨HIS.out, HX1.out, HIS.out, (by show 0 < 4294967296; decide), HIP.out⟩⟩, ⟨OwnL.nil 7, fun x hx => (List.not_mem_nil hx).elim, rfl⟩⟩)).mono ?_); rintro e w1 ⟨R1, rfl, hc1⟩; have HC1 := Lib.hid hc1; clear hv hc1))
 go_ret
 exact ⟨bc, R1 ++ [_, _], rfl, by rw [List.append_assoc]; exact HC1.out⟩
theorem port_ok2 {n : Nat} (h1 : 1 ≤ n ∧ n ≤ 65535) (w : World) : Calls Try.prog 40 #[.int .i64 n] w fun e w' => e = .returned (.bool true) ∧ New w w' := port_ok h1.1 h1.2 w
theorem Connect_T (hv : Mem w0 w L R) {lo ip po iss nw : Nat} (h1 : 1 ≤ lo ∧ lo ≤ 65535) (h2 : 1 ≤ po ∧ po ≤ 65535) (hip : ip < 4294967296) (his : iss < 4294967296) : Calls Try.prog 18 #[.int .i64 lo, .int .u32 ip, .int .i64 po, .int .u32 iss, .int .u64 nw] w (RTP w0 L R (connect lo ip po iss nw)) := by
 obtain ⟨x1, hx1⟩ : ∃ x, Tp.u32 (iss + 1) = x := ⟨_, rfl⟩
 have e : connect lo ip po iss nw = send 2 iss [] ⟨(⟨1, lo, ip, po, iss, iss, x1, [], 0, false, false, ⟨0, [], []⟩, false, later nw 4, 4, 0, 0⟩ : T), []⟩ := by unfold connect Tp.begun; rw [hx1]
 rw [e]
 have HIP := Lib.hid hip
 have HIS := Lib.hid his
 have HX1 := Lib.hid hx1
 have H1 := Lib.hid h1
 have H2 := Lib.hid h2
 clear hip his hx1 h1 h2 e
 go_enter Try.func18, Try.ntmps18
 go_wp2_with (first
   | ((with_reducible refine gAl 31 10 ?_); refine nwB hv #[.int .i64 0, .int .i64 0, .int .u32 0, .int .i64 0, .int .u32 0, .int .u32 0, .int .u32 0, .slice none 0 0, .int .i64 0, .bool false, .bool false, .int .u32 0, .slice none 0 0, .slice none 0 0, .bool false, .int .u64 0, .int .i64 0, .int .i64 0, .int .i64 0] 31 ?_; clear hv; intro b_10 w2 hv)
   | (go_at_call 40; (with_reducible refine (port_ok2 H1.out _).mono ?_); rintro e w1 ⟨rfl, hn1⟩; replace hv := hv.new hn1; clear hn1)
   | (go_at_call 40; (with_reducible refine (port_ok2 H2.out _).mono ?_); rintro e w1 ⟨rfl, hn1⟩; replace hv := hv.new hn1; clear hn1)
   | (go_at_call 43; (refine (begun_C (st := 1) (lo := lo) (po := po) hv HIP.out HIS.out HX1.out).mono ?_); rintro e w1 ⟨bc, R1, rfl, hc1⟩; obtain ⟨da1, dn1, dk1, ba1, bn1, bk1, pa1, pn1, pk1, l1, ov1, gs1, O1, hv1, hI1, hO1⟩ := CM.back (A := [_]) hc1; clear hv hc1; have hv : Mem w0 _ ([_] ++ (bc, #[.int .i64 1, .int .i64 lo, .int .u32 ip, .int .i64 po, .int .u32 iss, .int .u32 iss, .int .u32 x1, .slice da1 dn1 dk1, .int .i64 0, .bool false, .bool false, .int .u32 0, .slice ba1 bn1 bk1, .slice pa1 pn1 pk1, .bool false, .int .u64 (later nw 4 : Nat), .int .i64 4, .int .i64 0, .int .i64 0, .int .u64 nw, ov1]) :: (O1 ++ L)) _ := hv1; clear hv1; have HI1 := Lib.hid hI1; have HO1 := Lib.hid hO1; clear hI1 hO1; simp only [List.cons_append, List.nil_append] at hv)
   | (go_at_call 44; (refine (snn2 (CM.of (A := [_]) (c := ⟨(⟨1, lo, ip, po, iss, iss, x1, [], 0, false, false, ⟨0, [], []⟩, false, later nw 4, 4, 0, 0⟩ : T), []⟩) hv HI1.out HO1.out) (by decide)).mono ?_); rintro e w1 ⟨R3, rfl, hc1⟩; obtain ⟨da3, dn3, dk3, ba3, bn3, bk3, pa3, pn3, pk3, l3, ov3, gs3, O3, hv1, hI1, hO1⟩ := CM.back (A := [_]) hc1; clear hv hc1; have hv : Mem w0 _ ([_] ++ (bc, #[.int .i64 1, .int .i64 lo, .int .u32 ip, .int .i64 po, .int .u32 iss, .int .u32 iss, .int .u32 x1, .slice da3 dn3 dk3, .int .i64 0, .bool false, .bool false, .int .u32 0, .slice ba3 bn3 bk3, .slice pa3 pn3 pk3, .bool false, .int .u64 (later nw 4 : Nat), .int .i64 4, .int .i64 0, .int .i64 0, .int .u64 nw, ov3]) :: (O3 ++ L)) _ := hv1; clear hv1; have HI3 := Lib.hid hI1; have HO3 := Lib.hid hO1; clear hI1 hO1; simp only [List.cons_append, List.nil_append] at hv))
 try simp only [Act.put, sia, scs, scz]
 refine Any.wr2 10 [(3, [1001], none), (7, [1001], none), (8, [1000], some 1000)] [(8, .put)] hv ?_
 simp only [Any.someVals]
 iterate 10 apply Exists.intro
 repeat ((first
  | refine Any.E_off rfl ?_
  | (apply Any.E_val rfl rfl rfl rfl
     case h =>
      intro E' hA K hK
      first
       | ((with_reducible refine Any.at_qload (T := 31) ?_); refine Any.q_ldp 1001 hA (by decide) rfl rfl 19 _ Try.underlying31 rfl infoT19 (by decide) (show 0 + 19 ≤ 21 from by decide) (#[.int .i64 1, .int .i64 lo, .int .u32 ip, .int .i64 po, .int .u32 iss, .int .u32 iss, .int .u32 x1, .slice da3 dn3 dk3, .int .i64 0, .bool false, .bool false, .int .u32 0, .slice ba3 bn3 bk3, .slice pa3 pn3 pk3, .bool false, .int .u64 (later nw 4 : Nat), .int .i64 4, .int .i64 0, .int .i64 0]) (ext21 _ _ _ _ _ _ _ _ _ _ _ _ _ _ _ _ _ _ _ _ _) ?_; refine hK _ ?_; rfl)
       | ((with_reducible refine Any.at_qload (T := 32) ?_); refine Any.q_ldc 1001 hA (by decide) rfl rfl _ Try.underlying32 rfl (ov3) rfl ?_; refine hK _ ?_; rfl)
     case hD => rfl)
  | refine Any.eV ?_
  | ((with_reducible refine Any.at_estore (T := 31) ?_); refine Any.E_putv (T := 31) rfl rfl rfl rfl rfl rfl 19 infoT19 rfl rfl (by simp [Value.oneCell']) ?_)); simp only [Act.put, sia, scs, scz])
 try any_goals exact undef
 refine Any.fin2 hv [1000, 1001] ?_; clear hv; intro w9 hv
 go_wp2
 try simp only [Exit.inBlock, Exit.then]
 refine ret_cell2 (v := .agg #[.int .i64 1, .int .i64 lo, .int .u32 ip, .int .i64 po, .int .u32 iss, .int .u32 iss, .int .u32 x1, .slice da3 dn3 dk3, .int .i64 0, .bool false, .bool false, .int .u32 0, .slice ba3 bn3 bk3, .slice pa3 pn3 pk3, .bool false, .int .u64 (later nw 4 : Nat), .int .i64 4, .int .i64 0, .int .i64 0]) (v1 := ov3) rfl rfl (read_row _ b_10 31 _ (hv.vars.ro (b := b_10)) 19 _ Try.underlying31 rfl infoT19 (by decide) rfl) rfl rfl ?_
 exact ⟨R3 ++ R1, _, ov3, rfl, _, _, _, _, _, _, _, _, _, l3, gs3, O3, rfl, by rw [List.append_assoc]; exact hv.drop.drop, by rw [List.append_assoc]; exact HI3.out, by rw [List.append_assoc]; exact HO3.out⟩
theorem Accept_T (hv : Mem w0 w L R) {lo ip iss nw : Nat} {g : G} {sa : Option Addr} {sn sk : Nat} (hg : InG R g sa sn sk) (hd : g.dst = lo) (h2 : has g.fl 2 = true) (h16 : has g.fl 16 = false) (h4 : has g.fl 4 = false) (hip : ip < 4294967296) (his : iss < 4294967296) : Calls Try.prog 20 #[.int .i64 lo, .int .u32 ip, .int .u32 iss, .agg #[.int .i64 g.src, .int .i64 g.dst, .int .u32 g.seq, .int .u32 g.ack, .int .i64 g.fl, .int .i64 g.wnd, .slice sa sn sk], .int .u64 nw] w (RTA w0 L R (accept lo ip iss nw g)) := by
 obtain ⟨x1, hx1⟩ : ∃ x, Tp.u32 (iss + 1) = x := ⟨_, rfl⟩
 obtain ⟨y1, hy1⟩ : ∃ x, Tp.u32 (g.seq + 1) = x := ⟨_, rfl⟩
 have e : accept lo ip iss nw g = send 18 iss [] ⟨(⟨2, lo, ip, g.src, iss, iss, x1, [], g.wnd, false, false, ⟨y1, [], []⟩, false, later nw 4, 4, 0, 0⟩ : T), []⟩ := by
   unfold accept Tp.begun
   show send 18 iss [] ⟨(⟨2, lo, ip, g.src, iss, iss, Tp.u32 (iss + 1), [], g.wnd, false, false, ⟨Tp.u32 (g.seq + 1), [], []⟩, false, later nw 4, 4, 0, 0⟩ : T), []⟩ = _
   rw [hx1, hy1]
 rw [e]
 have hsn : g.data.length = sn := len_rd1 (hv.rd hg.d)
 have HSK : Hid (∀ w, Calls Try.prog 32 #[.agg #[.int .i64 g.src, .int .i64 g.dst, .int .u32 g.seq, .int .u32 g.ack, .int .i64 g.fl, .int .i64 g.wnd, .slice sa sn sk]] w fun e w' => e = .returned (.bool true) ∧ New w w') := Lib.hid (fun w => by
   have h := chkG_facts hg.ck
   have := SCheck_any (.int .u32 g.seq) (.int .u32 g.ack) g.src g.dst g.fl g.wnd (by omega) (dn := sn) (dk := sk) (da := sa) w
   have hI : chkI g.src g.dst g.fl g.wnd g.data.length = true := decide_eq_true (by omega)
   rw [← hsn, hI] at this
   rw [← hsn]
   exact this)
 have hfl := (chkG_facts hg.ck).2.2.2.2.1
 have z1 : ((g.dst : Int) != (lo : Int)) = false := by rw [hd]; simp
 have z2 : bits .and .i64 (g.fl : Int) 2 = 2 := by rw [and_2 hfl, if_pos h2]
 have z3 : bits .and .i64 (g.fl : Int) 20 = 0 := by rw [and_20 hfl, if_neg (fun h => by rcases h with h | h; rw [h16] at h; cases h; rw [h4] at h; cases h)]
 have q1 : IntKind.u32.wrap ((g.seq : Int) + 1) = (y1 : Int) := by rw [← hy1]; unfold Tp.u32; simp [IntKind.wrap, IntKind.bits, IntKind.signed]
 have HY1 : Hid (y1 < 4294967296) := Lib.hid (by rw [← hy1]; exact Tp.u32_lt _)
 have HIP := Lib.hid hip
 have HIS := Lib.hid his
 have HX1 := Lib.hid hx1
 have HG := Lib.hid hg
 clear hip his hx1 hg hd h2 h16 h4 e hsn hfl hy1
 go_enter Try.func20, Try.ntmps20
 go_wp2_with (first
   | ((with_reducible refine gBx 42 8 ?_); refine nwB hv #[.int .i64 g.src, .int .i64 g.dst, .int .u32 g.seq, .int .u32 g.ack, .int .i64 g.fl, .int .i64 g.wnd, .slice sa sn sk] 42 ?_; clear hv; intro b_8 w2 hv)
   | ((with_reducible refine gAl 31 10 ?_); refine nwB hv #[.int .i64 0, .int .i64 0, .int .u32 0, .int .i64 0, .int .u32 0, .int .u32 0, .int .u32 0, .slice none 0 0, .int .i64 0, .bool false, .bool false, .int .u32 0, .slice none 0 0, .slice none 0 0, .bool false, .int .u64 0, .int .i64 0, .int .i64 0, .int .i64 0] 31 ?_; clear hv; intro b_10 w2 hv)
   | ((with_reducible refine gLd 42 ?_); refine ldV hv b_8 7 Try.underlying42 infoG7 ?_)
   | (go_at_call 32; (with_reducible refine (HSK.out _).mono ?_); rintro e w1 ⟨rfl, hn1⟩; replace hv := hv.new hn1; clear hn1)
   | ((with_reducible refine gLd 3 ?_); refine ldC hv b_8 1 (.int .i64 g.dst) Try.underlying3 ?_)
   | ((with_reducible refine gLd 3 ?_); refine ldC hv b_8 4 (.int .i64 g.fl) Try.underlying3 ?_)
   | ((with_reducible refine gLd 3 ?_); refine ldC hv b_8 0 (.int .i64 g.src) Try.underlying3 ?_)
   | (go_at_call 43; (refine (begun_C (st := 2) (lo := lo) (po := g.src) hv HIP.out HIS.out HX1.out).mono ?_); rintro e w1 ⟨bc, R1, rfl, hc1⟩; obtain ⟨da1, dn1, dk1, ba1, bn1, bk1, pa1, pn1, pk1, l1, ov1, gs1, O1, hv1, hI1, hO1⟩ := CM.back (A := [_, _]) hc1; clear hv hc1; have hv : Mem w0 _ ([_, _] ++ (bc, #[.int .i64 2, .int .i64 lo, .int .u32 ip, .int .i64 g.src, .int .u32 iss, .int .u32 iss, .int .u32 x1, .slice da1 dn1 dk1, .int .i64 0, .bool false, .bool false, .int .u32 0, .slice ba1 bn1 bk1, .slice pa1 pn1 pk1, .bool false, .int .u64 (later nw 4 : Nat), .int .i64 4, .int .i64 0, .int .i64 0, .int .u64 nw, ov1]) :: (O1 ++ L)) _ := hv1; clear hv1; have HI1 := Lib.hid hI1; have HO1 := Lib.hid hO1; clear hI1 hO1; simp only [List.cons_append, List.nil_append] at hv))
 clear HSK
 try simp only [Act.put, sia, scs, scz]
 refine Any.wr3 16 [(3, [1001], none), (6, [1001], none), (11, [1002], some 1002), (15, [1002], some 1002)] [(11, .put), (15, .put)] hv ?_
 simp only [Any.someVals]
 iterate 16 apply Exists.intro
 repeat ((first
  | refine Any.E_off rfl ?_
  | ((with_reducible refine Any.gE 22 ?_); refine Any.eC 1001 (.int .u32 g.seq) Try.underlying22 ?_)
  | ((with_reducible refine Any.gE 3 ?_); refine Any.eC 1001 (.int .i64 g.wnd) Try.underlying3 ?_)
  | refine Any.eV ?_
  | ((with_reducible refine Any.at_estore (T := 22) ?_); refine Any.E_putc (T := 22) (v := .int .u32 y1) rfl rfl rfl rfl rfl rfl (by kernel_rfl) rfl (by first | (show 11 < 21; decide) | (show 8 < 21; decide)) ?_)
  | ((with_reducible refine Any.at_estore (T := 3) ?_); refine Any.E_putc (T := 3) (v := .int .i64 g.wnd) rfl rfl rfl rfl rfl rfl (by kernel_rfl) rfl (by first | (show 11 < 21; decide) | (show 8 < 21; decide)) ?_)); simp only [Act.put, sia, scs, scz])
 try any_goals exact undef
 refine Any.fin3 hv [1000, 1001, 1002] ?_; clear hv; intro w9 hv
 have HI2 : Hid (InC (R1 ++ R) (⟨2, lo, ip, g.src, iss, iss, x1, [], g.wnd, false, false, ⟨y1, [], []⟩, false, later nw 4, 4, 0, 0⟩ : T) da1 dn1 dk1 ba1 bn1 bk1 pa1 pn1 pk1 l1) := Lib.hid ⟨HI1.out.d, HI1.out.s.next y1, chk_empty y1 [] (Nat.zero_le _), ⟨HI1.out.u.una, HI1.out.u.nx, HI1.out.u.iss, HY1.out, HI1.out.u.ip⟩⟩
 go_wp2_with (first
   | (go_at_call 44; (refine (snn18 (CM.of (A := [_, _]) (c := ⟨(⟨2, lo, ip, g.src, iss, iss, x1, [], g.wnd, false, false, ⟨y1, [], []⟩, false, later nw 4, 4, 0, 0⟩ : T), []⟩) hv HI2.out HO1.out) (by decide)).mono ?_); rintro e w1 ⟨R3, rfl, hc1⟩; obtain ⟨da3, dn3, dk3, ba3, bn3, bk3, pa3, pn3, pk3, l3, ov3, gs3, O3, hv1, hI1, hO1⟩ := CM.back (A := [_, _]) hc1; clear hv hc1; have hv : Mem w0 _ ([_, _] ++ (bc, #[.int .i64 2, .int .i64 lo, .int .u32 ip, .int .i64 g.src, .int .u32 iss, .int .u32 iss, .int .u32 x1, .slice da3 dn3 dk3, .int .i64 g.wnd, .bool false, .bool false, .int .u32 y1, .slice ba3 bn3 bk3, .slice pa3 pn3 pk3, .bool false, .int .u64 (later nw 4 : Nat), .int .i64 4, .int .i64 0, .int .i64 0, .int .u64 nw, ov3]) :: (O3 ++ L)) _ := hv1; clear hv1; have HI3 := Lib.hid hI1; have HO3 := Lib.hid hO1; clear hI1 hO1; simp only [List.cons_append, List.nil_append] at hv))
 try simp only [Act.put, sia, scs, scz]
 refine Any.wr3 11 [(3, [1002], none), (7, [1002], none), (8, [1000], some 1000)] [(8, .put)] hv ?_
 simp only [Any.someVals]
 iterate 11 apply Exists.intro
 repeat ((first
  | refine Any.E_off rfl ?_
  | (apply Any.E_val rfl rfl rfl rfl
     case h =>
      intro E' hA K hK
      first
       | ((with_reducible refine Any.at_qload (T := 31) ?_); refine Any.q_ldp 1002 hA (by decide) rfl rfl 19 _ Try.underlying31 rfl infoT19 (by decide) (show 0 + 19 ≤ 21 from by decide) (#[.int .i64 2, .int .i64 lo, .int .u32 ip, .int .i64 g.src, .int .u32 iss, .int .u32 iss, .int .u32 x1, .slice da3 dn3 dk3, .int .i64 g.wnd, .bool false, .bool false, .int .u32 y1, .slice ba3 bn3 bk3, .slice pa3 pn3 pk3, .bool false, .int .u64 (later nw 4 : Nat), .int .i64 4, .int .i64 0, .int .i64 0]) (ext21 _ _ _ _ _ _ _ _ _ _ _ _ _ _ _ _ _ _ _ _ _) ?_; refine hK _ ?_; rfl)
       | ((with_reducible refine Any.at_qload (T := 32) ?_); refine Any.q_ldc 1002 hA (by decide) rfl rfl _ Try.underlying32 rfl (ov3) rfl ?_; refine hK _ ?_; rfl)
     case hD => rfl)
  | refine Any.eV ?_
  | ((with_reducible refine Any.at_estore (T := 31) ?_); refine Any.E_putv (T := 31) rfl rfl rfl rfl rfl rfl 19 infoT19 rfl rfl (by simp [Value.oneCell']) ?_)); simp only [Act.put, sia, scs, scz])
 try any_goals exact undef
 refine Any.fin3 hv [1000, 1001, 1002] ?_; clear hv; intro w9 hv
 go_wp2
 try simp only [Exit.inBlock, Exit.then]
 refine ret_cell3 (v := .agg #[.int .i64 2, .int .i64 lo, .int .u32 ip, .int .i64 g.src, .int .u32 iss, .int .u32 iss, .int .u32 x1, .slice da3 dn3 dk3, .int .i64 g.wnd, .bool false, .bool false, .int .u32 y1, .slice ba3 bn3 bk3, .slice pa3 pn3 pk3, .bool false, .int .u64 (later nw 4 : Nat), .int .i64 4, .int .i64 0, .int .i64 0]) (v1 := ov3) (v2 := .bool true) rfl rfl (read_row _ b_10 31 _ (hv.vars.ro (b := b_10)) 19 _ Try.underlying31 rfl infoT19 (by decide) rfl) rfl rfl rfl ?_
 exact ⟨R3 ++ R1, _, ov3, rfl, _, _, _, _, _, _, _, _, _, l3, gs3, O3, rfl, by rw [List.append_assoc]; exact hv.drop.drop.drop, by rw [List.append_assoc]; exact HI3.out, by rw [List.append_assoc]; exact HO3.out⟩
end Go.Proofs.Ythenepdbgeafkaa
end
