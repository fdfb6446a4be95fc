import Derived.Test.YthenepdbgeafkaaGAV
import Derived.Test.YthenepdbgeafkaaGAT
set_option linter.unusedSimpArgs false
set_option linter.unusedVariables false
set_option maxRecDepth 100000
set_option maxHeartbeats 32000000
section
/-
 Connections (layer 26): a segment with an acknowledgement.
-/
namespace Go.Proofs.Tp
open Go Go.RowKit Go.Proofs.Wi
theorem out_on {gs : List Gv} {n k : Nat} (h : gs.length = n) (h2 : (cellsG gs).length = k * 7) : n = k := by
 rw [cellsG_len] at h2
 omega
theorem onz (n : Nat) : (n = 0 ∧ ((n : Int) == 0) = true) ∨ (0 < n ∧ ((n : Int) == 0) = false) := by
 rcases Nat.eq_zero_or_pos n with h | h
 · exact .inl ⟨h, by rw [h]; rfl⟩
 · exact .inr ⟨h, by rw [beq_eq_false_iff_ne]; omega⟩
theorem nm_own {t : T} (h : Nm t) : 0 ≤ flight t ∧ own t ≤ t.data.length := by
 have h1 := h.1
 refine ⟨?_, h.2⟩
 unfold own at h1
 split at h1 <;> omega
theorem flush_pre {t : T} {g : G} {nw : Nat} {c1 : C} (hck : chkT t = true) (hs2 : 2 ≤ t.st) (hg : chkG g = true) (hb : (acked nw g ⟨t, []⟩).2 = true) (hc : Carried nw g (acked nw g ⟨t, []⟩).1 c1) : 0 ≤ flight c1.t ∧ own c1.t ≤ c1.t.data.length ∧ c1.t.data.length ≤ 256 ∧ c1.t.wnd ≤ 65535 ∧ c1.t.rto ≤ 64 ∧ c1.out = [] := by
 obtain ⟨h1, h2⟩ := acked_kept (start hck) hs2 hg nw
 have h3 := h2 hb
 obtain ⟨h4, h5, h6⟩ := carried_kept h1.1 ((numbers_nm h3).1 h1.2) h3 hc
 have h7 := chkT_facts (kept_of h4 h5 h6).chk
 exact ⟨(nm_own h5).1, h5.2, h7.2.2.2.2.2.1, h7.2.2.2.2.2.2.1, h7.2.2.2.2.2.2.2.2.2.2.1, by rw [carried_out hc, acked_out hb]⟩
def AckPre (t : T) : Prop := flight t ≤ 1000 ∧ t.data.length ≤ 256 ∧ ∀ (g : G), t.st ≠ 2 → ¬ flight t < dif g.ack t.una → 0 < dif g.ack t.una → goneM (dif g.ack t.una).toNat ⟨{ t with wnd := g.wnd }, []⟩ ≤ t.data.length
theorem acked_pre {t : T} (hck : chkT t = true) (hs2 : 2 ≤ t.st) : AckPre t := by
 show flight t ≤ 1000 ∧ t.data.length ≤ 256 ∧ ∀ (g : G), t.st ≠ 2 → ¬ flight t < dif g.ack t.una → 0 < dif g.ack t.una → goneM (dif g.ack t.una).toNat ⟨{ t with wnd := g.wnd }, []⟩ ≤ t.data.length
 have h := chkT_facts hck
 have hd := h.2.2.2.2.2.1
 by_cases h2 : t.st = 2
 · obtain ⟨e1, e2, _, _⟩ := begun_num h.2.2.2.2.2.2.2.2.2.2.2.2.2.2 (.inr h2)
   refine ⟨?_, hd, fun g h3 => absurd h2 h3⟩
   unfold flight
   rw [e1, e2]
   unfold dif u32
   split <;> omega
 · have hn : Nm t := (numbers_nm (by omega)).1 h.2.2.2.2.2.2.2.2.2.2.2.2.2.2
   have := hn.fl hd
   exact ⟨by omega, hd, fun g _ h3 h4 => gone_le hn (by omega) (by omega)⟩
end Go.Proofs.Tp
namespace Go.Proofs.Ythenepdbgeafkaa
open Go.Proofs.Wi Go.RowKit Go.Proofs Go.Proofs.Tp
theorem acked_C2 {w0 w : World} {bc nw : Nat} {L : List (Nat × Array Value)} {R : List (Nat × Value × List Value)} {t : T} (hc : CM w0 w bc L R nw ⟨t, []⟩) {g : G} {sa : Option Addr} {sn sk : Nat} (hg : InG R g sa sn sk) (hp : AckPre t) : Calls Try.prog 61 #[.pointer (some ⟨bc, 0, none⟩), .agg #[.int .i64 (g.src : Nat), .int .i64 (g.dst : Nat), .int .u32 (g.seq : Nat), .int .u32 (g.ack : Nat), .int .i64 (g.fl : Nat), .int .i64 (g.wnd : Nat), .slice sa sn sk]] w (CMP w0 bc L R nw (.bool (acked nw g ⟨t, []⟩).2) (acked nw g ⟨t, []⟩).1) := acked_C hc hg (Nat.zero_le _) hp.1 hp.2.1 (hp.2.2 g)
theorem taken_f {w0 w : World} {bc nw : Nat} {L : List (Nat × Array Value)} {R : List (Nat × Value × List Value)} {t : T} (hc : CM w0 w bc L R nw ⟨t, []⟩) {g : G} {sa : Option Addr} {sn sk : Nat} (hg : InG R g sa sn sk) (hck : chkT t = true) (hs2 : 2 ≤ t.st) {x1 : Nat} (hx1 : Tp.u32 (g.seq + 1) = x1) (ha : againSyn g t = false) (hna : NotAgain g t x1) (hf : fits g t = true) (h4 : has g.fl 4 = false) (h2 : has g.fl 2 = false) (h16 : has g.fl 16 = true) (hb : (acked nw g ⟨t, []⟩).2 = false) : Calls Try.prog 34 #[.pointer (some ⟨bc, 0, none⟩), .agg #[.int .i64 (g.src : Nat), .int .i64 (g.dst : Nat), .int .u32 (g.seq : Nat), .int .u32 (g.ack : Nat), .int .i64 (g.fl : Nat), .int .i64 (g.wnd : Nat), .slice sa sn sk]] w (TknP w0 bc L R nw g ⟨t, []⟩) := by
 obtain ⟨da, dn, dk, ba, bn, bk, pa, pn, pk, l, ov, gs, O, hv0, hI, hO⟩ := hc
 have hv : Mem w0 w ((bc, #[.int .i64 (t.st : Nat), .int .i64 (t.lo : Nat), .int .u32 (t.ip : Nat), .int .i64 (t.po : Nat), .int .u32 (t.iss : Nat), .int .u32 (t.una : Nat), .int .u32 (t.nx : Nat), .slice da dn dk, .int .i64 (t.wnd : Nat), .bool t.en, .bool t.se, .int .u32 (t.inn.next : Nat), .slice ba bn bk, .slice pa pn pk, .bool t.ed, .int .u64 (t.tm : Nat), .int .i64 (t.rto : Nat), .int .i64 (t.tr : Nat), .int .i64 (t.er : Nat), .int .u64 nw, ov]) :: (O ++ L)) R := hv0
 have HI := Lib.hid hI
 have HO := Lib.hid hO
 clear hv0 hI hO
 have HG := Lib.hid hg
 have HFL := Lib.hid (chkG_facts hg.ck).2.2.2.2.1
 have HCT := Lib.hid hck
 have q1 : IntKind.u32.wrap ((g.seq : Int) + 1) = (x1 : Int) := by rw [← hx1]; unfold Tp.u32; simp [IntKind.wrap, IntKind.bits, IntKind.signed]
 have HTK : Hid (Taken nw g ⟨t, []⟩ ((acked nw g ⟨t, []⟩).1)) := Lib.hid (by unfold Taken; rw [if_neg (by rw [ha]; decide)]; rw [if_neg (by rw [hf]; decide), if_neg (by rw [h4]; decide), if_neg (by rw [h2]; decide), if_neg (by rw [h16]; decide), if_pos hb])
 have HPA := Lib.hid (acked_pre hck hs2)
 clear hg hck hs2 hx1 ha 
 rcases hna with ⟨y0, -⟩ | ⟨y0, y1⟩ | ⟨y0, y1, y2⟩
 all_goals
   go_enter Try.func34, Try.ntmps34
   go_wp2_with (first
     | ((with_reducible refine gBx 72 3 ?_); refine nwB hv #[.int .i64 (g.src : Nat), .int .i64 (g.dst : Nat), .int .u32 (g.seq : Nat), .int .u32 (g.ack : Nat), .int .i64 (g.fl : Nat), .int .i64 (g.wnd : Nat), .slice sa sn sk] 72 ?_; clear hv; intro b_3 w2 hv))
   refine Any.wr2 27 [(4, [1001], none), (9, [1000], none), (16, [1000], none), (23, [1001], none)] [] hv ?_
   simp only [Any.someVals]
   iterate 27 apply Exists.intro
   repeat ((first
    | refine Any.E_off rfl ?_
    | ((with_reducible refine Any.gE 3 ?_); refine Any.eC 1001 (.int .i64 (t.st : Nat)) Try.underlying3 ?_)
    | ((with_reducible refine Any.gE 3 ?_); refine Any.eC 1000 (.int .i64 (g.fl : Nat)) Try.underlying3 ?_)
    | ((with_reducible refine Any.gE 22 ?_); refine Any.eC 1000 (.int .u32 (g.seq : Nat)) Try.underlying22 ?_)
    | ((with_reducible refine Any.gE 22 ?_); refine Any.eC 1001 (.int .u32 (t.inn.next : Nat)) Try.underlying22 ?_)
    | refine Any.eV ?_); simp only [Act.put, sia, scs, scz])
   try any_goals exact undef
   refine Any.fin2 hv [1000, 1001] ?_; clear hv; intro w9 hv
   go_wp2_with (first
     | ((with_reducible refine gLd 72 ?_); refine ldV hv b_3 7 Try.underlying72 infoM7 ?_)
     | (go_at_call 60; (refine (fits_C (CM.of (A := [_]) (c := ⟨t, []⟩) hv HI.out HO.out) HG.out (by decide)).mono ?_); rintro e w1 ⟨R1, rfl, hc1⟩; obtain ⟨da1, dn1, dk1, ba1, bn1, bk1, pa1, pn1, pk1, l1, ov1, gs1, O1, hv1, hI1, hO1⟩ := CM.back (A := [_]) hc1; clear hv hc1; have hv : Mem w0 _ ([_] ++ (bc, #[.int .i64 (t.st : Nat), .int .i64 (t.lo : Nat), .int .u32 (t.ip : Nat), .int .i64 (t.po : Nat), .int .u32 (t.iss : Nat), .int .u32 (t.una : Nat), .int .u32 (t.nx : Nat), .slice da1 dn1 dk1, .int .i64 (t.wnd : Nat), .bool t.en, .bool t.se, .int .u32 (t.inn.next : Nat), .slice ba1 bn1 bk1, .slice pa1 pn1 pk1, .bool t.ed, .int .u64 (t.tm : Nat), .int .i64 (t.rto : Nat), .int .i64 (t.tr : Nat), .int .i64 (t.er : Nat), .int .u64 nw, ov1]) :: (O1 ++ L)) _ := hv1; clear hv1; have HI1 := Lib.hid hI1; have HO1 := Lib.hid hO1; clear hI1 hO1; simp only [List.cons_append, List.nil_append] at hv)
     | (go_at_call 58; (with_reducible refine (has4_any _ _ _ _ _ _ HFL.out _).mono ?_); rintro e w1 ⟨rfl, hn1⟩; replace hv := hv.new hn1; clear hn1)
     | (go_at_call 58; (with_reducible refine (has2_any _ _ _ _ _ _ HFL.out _).mono ?_); rintro e w1 ⟨rfl, hn1⟩; replace hv := hv.new hn1; clear hn1)
     | (go_at_call 58; (with_reducible refine (has16_any _ _ _ _ _ _ HFL.out _).mono ?_); rintro e w1 ⟨rfl, hn1⟩; replace hv := hv.new hn1; clear hn1)
     | (go_at_call 61; (refine (acked_C2 (CM.of (A := [_]) (c := ⟨t, []⟩) hv HI1.out HO1.out) (HG.out.mono (fun x hx => mem_app R1 hx)) HPA.out).mono ?_); rintro e w1 ⟨R3, rfl, hc1⟩; obtain ⟨da3, dn3, dk3, ba3, bn3, bk3, pa3, pn3, pk3, l3, ov3, gs3, O3, hv1, hI1, hO1⟩ := CM.back (A := [_]) hc1; clear hv hc1; have hv : Mem w0 _ ([_] ++ (bc, #[.int .i64 ((acked nw g ⟨t, []⟩).1.t.st : Nat), .int .i64 ((acked nw g ⟨t, []⟩).1.t.lo : Nat), .int .u32 ((acked nw g ⟨t, []⟩).1.t.ip : Nat), .int .i64 ((acked nw g ⟨t, []⟩).1.t.po : Nat), .int .u32 ((acked nw g ⟨t, []⟩).1.t.iss : Nat), .int .u32 ((acked nw g ⟨t, []⟩).1.t.una : Nat), .int .u32 ((acked nw g ⟨t, []⟩).1.t.nx : Nat), .slice da3 dn3 dk3, .int .i64 ((acked nw g ⟨t, []⟩).1.t.wnd : Nat), .bool (acked nw g ⟨t, []⟩).1.t.en, .bool (acked nw g ⟨t, []⟩).1.t.se, .int .u32 ((acked nw g ⟨t, []⟩).1.t.inn.next : Nat), .slice ba3 bn3 bk3, .slice pa3 pn3 pk3, .bool (acked nw g ⟨t, []⟩).1.t.ed, .int .u64 ((acked nw g ⟨t, []⟩).1.t.tm : Nat), .int .i64 ((acked nw g ⟨t, []⟩).1.t.rto : Nat), .int .i64 ((acked nw g ⟨t, []⟩).1.t.tr : Nat), .int .i64 ((acked nw g ⟨t, []⟩).1.t.er : Nat), .int .u64 nw, ov3]) :: (O3 ++ L)) _ := hv1; clear hv1; have HI3 := Lib.hid hI1; have HO3 := Lib.hid hO1; clear hI1 hO1; simp only [List.cons_append, List.nil_append] at hv))
   try rw [Exit.noGoto_ret]
   try simp only [Exit.inBlock, Exit.then]
   refine bodyPost_ret (results_none rfl _ _ _) rfl ?_
   exact TknP.of HTK.out (CM.of (A := []) (O := O3) (c := (acked nw g ⟨t, []⟩).1) hv.drop HI3.out HO3.out) (fun x hx => mem_app R3 (mem_app R1 hx))
theorem taken_k {w0 w : World} {bc nw : Nat} {L : List (Nat × Array Value)} {R : List (Nat × Value × List Value)} {t : T} (hc : CM w0 w bc L R nw ⟨t, []⟩) {g : G} {sa : Option Addr} {sn sk : Nat} (hg : InG R g sa sn sk) (hck : chkT t = true) (hs2 : 2 ≤ t.st) {x1 : Nat} (hx1 : Tp.u32 (g.seq + 1) = x1) (ha : againSyn g t = false) (hna : NotAgain g t x1) (hf : fits g t = true) (h4 : has g.fl 4 = false) (h2 : has g.fl 2 = false) (h16 : has g.fl 16 = true) (hb : (acked nw g ⟨t, []⟩).2 = true) (hd : 0 < g.data.length ∨ (g.data.length = 0 ∧ has g.fl 1 = true) ∨ (g.data.length = 0 ∧ has g.fl 1 = false)) : Calls Try.prog 34 #[.pointer (some ⟨bc, 0, none⟩), .agg #[.int .i64 (g.src : Nat), .int .i64 (g.dst : Nat), .int .u32 (g.seq : Nat), .int .u32 (g.ack : Nat), .int .i64 (g.fl : Nat), .int .i64 (g.wnd : Nat), .slice sa sn sk]] w (TknP w0 bc L R nw g ⟨t, []⟩) := by
 obtain ⟨da, dn, dk, ba, bn, bk, pa, pn, pk, l, ov, gs, O, hv0, hI, hO⟩ := hc
 have hv : Mem w0 w ((bc, #[.int .i64 (t.st : Nat), .int .i64 (t.lo : Nat), .int .u32 (t.ip : Nat), .int .i64 (t.po : Nat), .int .u32 (t.iss : Nat), .int .u32 (t.una : Nat), .int .u32 (t.nx : Nat), .slice da dn dk, .int .i64 (t.wnd : Nat), .bool t.en, .bool t.se, .int .u32 (t.inn.next : Nat), .slice ba bn bk, .slice pa pn pk, .bool t.ed, .int .u64 (t.tm : Nat), .int .i64 (t.rto : Nat), .int .i64 (t.tr : Nat), .int .i64 (t.er : Nat), .int .u64 nw, ov]) :: (O ++ L)) R := hv0
 have HI := Lib.hid hI
 have HO := Lib.hid hO
 clear hv0 hI hO
 have HG := Lib.hid hg
 have HFL := Lib.hid (chkG_facts hg.ck).2.2.2.2.1
 have HCT := Lib.hid hck
 have q1 : IntKind.u32.wrap ((g.seq : Int) + 1) = (x1 : Int) := by rw [← hx1]; unfold Tp.u32; simp [IntKind.wrap, IntKind.bits, IntKind.signed]
 have HPA := Lib.hid (acked_pre hck hs2)
 have HS2 := Lib.hid hs2
 have HB := Lib.hid hb
 have HA := Lib.hid ha
 have HF := Lib.hid hf
 have HOL : Hid ((acked nw g ⟨t, []⟩).1.out.length ≤ 400) := Lib.hid (by rw [acked_out hb]; exact Nat.zero_le _)
 have hsn : g.data.length = sn := len_rd1 (hv.rd hg.d)
 rcases hd with hd | ⟨hd, h1⟩ | ⟨hd, h1⟩
 all_goals try (have y5 : (0 : Int) < (sn : Int) := (by omega); have HD : Hid (0 < g.data.length ∨ has g.fl 1 = true) := Lib.hid (.inl hd); clear hd)
 all_goals try (have y5 : decide ((0 : Int) < (sn : Int)) = false := decide_eq_false (by omega); have y6 : decide (0 < sn) = false := decide_eq_false (by omega))
 all_goals try (have HD : Hid (0 < g.data.length ∨ has g.fl 1 = true) := Lib.hid (.inr h1); clear hd)
 all_goals try (have HD : Hid (¬ (0 < g.data.length ∨ has g.fl 1 = true)) := Lib.hid (fun h => by rcases h with h | h; omega; rw [h1] at h; cases h); clear hd)
 all_goals clear hg hck hs2 hx1 ha hsn
 all_goals rcases hna with ⟨y0, -⟩ | ⟨y0, y1⟩ | ⟨y0, y1, y2⟩
 all_goals
   go_enter Try.func34, Try.ntmps34
   go_wp2_with (first
     | ((with_reducible refine gBx 72 3 ?_); refine nwB hv #[.int .i64 (g.src : Nat), .int .i64 (g.dst : Nat), .int .u32 (g.seq : Nat), .int .u32 (g.ack : Nat), .int .i64 (g.fl : Nat), .int .i64 (g.wnd : Nat), .slice sa sn sk] 72 ?_; clear hv; intro b_3 w2 hv))
   refine Any.wr2 27 [(4, [1001], none), (9, [1000], none), (16, [1000], none), (23, [1001], none)] [] hv ?_
   simp only [Any.someVals]
   iterate 27 apply Exists.intro
   repeat ((first
    | refine Any.E_off rfl ?_
    | ((with_reducible refine Any.gE 3 ?_); refine Any.eC 1001 (.int .i64 (t.st : Nat)) Try.underlying3 ?_)
    | ((with_reducible refine Any.gE 3 ?_); refine Any.eC 1000 (.int .i64 (g.fl : Nat)) Try.underlying3 ?_)
    | ((with_reducible refine Any.gE 22 ?_); refine Any.eC 1000 (.int .u32 (g.seq : Nat)) Try.underlying22 ?_)
    | ((with_reducible refine Any.gE 22 ?_); refine Any.eC 1001 (.int .u32 (t.inn.next : Nat)) Try.underlying22 ?_)
    | refine Any.eV ?_); simp only [Act.put, sia, scs, scz])
   try any_goals exact undef
   refine Any.fin2 hv [1000, 1001] ?_; clear hv; intro w9 hv
   go_wp2_with (first
     | ((with_reducible refine gLd 72 ?_); refine ldV hv b_3 7 Try.underlying72 infoM7 ?_)
     | (go_at_call 60; (refine (fits_C (CM.of (A := [_]) (c := ⟨t, []⟩) hv HI.out HO.out) HG.out (by decide)).mono ?_); rintro e w1 ⟨R1, rfl, hc1⟩; obtain ⟨da1, dn1, dk1, ba1, bn1, bk1, pa1, pn1, pk1, l1, ov1, gs1, O1, hv1, hI1, hO1⟩ := CM.back (A := [_]) hc1; clear hv hc1; have hv : Mem w0 _ ([_] ++ (bc, #[.int .i64 (t.st : Nat), .int .i64 (t.lo : Nat), .int .u32 (t.ip : Nat), .int .i64 (t.po : Nat), .int .u32 (t.iss : Nat), .int .u32 (t.una : Nat), .int .u32 (t.nx : Nat), .slice da1 dn1 dk1, .int .i64 (t.wnd : Nat), .bool t.en, .bool t.se, .int .u32 (t.inn.next : Nat), .slice ba1 bn1 bk1, .slice pa1 pn1 pk1, .bool t.ed, .int .u64 (t.tm : Nat), .int .i64 (t.rto : Nat), .int .i64 (t.tr : Nat), .int .i64 (t.er : Nat), .int .u64 nw, ov1]) :: (O1 ++ L)) _ := hv1; clear hv1; have HI1 := Lib.hid hI1; have HO1 := Lib.hid hO1; clear hI1 hO1; simp only [List.cons_append, List.nil_append] at hv)
     | (go_at_call 58; (with_reducible refine (has4_any _ _ _ _ _ _ HFL.out _).mono ?_); rintro e w1 ⟨rfl, hn1⟩; replace hv := hv.new hn1; clear hn1)
     | (go_at_call 58; (with_reducible refine (has2_any _ _ _ _ _ _ HFL.out _).mono ?_); rintro e w1 ⟨rfl, hn1⟩; replace hv := hv.new hn1; clear hn1)
     | (go_at_call 58; (with_reducible refine (has16_any _ _ _ _ _ _ HFL.out _).mono ?_); rintro e w1 ⟨rfl, hn1⟩; replace hv := hv.new hn1; clear hn1)
     | (go_at_call 61; (refine (acked_C2 (CM.of (A := [_]) (c := ⟨t, []⟩) hv HI1.out HO1.out) (HG.out.mono (fun x hx => mem_app R1 hx)) HPA.out).mono ?_); rintro e w1 ⟨R3, rfl, hc1⟩; obtain ⟨da3, dn3, dk3, ba3, bn3, bk3, pa3, pn3, pk3, l3, ov3, gs3, O3, hv1, hI1, hO1⟩ := CM.back (A := [_]) hc1; clear hv hc1; have hv : Mem w0 _ ([_] ++ (bc, #[.int .i64 ((acked nw g ⟨t, []⟩).1.t.st : Nat), .int .i64 ((acked nw g ⟨t, []⟩).1.t.lo : Nat), .int .u32 ((acked nw g ⟨t, []⟩).1.t.ip : Nat), .int .i64 ((acked nw g ⟨t, []⟩).1.t.po : Nat), .int .u32 ((acked nw g ⟨t, []⟩).1.t.iss : Nat), .int .u32 ((acked nw g ⟨t, []⟩).1.t.una : Nat), .int .u32 ((acked nw g ⟨t, []⟩).1.t.nx : Nat), .slice da3 dn3 dk3, .int .i64 ((acked nw g ⟨t, []⟩).1.t.wnd : Nat), .bool (acked nw g ⟨t, []⟩).1.t.en, .bool (acked nw g ⟨t, []⟩).1.t.se, .int .u32 ((acked nw g ⟨t, []⟩).1.t.inn.next : Nat), .slice ba3 bn3 bk3, .slice pa3 pn3 pk3, .bool (acked nw g ⟨t, []⟩).1.t.ed, .int .u64 ((acked nw g ⟨t, []⟩).1.t.tm : Nat), .int .i64 ((acked nw g ⟨t, []⟩).1.t.rto : Nat), .int .i64 ((acked nw g ⟨t, []⟩).1.t.tr : Nat), .int .i64 ((acked nw g ⟨t, []⟩).1.t.er : Nat), .int .u64 nw, ov3]) :: (O3 ++ L)) _ := hv1; clear hv1; have HI3 := Lib.hid hI1; have HO3 := Lib.hid hO1; clear hI1 hO1; simp only [List.cons_append, List.nil_append] at hv)
     | (go_at_call 62; (refine (carried_C (CM.of (A := [_]) (c := (acked nw g ⟨t, []⟩).1) hv HI3.out HO3.out) (HG.out.mono (fun x hx => mem_app R3 (mem_app R1 hx))) HOL.out).mono ?_); rintro e w1 ⟨c1, R5, rfl, hcar, hc1⟩; obtain ⟨da5, dn5, dk5, ba5, bn5, bk5, pa5, pn5, pk5, l5, ov5, gs5, O5, hv1, hI1, hO1⟩ := CM.back (A := [_]) hc1; clear hv hc1; have hv : Mem w0 _ ([_] ++ (bc, #[.int .i64 (c1.t.st : Nat), .int .i64 (c1.t.lo : Nat), .int .u32 (c1.t.ip : Nat), .int .i64 (c1.t.po : Nat), .int .u32 (c1.t.iss : Nat), .int .u32 (c1.t.una : Nat), .int .u32 (c1.t.nx : Nat), .slice da5 dn5 dk5, .int .i64 (c1.t.wnd : Nat), .bool c1.t.en, .bool c1.t.se, .int .u32 (c1.t.inn.next : Nat), .slice ba5 bn5 bk5, .slice pa5 pn5 pk5, .bool c1.t.ed, .int .u64 (c1.t.tm : Nat), .int .i64 (c1.t.rto : Nat), .int .i64 (c1.t.tr : Nat), .int .i64 (c1.t.er : Nat), .int .u64 nw, ov5]) :: (O5 ++ L)) _ := hv1; clear hv1; have HI5 := Lib.hid hI1; have HO5 := Lib.hid hO1; have HCAR := Lib.hid hcar; have HFP := Lib.hid (flush_pre HCT.out HS2.out HG.out.ck HB.out hcar); clear hI1 hO1 hcar; simp only [List.cons_append, List.nil_append] at hv)
     | (go_at_call 28; (refine (flush_C (CM.of (A := [_]) (c := c1) hv HI5.out HO5.out) (fun _ => HFP.out.1) (fun _ => HFP.out.2.1) HFP.out.2.2.1 HFP.out.2.2.2.1 HFP.out.2.2.2.2.1 (by rw [HFP.out.2.2.2.2.2]; decide)).mono ?_); rintro e w1 ⟨R7, rfl, hc1⟩; obtain ⟨da7, dn7, dk7, ba7, bn7, bk7, pa7, pn7, pk7, l7, ov7, gs7, O7, hv1, hI1, hO1⟩ := CM.back (A := [_]) hc1; clear hv hc1; have hv : Mem w0 _ ([_] ++ (bc, #[.int .i64 ((flush nw c1).t.st : Nat), .int .i64 ((flush nw c1).t.lo : Nat), .int .u32 ((flush nw c1).t.ip : Nat), .int .i64 ((flush nw c1).t.po : Nat), .int .u32 ((flush nw c1).t.iss : Nat), .int .u32 ((flush nw c1).t.una : Nat), .int .u32 ((flush nw c1).t.nx : Nat), .slice da7 dn7 dk7, .int .i64 ((flush nw c1).t.wnd : Nat), .bool (flush nw c1).t.en, .bool (flush nw c1).t.se, .int .u32 ((flush nw c1).t.inn.next : Nat), .slice ba7 bn7 bk7, .slice pa7 pn7 pk7, .bool (flush nw c1).t.ed, .int .u64 ((flush nw c1).t.tm : Nat), .int .i64 ((flush nw c1).t.rto : Nat), .int .i64 ((flush nw c1).t.tr : Nat), .int .i64 ((flush nw c1).t.er : Nat), .int .u64 nw, ov7]) :: (O7 ++ L)) _ := hv1; clear hv1; have HI7 := Lib.hid hI1; have HO7 := Lib.hid hO1; clear hI1 hO1; simp only [List.cons_append, List.nil_append] at hv; obtain ⟨oa, on, oc, rfl, hon⟩ := id HO7.out.own.slice; have hlen7 : (flush nw c1).out.length = on := out_on HO7.out.len hon; have HLN7 := Lib.hid hlen7; clear hlen7; rcases onz on with ⟨h0, z1⟩ | ⟨h0, z1⟩ <;> (have HON := Lib.hid hon; have HZ := Lib.hid h0; clear hon h0))
     | ((with_reducible refine gLd 32 ?_); refine ldC hv bc 20 (.slice oa on oc) Try.underlying32 ?_)
     | ((with_reducible refine gLd 23 ?_); refine ldC hv b_3 6 (.slice sa sn sk) Try.underlying23 ?_)
     | (go_at_call 58; (with_reducible refine (has1_any _ _ _ _ _ _ HFL.out _).mono ?_); rintro e w1 ⟨rfl, hn1⟩; replace hv := hv.new hn1; clear hn1)
     | (go_at_call 39; (have HLEN : Hid ((flush nw c1).out.length ≤ 1000) := Lib.hid (by have h1 := HLN7.out; have := HZ.out; omega); refine (ack_C (CM.of (A := [_]) (c := flush nw c1) hv HI7.out HO7.out) HLEN.out).mono ?_); rintro e w1 ⟨R9, rfl, hc1⟩; obtain ⟨da9, dn9, dk9, ba9, bn9, bk9, pa9, pn9, pk9, l9, ov9, gs9, O9, hv1, hI1, hO1⟩ := CM.back (A := [_]) hc1; clear hv hc1; have hv : Mem w0 _ ([_] ++ (bc, #[.int .i64 ((flush nw c1).t.st : Nat), .int .i64 ((flush nw c1).t.lo : Nat), .int .u32 ((flush nw c1).t.ip : Nat), .int .i64 ((flush nw c1).t.po : Nat), .int .u32 ((flush nw c1).t.iss : Nat), .int .u32 ((flush nw c1).t.una : Nat), .int .u32 ((flush nw c1).t.nx : Nat), .slice da9 dn9 dk9, .int .i64 ((flush nw c1).t.wnd : Nat), .bool (flush nw c1).t.en, .bool (flush nw c1).t.se, .int .u32 ((flush nw c1).t.inn.next : Nat), .slice ba9 bn9 bk9, .slice pa9 pn9 pk9, .bool (flush nw c1).t.ed, .int .u64 ((flush nw c1).t.tm : Nat), .int .i64 ((flush nw c1).t.rto : Nat), .int .i64 ((flush nw c1).t.tr : Nat), .int .i64 ((flush nw c1).t.er : Nat), .int .u64 nw, ov9]) :: (O9 ++ L)) _ := hv1; clear hv1; have HI9 := Lib.hid hI1; have HO9 := Lib.hid hO1; clear hI1 hO1; simp only [List.cons_append, List.nil_append] at hv))
   all_goals first
     | (go_end0
        have HT : Taken nw g ⟨t, []⟩ (lastAck g (flush nw c1)) := by
          unfold Taken
          rw [if_neg (by rw [HA.out]; decide)]
          rw [if_neg (by rw [HF.out]; decide), if_neg (by rw [h4]; decide), if_neg (by rw [h2]; decide), if_neg (by rw [h16]; decide), if_neg (by rw [HB.out]; decide)]
          exact ⟨c1, HCAR.out, rfl⟩
        have hlen : (flush nw c1).out.length = on := HLN7.out
        rw [show lastAck g (flush nw c1) = ackC (flush nw c1) from by unfold lastAck; rw [if_pos ⟨List.length_eq_zero_iff.1 (by rw [hlen]; exact HZ.out), HD.out⟩]] at HT
        exact TknP.of HT (CM.of (A := []) (O := O9) (c := ackC (flush nw c1)) hv.drop HI9.out HO9.out) (fun x hx => mem_app R9 (mem_app R7 (mem_app R5 (mem_app R3 (mem_app R1 hx))))))
     | (go_end0
        have HT : Taken nw g ⟨t, []⟩ (lastAck g (flush nw c1)) := by
          unfold Taken
          rw [if_neg (by rw [HA.out]; decide)]
          rw [if_neg (by rw [HF.out]; decide), if_neg (by rw [h4]; decide), if_neg (by rw [h2]; decide), if_neg (by rw [h16]; decide), if_neg (by rw [HB.out]; decide)]
          exact ⟨c1, HCAR.out, rfl⟩
        have hlen : (flush nw c1).out.length = on := HLN7.out
        rw [show lastAck g (flush nw c1) = flush nw c1 from by unfold lastAck; rw [if_neg (fun h => by have h9 := congrArg List.length h.1; rw [hlen] at h9; have := HZ.out; simp at h9; omega)]] at HT
        exact TknP.of HT (CM.of (A := []) (O := O7) (c := flush nw c1) hv.drop HI7.out HO7.out) (fun x hx => mem_app R7 (mem_app R5 (mem_app R3 (mem_app R1 hx)))))
     | (go_end0
        have HT : Taken nw g ⟨t, []⟩ (lastAck g (flush nw c1)) := by
          unfold Taken
          rw [if_neg (by rw [HA.out]; decide)]
          rw [if_neg (by rw [HF.out]; decide), if_neg (by rw [h4]; decide), if_neg (by rw [h2]; decide), if_neg (by rw [h16]; decide), if_neg (by rw [HB.out]; decide)]
          exact ⟨c1, HCAR.out, rfl⟩
        have hlen : (flush nw c1).out.length = on := HLN7.out
        rw [show lastAck g (flush nw c1) = flush nw c1 from by unfold lastAck; rw [if_neg (fun h => HD.out h.2)]] at HT
        exact TknP.of HT (CM.of (A := []) (O := O7) (c := flush nw c1) hv.drop HI7.out HO7.out) (fun x hx => mem_app R7 (mem_app R5 (mem_app R3 (mem_app R1 hx)))))
theorem taken_C {w0 w : World} {bc nw : Nat} {L : List (Nat × Array Value)} {R : List (Nat × Value × List Value)} {t : T} (hc : CM w0 w bc L R nw ⟨t, []⟩) {g : G} {sa : Option Addr} {sn sk : Nat} (hg : InG R g sa sn sk) (hck : chkT t = true) (hs2 : 2 ≤ t.st) : Calls Try.prog 34 #[.pointer (some ⟨bc, 0, none⟩), .agg #[.int .i64 (g.src : Nat), .int .i64 (g.dst : Nat), .int .u32 (g.seq : Nat), .int .u32 (g.ack : Nat), .int .i64 (g.fl : Nat), .int .i64 (g.wnd : Nat), .slice sa sn sk]] w (TknP w0 bc L R nw g ⟨t, []⟩) := by
 obtain ⟨x1, hx1⟩ : ∃ x, Tp.u32 (g.seq + 1) = x := ⟨_, rfl⟩
 rcases again_or (t := t) (chkG_facts hg.ck).2.2.2.2.1 hx1 with ⟨ha, y0, y1, y2⟩ | ⟨ha, hna⟩
 · exact taken_again hc hg hck hs2 hx1 ha y0 y1 y2
 · rcases Bool.eq_false_or_eq_true (fits g t) with hf | hf
   · rcases Bool.eq_false_or_eq_true (has g.fl 4) with h4 | h4
     · exact taken_leaf hc hg hck hs2 hx1 ha hna (.r hf h4)
     · rcases Bool.eq_false_or_eq_true (has g.fl 2) with h2 | h2
       · exact taken_leaf hc hg hck hs2 hx1 ha hna (.s hf h4 h2)
       · rcases Bool.eq_false_or_eq_true (has g.fl 16) with h16 | h16
         · rcases Bool.eq_false_or_eq_true (acked nw g ⟨t, []⟩).2 with hb | hb
           · by_cases hd : 0 < g.data.length
             · exact taken_k hc hg hck hs2 hx1 ha hna hf h4 h2 h16 hb (.inl hd)
             · rcases Bool.eq_false_or_eq_true (has g.fl 1) with h1 | h1
               · exact taken_k hc hg hck hs2 hx1 ha hna hf h4 h2 h16 hb (.inr (.inl ⟨by omega, h1⟩))
               · exact taken_k hc hg hck hs2 hx1 ha hna hf h4 h2 h16 hb (.inr (.inr ⟨by omega, h1⟩))
           · exact taken_f hc hg hck hs2 hx1 ha hna hf h4 h2 h16 hb
         · exact taken_leaf hc hg hck hs2 hx1 ha hna (.n hf h4 h2 h16)
   · rcases Bool.eq_false_or_eq_true (has g.fl 4) with h4 | h4
     · exact taken_leaf hc hg hck hs2 hx1 ha hna (.nr hf h4)
     · by_cases h9 : t.st = 9
       · rcases Bool.eq_false_or_eq_true (has g.fl 1) with h1 | h1
         · exact taken_leaf hc hg hck hs2 hx1 ha hna (.nw hf h4 h9 h1)
         · exact taken_leaf hc hg hck hs2 hx1 ha hna (.nb hf h4 h9 h1)
       · exact taken_leaf hc hg hck hs2 hx1 ha hna (.na hf h4 h9)
end Go.Proofs.Ythenepdbgeafkaa
end

section
/-
 Connections (layer 26): Take.
-/
namespace Go.Proofs.Tp
open Go Go.RowKit Go.Proofs.Wi
def TkdP (w0 : World) (bc : Nat) (L : List (Nat × Array Value)) (R : List (Nat × Value × List Value)) (nw : Nat) (g : G) (t : T) (e : Ending) (w' : World) : Prop :=
 ∃ c' R', e = .returned (.tuple #[]) ∧ Take nw g t c' ∧ CM w0 w' bc L (R' ++ R) nw c'
theorem chkI_G {g : G} (h : chkG g = true) : chkI g.src g.dst g.fl g.wnd g.data.length = true := by
 have := chkG_facts h
 exact decide_eq_true (by omega)
def RTT (w0 : World) (L : List (Nat × Array Value)) (R : List (Nat × Value × List Value)) (nw : Nat) (g : G) (t : T) (e : Ending) (w' : World) : Prop :=
 ∃ c' R' vt ov, e = .returned (.tuple #[vt, ov]) ∧ Take nw g t c' ∧ RT w0 w' L (R' ++ R) c' vt ov
def KTk (nw : Nat) (g : G) (t : T) (LL : List (Nat × Array Value)) (c' : C) (L' : List (Nat × Array Value)) (_ : List (Nat × Value × List Value)) : Prop := Take nw g t c' ∧ L' = LL
theorem app2 (a b : Value) : #[a] ++ #[b] = #[a, b] := by simp
end Go.Proofs.Tp
namespace Go.Proofs.Tp
open Go Go.RowKit Go.Proofs.Wi
section
variable {nw : Nat} {g : G} {t : T}
theorem five_k (a b c d e : Nat) : a ≠ b ∨ (a = b ∧ c ≠ d) ∨ (a = b ∧ c = d ∧ e = 0) ∨ (a = b ∧ c = d ∧ e ≠ 0 ∧ e = 1) ∨ (a = b ∧ c = d ∧ e ≠ 0 ∧ e ≠ 1) := by omega
theorem tk_1 (h : g.src ≠ t.po) : Take nw g t ⟨t, []⟩ := by unfold Take; rw [if_pos (.inr (.inl h))]
theorem tk_2 (h : g.dst ≠ t.lo) : Take nw g t ⟨t, []⟩ := by unfold Take; rw [if_pos (.inr (.inr (.inl h)))]
theorem tk_3 (h : t.st = 0) : Take nw g t ⟨t, []⟩ := by unfold Take; rw [if_pos (.inr (.inr (.inr h)))]
theorem tk_4 (hk : chkG g = true) (h : g.src = t.po) (h2 : g.dst = t.lo) (h3 : t.st ≠ 0) (h4 : t.st = 1) : Take nw g t (answered nw g ⟨t, []⟩) := by
 unfold Take
 rw [if_neg (fun x => by rcases x with x | x | x | x; rw [hk] at x; cases x; exact x h; exact x h2; exact h3 x), if_pos h4]
theorem tk_5 (hk : chkG g = true) (h : g.src = t.po) (h2 : g.dst = t.lo) (h3 : t.st ≠ 0) (h4 : t.st ≠ 1) : ∀ c', Taken nw g ⟨t, []⟩ c' → Take nw g t c' := fun c' hc' => by
 unfold Take
 rw [if_neg (fun x => by rcases x with x | x | x | x; rw [hk] at x; cases x; exact x h; exact x h2; exact h3 x), if_neg h4]; exact hc'
end
end Go.Proofs.Tp
namespace Go.Proofs.Ythenepdbgeafkaa
open Go.Proofs.Wi Go.RowKit Go.Proofs Go.Proofs.Tp
theorem built_came (a b c d e f g : Value) : Try.prog.built 72 [(0, .agg #[a, b, c, d, e, f, g])] = some #[a, b, c, d, e, f, g] := by kernel_rfl
theorem take_C {w0 w : World} {bc nw bs9 : Nat} {L : List (Nat × Array Value)} {R : List (Nat × Value × List Value)} {t : T} {g : G} {sa : Option Addr} {sn sk : Nat} (hc : CM w0 w bc ((bs9, #[.int .i64 (g.src : Nat), .int .i64 (g.dst : Nat), .int .u32 (g.seq : Nat), .int .u32 (g.ack : Nat), .int .i64 (g.fl : Nat), .int .i64 (g.wnd : Nat), .slice sa sn sk]) :: L) R nw ⟨t, []⟩) (hg : InG R g sa sn sk) (hck : chkT t = true) : Calls Try.prog 31 #[.pointer (some ⟨bc, 0, none⟩), .pointer (some ⟨bs9, 0, none⟩)] w (TkdP w0 bc ((bs9, #[.int .i64 (g.src : Nat), .int .i64 (g.dst : Nat), .int .u32 (g.seq : Nat), .int .u32 (g.ack : Nat), .int .i64 (g.fl : Nat), .int .i64 (g.wnd : Nat), .slice sa sn sk]) :: L) R nw g t) := by
 obtain ⟨da, dn, dk, ba, bn, bk, pa, pn, pk, l, ov, gs, O, hv0, hI, hO⟩ := hc
 have hv : Mem w0 w ((bs9, #[.int .i64 (g.src : Nat), .int .i64 (g.dst : Nat), .int .u32 (g.seq : Nat), .int .u32 (g.ack : Nat), .int .i64 (g.fl : Nat), .int .i64 (g.wnd : Nat), .slice sa sn sk]) :: (bc, #[.int .i64 (t.st : Nat), .int .i64 (t.lo : Nat), .int .u32 (t.ip : Nat), .int .i64 (t.po : Nat), .int .u32 (t.iss : Nat), .int .u32 (t.una : Nat), .int .u32 (t.nx : Nat), .slice da dn dk, .int .i64 (t.wnd : Nat), .bool t.en, .bool t.se, .int .u32 (t.inn.next : Nat), .slice ba bn bk, .slice pa pn pk, .bool t.ed, .int .u64 (t.tm : Nat), .int .i64 (t.rto : Nat), .int .i64 (t.tr : Nat), .int .i64 (t.er : Nat), .int .u64 nw, ov]) :: (O ++ L)) R := hv0.perm (List.perm_middle (l₁ := (bc, _) :: O))
 have HI := Lib.hid hI
 have HO := Lib.hid hO
 have hsn : g.data.length = sn := len_rd1 (hv.rd hg.d)
 have HSK : Hid (∀ w, Calls Try.prog 32 #[.agg #[.int .i64 (g.src : Nat), .int .i64 (g.dst : Nat), .int .u32 (g.seq : Nat), .int .u32 (g.ack : Nat), .int .i64 (g.fl : Nat), .int .i64 (g.wnd : Nat), .slice sa sn sk]] w fun e w' => e = .returned (.bool true) ∧ New w w') := Lib.hid (fun w => by
   have h := chkG_facts hg.ck
   have := SCheck_any (.int .u32 (g.seq : Nat)) (.int .u32 (g.ack : Nat)) g.src g.dst g.fl g.wnd (by omega) (dn := sn) (dk := sk) (da := sa) w
   rw [← hsn, chkI_G hg.ck] at this
   rw [← hsn]
   exact this)
 have HG := Lib.hid hg
 have HCT := Lib.hid hck
 clear hv0 hI hO hsn
 have HRT := Lib.hid (chkT_facts hck).2.2.2.2.2.2.2.2.2.2.1
 rcases five_k g.src t.po g.dst t.lo t.st with n1 | ⟨h, n2⟩ | ⟨h, h2, h3⟩ | ⟨h, h2, n3, h4⟩ | ⟨h, h2, n3, n4⟩
 all_goals first
   | have HTK := Lib.hid (tk_5 (nw := nw) hg.ck h h2 n3 n4)
   | have HTK := Lib.hid (tk_4 (nw := nw) hg.ck h h2 n3 h4)
   | have HTK := Lib.hid (tk_3 (nw := nw) (g := g) h3)
   | have HTK := Lib.hid (tk_2 (nw := nw) n2)
   | have HTK := Lib.hid (tk_1 (nw := nw) n1)
 all_goals try (have hs2 : 2 ≤ t.st := (by omega); have HS2 := Lib.hid hs2; clear hs2)
 all_goals try (have y1 : (((g.src : Nat) : Int) != ((t.po : Nat) : Int)) = true := (by rw [bne_iff_ne]; omega); clear n1)
 all_goals try (have y1 : (((g.src : Nat) : Int) != ((t.po : Nat) : Int)) = false := (by rw [h]; simp); clear h)
 all_goals try (have y2 : (((g.dst : Nat) : Int) != ((t.lo : Nat) : Int)) = true := (by rw [bne_iff_ne]; omega); clear n2)
 all_goals try (have y2 : (((g.dst : Nat) : Int) != ((t.lo : Nat) : Int)) = false := (by rw [h2]; simp); clear h2)
 all_goals try (have y3 : ((t.st : Int) == 0) = true := (by rw [h3]; rfl); clear h3)
 all_goals try (have y3 : ((t.st : Int) == 0) = false := (by rw [beq_eq_false_iff_ne]; omega))
 all_goals try (have y4 : ((t.st : Int) == 1) = true := (by rw [h4]; rfl); clear h4)
 all_goals try (have y4 : ((t.st : Int) == 1) = false := (by rw [beq_eq_false_iff_ne]; omega))
 all_goals ((try clear n3); (try clear n4))
 all_goals
   clear hg hck
   go_enter Try.func31, Try.ntmps31
   go_wp2
   refine Any.wr2 32 [(0, [1000], none), (5, [1000], none), (10, [1001], none), (15, [1000], none), (20, [1001], none), (28, [1001], none)] [] hv ?_
   simp only [Any.someVals]
   iterate 32 apply Exists.intro
   repeat ((first
    | refine Any.E_off rfl ?_
    | ((with_reducible refine Any.gE 42 ?_); refine Any.eW 1000 7 Try.underlying42 infoG7 ?_)
    | ((with_reducible refine Any.gE 3 ?_); refine Any.eC 1000 (.int .i64 (g.src : Nat)) Try.underlying3 ?_)
    | ((with_reducible refine Any.gE 3 ?_); refine Any.eC 1000 (.int .i64 (g.dst : Nat)) Try.underlying3 ?_)
    | ((with_reducible refine Any.gE 3 ?_); refine Any.eC 1001 (.int .i64 (t.po : Nat)) Try.underlying3 ?_)
    | ((with_reducible refine Any.gE 3 ?_); refine Any.eC 1001 (.int .i64 (t.lo : Nat)) Try.underlying3 ?_)
    | ((with_reducible refine Any.gE 3 ?_); refine Any.eC 1001 (.int .i64 (t.st : Nat)) Try.underlying3 ?_)
    | (apply Any.E_val rfl rfl rfl rfl
       case h =>
        intro E' hA K hK
        first
         | (go_big_quiet_op; first
            | (refine hK _ ?_; rfl)
            | (refine ⟨_, fun _ _ => rfl, ?_⟩; refine hK _ ?_; rfl)
            | (apply Exists.intro; refine ⟨fun w1 hw1 => ?_, ?_⟩; · (first
                | (go_at_call 32; exact Any.calls_VE (HSK.out _) hw1))
               refine hK _ ?_; rfl))
       case hD => rfl)); simp only [Act.put, sia, scs, scz])
   try any_goals exact undef
   refine Any.fin2 hv [1000, 1001] ?_; clear hv; intro w9 hv
   clear HSK
   go_wp2_with (first
     | ((with_reducible refine gLd 3 ?_); refine ldC hv bc 0 (.int .i64 (t.st : Nat)) Try.underlying3 ?_)
     | ((with_reducible refine gLd 42 ?_); refine ldV hv bs9 7 Try.underlying42 infoG7 ?_)
     | ((with_reducible refine at_build (T := 72) ?_); refine wl_build rfl _ rfl (built_came _ _ _ _ _ _ _) ?_)
     | (go_at_call 33; (refine (answered_C (CM.of (A := [_]) (c := ⟨t, []⟩) hv HI.out HO.out) HG.out (by decide) HRT.out).mono ?_); rintro e w1 ⟨R1, rfl, hc1⟩; obtain ⟨da1, dn1, dk1, ba1, bn1, bk1, pa1, pn1, pk1, l1, ov1, gs1, O1, hv1, hI1, hO1⟩ := CM.back (A := [_]) hc1; clear hv hc1; have hv : Mem w0 _ ([_] ++ (bc, #[.int .i64 ((answered nw g ⟨t, []⟩).t.st : Nat), .int .i64 ((answered nw g ⟨t, []⟩).t.lo : Nat), .int .u32 ((answered nw g ⟨t, []⟩).t.ip : Nat), .int .i64 ((answered nw g ⟨t, []⟩).t.po : Nat), .int .u32 ((answered nw g ⟨t, []⟩).t.iss : Nat), .int .u32 ((answered nw g ⟨t, []⟩).t.una : Nat), .int .u32 ((answered nw g ⟨t, []⟩).t.nx : Nat), .slice da1 dn1 dk1, .int .i64 ((answered nw g ⟨t, []⟩).t.wnd : Nat), .bool (answered nw g ⟨t, []⟩).t.en, .bool (answered nw g ⟨t, []⟩).t.se, .int .u32 ((answered nw g ⟨t, []⟩).t.inn.next : Nat), .slice ba1 bn1 bk1, .slice pa1 pn1 pk1, .bool (answered nw g ⟨t, []⟩).t.ed, .int .u64 ((answered nw g ⟨t, []⟩).t.tm : Nat), .int .i64 ((answered nw g ⟨t, []⟩).t.rto : Nat), .int .i64 ((answered nw g ⟨t, []⟩).t.tr : Nat), .int .i64 ((answered nw g ⟨t, []⟩).t.er : Nat), .int .u64 nw, ov1]) :: (O1 ++ L)) _ := hv1; clear hv1; have HI1 := Lib.hid hI1; have HO1 := Lib.hid hO1; clear hI1 hO1; simp only [List.cons_append, List.nil_append] at hv)
     | (go_at_call 34; (refine (taken_C (CM.of (A := [_]) (c := ⟨t, []⟩) hv HI.out HO.out) HG.out HCT.out HS2.out).mono ?_); rintro e w1 ⟨c1, R1, rfl, htk, hc1⟩; have HTN := Lib.hid htk; have HC1 := Lib.hid hc1; clear hv htk hc1))
   go_end0
   first
     | exact ⟨_, R1, rfl, HTK.out, CM.of (A := [_]) (O := O1) (c := answered nw g ⟨t, []⟩) hv HI1.out HO1.out⟩
     | exact ⟨c1, R1, rfl, HTK.out _ HTN.out, HC1.out⟩
     | exact ⟨_, [], rfl, HTK.out, CM.of (A := [_]) (O := O) (c := ⟨t, []⟩) hv HI.out HO.out⟩
theorem take_do {w0 : World} {R : List (Nat × Value × List Value)} {t : T} {g : G} {sa : Option Addr} {sn sk nw b4 : Nat} {x6 x3 : Nat × Array Value} {L : List (Nat × Array Value)} (hg : InG R g sa sn sk) (hck : chkT t = true) (w1 : World) (bc : Nat) (A : List (Nat × Array Value))
   (hc : CM w0 w1 bc (A ++ (x6 :: (b4, #[.int .i64 (g.src : Nat), .int .i64 (g.dst : Nat), .int .u32 (g.seq : Nat), .int .u32 (g.ack : Nat), .int .i64 (g.fl : Nat), .int .i64 (g.wnd : Nat), .slice sa sn sk]) :: x3 :: L)) R nw ⟨t, []⟩) :
   Calls Try.prog 31 (#[.pointer (some ⟨bc, 0, none⟩)] ++ #[.pointer (some ⟨b4, 0, none⟩)]) w1 (DoP (KTk nw g t (x6 :: (b4, #[.int .i64 (g.src : Nat), .int .i64 (g.dst : Nat), .int .u32 (g.seq : Nat), .int .u32 (g.ack : Nat), .int .i64 (g.fl : Nat), .int .i64 (g.wnd : Nat), .slice sa sn sk]) :: x3 :: L)) w0 bc A R nw) := by
 rw [app2]
 refine (take_C (bs9 := b4) (hc.perm (permA1 A _ _ _)) hg hck).mono ?_
 rintro e w' ⟨c', R', rfl, h1, h2⟩
 exact ⟨_, _, R', rfl, ⟨h1, rfl⟩, h2.perm (permA1 A _ _ _).symm⟩
theorem Take_T {w0 w : World} {L : List (Nat × Array Value)} {R : List (Nat × Value × List Value)} (hv : Mem w0 w L R) {t : T} {da ba pa : Option Addr} {dn dk bn bk pn pk : Nat} {l : List PcV} (hI : InC R t da dn dk ba bn bk pa pn pk l) (hck : chkT t = true) {nw : Nat} {g : G} {sa : Option Addr} {sn sk : Nat} (hg : InG R g sa sn sk) : Calls Try.prog 13 #[.agg #[.int .i64 (t.st : Nat), .int .i64 (t.lo : Nat), .int .u32 (t.ip : Nat), .int .i64 (t.po : Nat), .int .u32 (t.iss : Nat), .int .u32 (t.una : Nat), .int .u32 (t.nx : Nat), .slice da dn dk, .int .i64 (t.wnd : Nat), .bool t.en, .bool t.se, .int .u32 (t.inn.next : Nat), .slice ba bn bk, .slice pa pn pk, .bool t.ed, .int .u64 (t.tm : Nat), .int .i64 (t.rto : Nat), .int .i64 (t.tr : Nat), .int .i64 (t.er : Nat)], .agg #[.int .i64 (g.src : Nat), .int .i64 (g.dst : Nat), .int .u32 (g.seq : Nat), .int .u32 (g.ack : Nat), .int .i64 (g.fl : Nat), .int .i64 (g.wnd : Nat), .slice sa sn sk], .int .u64 nw] w (RTT w0 L R nw g t) := by
 have HG := Lib.hid hg
 have HI := Lib.hid hI
 have HCK := Lib.hid hck
 clear hI hck
 clear hg
 go_enter Try.func13, Try.ntmps13
 go_wp2_with (first
   | ((with_reducible refine gBx 31 3 ?_); refine nwB hv #[.int .i64 (t.st : Nat), .int .i64 (t.lo : Nat), .int .u32 (t.ip : Nat), .int .i64 (t.po : Nat), .int .u32 (t.iss : Nat), .int .u32 (t.una : Nat), .int .u32 (t.nx : Nat), .slice da dn dk, .int .i64 (t.wnd : Nat), .bool t.en, .bool t.se, .int .u32 (t.inn.next : Nat), .slice ba bn bk, .slice pa pn pk, .bool t.ed, .int .u64 (t.tm : Nat), .int .i64 (t.rto : Nat), .int .i64 (t.tr : Nat), .int .i64 (t.er : Nat)] 31 ?_; clear hv; intro b_3 w2 hv)
   | ((with_reducible refine gBx 42 4 ?_); refine nwB hv #[.int .i64 (g.src : Nat), .int .i64 (g.dst : Nat), .int .u32 (g.seq : Nat), .int .u32 (g.ack : Nat), .int .i64 (g.fl : Nat), .int .i64 (g.wnd : Nat), .slice sa sn sk] 42 ?_; clear hv; intro b_4 w2 hv)
   | ((with_reducible refine gAl 31 6 ?_); refine nwB hv #[.int .i64 0, .int .i64 0, .int .u32 0, .int .i64 0, .int .u32 0, .int .u32 0, .int .u32 0, .slice none 0 0, .int .i64 0, .bool false, .bool false, .int .u32 0, .slice none 0 0, .slice none 0 0, .bool false, .int .u64 0, .int .i64 0, .int .i64 0, .int .i64 0] 31 ?_; clear hv; intro b_6 w2 hv)
   | ((with_reducible refine gLd 31 ?_); refine ldV hv b_3 19 Try.underlying31 infoT19 ?_)
   | (go_at_call 25; (refine (done_C (K := KTk nw g t ((b_6, #[.int .i64 0, .int .i64 0, .int .u32 0, .int .i64 0, .int .u32 0, .int .u32 0, .int .u32 0, .slice none 0 0, .int .i64 0, .bool false, .bool false, .int .u32 0, .slice none 0 0, .slice none 0 0, .bool false, .int .u64 0, .int .i64 0, .int .i64 0, .int .i64 0]) :: (b_4, #[.int .i64 (g.src : Nat), .int .i64 (g.dst : Nat), .int .u32 (g.seq : Nat), .int .u32 (g.ack : Nat), .int .i64 (g.fl : Nat), .int .i64 (g.wnd : Nat), .slice sa sn sk]) :: (b_3, #[.int .i64 (t.st : Nat), .int .i64 (t.lo : Nat), .int .u32 (t.ip : Nat), .int .i64 (t.po : Nat), .int .u32 (t.iss : Nat), .int .u32 (t.una : Nat), .int .u32 (t.nx : Nat), .slice da dn dk, .int .i64 (t.wnd : Nat), .bool t.en, .bool t.se, .int .u32 (t.inn.next : Nat), .slice ba bn bk, .slice pa pn pk, .bool t.ed, .int .u64 (t.tm : Nat), .int .i64 (t.rto : Nat), .int .i64 (t.tr : Nat), .int .i64 (t.er : Nat)]) :: L)) hv HI.out HCK.out (nw := nw) (f := 31) (cap := #[.pointer (some ⟨b_4, 0, none⟩)]) (Go.Proofs.enters_of Try.func31 (by kernel_rfl) rfl) (take_do (b4 := b_4) (x6 := (b_6, #[.int .i64 0, .int .i64 0, .int .u32 0, .int .i64 0, .int .u32 0, .int .u32 0, .int .u32 0, .slice none 0 0, .int .i64 0, .bool false, .bool false, .int .u32 0, .slice none 0 0, .slice none 0 0, .bool false, .int .u64 0, .int .i64 0, .int .i64 0, .int .i64 0])) (x3 := (b_3, #[.int .i64 (t.st : Nat), .int .i64 (t.lo : Nat), .int .u32 (t.ip : Nat), .int .i64 (t.po : Nat), .int .u32 (t.iss : Nat), .int .u32 (t.una : Nat), .int .u32 (t.nx : Nat), .slice da dn dk, .int .i64 (t.wnd : Nat), .bool t.en, .bool t.se, .int .u32 (t.inn.next : Nat), .slice ba bn bk, .slice pa pn pk, .bool t.ed, .int .u64 (t.tm : Nat), .int .i64 (t.rto : Nat), .int .i64 (t.tr : Nat), .int .i64 (t.er : Nat)])) (L := L) HG.out HCK.out)).mono ?_); rintro e w1 ⟨c1, L1, R1, vt, ov1, rfl, ⟨htk, rfl⟩, hr1⟩; obtain ⟨da1, dn1, dk1, ba1, bn1, bk1, pa1, pn1, pk1, l1, gs1, O1, rfl, hv1, hI1, hO1⟩ := hr1; clear hv; have hv := hv1; clear hv1; have HI1 := Lib.hid hI1; have HO1 := Lib.hid hO1; have HTK := Lib.hid htk; clear hI1 hO1 htk; have hv2 : Mem w0 _ ([(b_6, #[.int .i64 0, .int .i64 0, .int .u32 0, .int .i64 0, .int .u32 0, .int .u32 0, .int .u32 0, .slice none 0 0, .int .i64 0, .bool false, .bool false, .int .u32 0, .slice none 0 0, .slice none 0 0, .bool false, .int .u64 0, .int .i64 0, .int .i64 0, .int .i64 0]), (b_4, #[.int .i64 (g.src : Nat), .int .i64 (g.dst : Nat), .int .u32 (g.seq : Nat), .int .u32 (g.ack : Nat), .int .i64 (g.fl : Nat), .int .i64 (g.wnd : Nat), .slice sa sn sk]), (b_3, #[.int .i64 (t.st : Nat), .int .i64 (t.lo : Nat), .int .u32 (t.ip : Nat), .int .i64 (t.po : Nat), .int .u32 (t.iss : Nat), .int .u32 (t.una : Nat), .int .u32 (t.nx : Nat), .slice da dn dk, .int .i64 (t.wnd : Nat), .bool t.en, .bool t.se, .int .u32 (t.inn.next : Nat), .slice ba bn bk, .slice pa pn pk, .bool t.ed, .int .u64 (t.tm : Nat), .int .i64 (t.rto : Nat), .int .i64 (t.tr : Nat), .int .i64 (t.er : Nat)])] ++ (O1 ++ L)) _ := hv.perm (perm_out O1 [(b_6, #[.int .i64 0, .int .i64 0, .int .u32 0, .int .i64 0, .int .u32 0, .int .u32 0, .int .u32 0, .slice none 0 0, .int .i64 0, .bool false, .bool false, .int .u32 0, .slice none 0 0, .slice none 0 0, .bool false, .int .u64 0, .int .i64 0, .int .i64 0, .int .i64 0]), (b_4, #[.int .i64 (g.src : Nat), .int .i64 (g.dst : Nat), .int .u32 (g.seq : Nat), .int .u32 (g.ack : Nat), .int .i64 (g.fl : Nat), .int .i64 (g.wnd : Nat), .slice sa sn sk]), (b_3, #[.int .i64 (t.st : Nat), .int .i64 (t.lo : Nat), .int .u32 (t.ip : Nat), .int .i64 (t.po : Nat), .int .u32 (t.iss : Nat), .int .u32 (t.una : Nat), .int .u32 (t.nx : Nat), .slice da dn dk, .int .i64 (t.wnd : Nat), .bool t.en, .bool t.se, .int .u32 (t.inn.next : Nat), .slice ba bn bk, .slice pa pn pk, .bool t.ed, .int .u64 (t.tm : Nat), .int .i64 (t.rto : Nat), .int .i64 (t.tr : Nat), .int .i64 (t.er : Nat)])] L); clear hv; have hv := hv2; clear hv2; simp only [List.cons_append, List.nil_append] at hv)
   | ((with_reducible refine gSt 31 ?_); refine stV hv b_6 19 infoT19 ?_ (h1 := (rowT_one _ _ _ _ _ _ _ _ _ _)); clear hv; intro w2 hv))
 try simp only [Exit.inBlock, Exit.then]
 refine ret_cell2 (v := .agg (rowT c1.t (.slice da1 dn1 dk1) (.slice ba1 bn1 bk1) (.slice pa1 pn1 pk1))) (v1 := ov1) rfl rfl (read_row _ b_6 31 _ (hv.vars.ro (b := b_6)) 19 _ Try.underlying31 rfl infoT19 (by decide) rfl) rfl rfl ?_
 exact ⟨c1, R1, _, ov1, rfl, HTK.out, _, _, _, _, _, _, _, _, _, _, _, _, rfl, hv.drop.drop.drop, HI1.out, HO1.out⟩
end Go.Proofs.Ythenepdbgeafkaa
end

section
/-
 The reference (layers 24, 26): which segments, which connections may be; which connections are not great.
-/
namespace Go.Proofs.Tp
open Go Go.RowKit Go.Proofs.Wi
structure BndI (st lo po wnd rto tr er : Int) (dn tm : Nat) (en se : Bool) (ck : Bool) : Prop where
 h1 : ¬ st < 0
 h2 : ¬ 9 < st
 h3 : 1 ≤ lo ∧ lo ≤ 65535
 h4 : 1 ≤ po ∧ po ≤ 65535
 h5 : dn ≤ 256
 h6 : ¬ wnd < 0
 h7 : ¬ 65535 < wnd
 h8 : ck = true
 h9 : tm ≤ 1099511627776
 i1 : ¬ rto < 1
 i2 : ¬ 64 < rto
 i3 : ¬ tr < 0
 i4 : ¬ 12 < tr
 i5 : ¬ er < 0
 i6 : ¬ 1000 < er
 i7 : se = true → en = true
end Go.Proofs.Tp
namespace Go.Proofs.Ythenepdbgeafkaa
open Go.Proofs.Wi Go.RowKit Go.Proofs Go.Proofs.Tp
theorem rport_any (n : Int) (w : World) : Calls Try.prog 49 #[.int .i64 n] w fun e w' => e = .returned (.bool (decide (1 ≤ n ∧ n ≤ 65535))) ∧ New w w' := by
 have hv := Mem.nil w
 by_cases h1 : 1 ≤ n
 · by_cases h2 : n ≤ 65535
   · rw [decide_eq_true (And.intro h1 h2)]
     go_enter Try.func49, Try.ntmps49
     go_wp2
     go_ret
     exact ⟨rfl, hv.below⟩
   · rw [decide_eq_false (fun h => h2 h.2)]
     go_enter Try.func49, Try.ntmps49
     go_wp2
     go_ret
     exact ⟨rfl, hv.below⟩
 · rw [decide_eq_false (fun h => h1 h.1)]
   go_enter Try.func49, Try.ntmps49
   go_wp2
   go_ret
   exact ⟨rfl, hv.below⟩
theorem rport_ok {n : Int} (h : 1 ≤ n ∧ n ≤ 65535) (w : World) : Calls Try.prog 49 #[.int .i64 n] w fun e w' => e = .returned (.bool true) ∧ New w w' := by
 have := rport_any n w
 rwa [decide_eq_true h] at this
theorem rport_no {n : Int} (h : ¬ (1 ≤ n ∧ n ≤ 65535)) (w : World) : Calls Try.prog 49 #[.int .i64 n] w fun e w' => e = .returned (.bool false) ∧ New w w' := by
 have := rport_any n w
 rwa [decide_eq_false h] at this
theorem sport_any (n : Int) (w : World) : Calls Try.prog 53 #[.int .i64 n] w fun e w' => e = .returned (.bool (decide (1 ≤ n ∧ n ≤ 65535))) ∧ New w w' := by
 have hv := Mem.nil w
 by_cases h1 : 1 ≤ n
 · by_cases h2 : n ≤ 65535
   · rw [decide_eq_true (And.intro h1 h2)]
     go_enter Try.func53, Try.ntmps53
     go_wp2
     go_ret
     exact ⟨rfl, hv.below⟩
   · rw [decide_eq_false (fun h => h2 h.2)]
     go_enter Try.func53, Try.ntmps53
     go_wp2
     go_ret
     exact ⟨rfl, hv.below⟩
 · rw [decide_eq_false (fun h => h1 h.1)]
   go_enter Try.func53, Try.ntmps53
   go_wp2
   go_ret
   exact ⟨rfl, hv.below⟩
theorem sport_ok {n : Int} (h : 1 ≤ n ∧ n ≤ 65535) (w : World) : Calls Try.prog 53 #[.int .i64 n] w fun e w' => e = .returned (.bool true) ∧ New w w' := by
 have := sport_any n w
 rwa [decide_eq_true h] at this
theorem rout_v (a0 a1 a2 a3 a4 a7 a8 a9 a10 a11 a12 a13 a14 a15 a16 a17 a18 : Value) {nx una : Nat} (h1 : nx < 4294967296) (h2 : una < 4294967296) (w : World) : Calls Try.prog 66 #[.agg #[a0, a1, a2, a3, a4, .int .u32 una, .int .u32 nx, a7, a8, a9, a10, a11, a12, a13, a14, a15, a16, a17, a18]] w fun e w' => e = .returned (.int .i64 (dif nx una)) ∧ New w w' := by
 have hv := Mem.nil w
 have H1 := Lib.hid h1
 have H2 := Lib.hid h2
 clear h1 h2
 go_enter Try.func66, Try.ntmps66
 go_wp2_with (first
   | ((with_reducible refine gBx 31 1 ?_); refine nwB hv #[a0, a1, a2, a3, a4, .int .u32 una, .int .u32 nx, a7, a8, a9, a10, a11, a12, a13, a14, a15, a16, a17, a18] 31 ?_; clear hv; intro b_1 w2 hv)
   | ((with_reducible refine gLd 22 ?_); refine ldC hv b_1 6 (.int .u32 nx) Try.underlying22 ?_)
   | ((with_reducible refine gLd 22 ?_); refine ldC hv b_1 5 (.int .u32 una) Try.underlying22 ?_)
   | (go_at_call 23; (with_reducible refine (RDiff_any _ _ H1.out H2.out _).mono ?_); rintro e w1 ⟨rfl, rfl⟩))
 go_ret
 exact ⟨rfl, hv.below⟩
theorem rown_v1 (a0 a1 a2 a3 a4 a7 a8 a9 a11 a12 a13 a14 a15 a16 a17 a18 : Value) {nx una : Nat} (h1 : nx < 4294967296) (h2 : una < 4294967296) (h : 0 < dif nx una) (w : World) : Calls Try.prog 52 #[.agg #[a0, a1, a2, a3, a4, .int .u32 una, .int .u32 nx, a7, a8, a9, .bool true, a11, a12, a13, a14, a15, a16, a17, a18]] w fun e w' => e = .returned (.int .i64 (ownN nx una true)) ∧ New w w' := by
 have hv := Mem.nil w
 have q : IntKind.i64.wrap (dif nx una - 1) = dif nx una - 1 := IntWalk.i64_in _ (by have := dif_lo nx una; have := dif_hi nx una; omega)
 have e : ownN nx una true = dif nx una - 1 := by unfold ownN; rw [if_pos ⟨rfl, h⟩]
 rw [e]
 have H1 := Lib.hid h1
 have H2 := Lib.hid h2
 clear e h1 h2
 go_enter Try.func52, Try.ntmps52
 go_wp2_with (first
   | ((with_reducible refine gBx 31 1 ?_); refine nwB hv #[a0, a1, a2, a3, a4, .int .u32 una, .int .u32 nx, a7, a8, a9, .bool true, a11, a12, a13, a14, a15, a16, a17, a18] 31 ?_; clear hv; intro b_1 w2 hv)
   | ((with_reducible refine gLd 31 ?_); refine ldV hv b_1 19 Try.underlying31 infoT19 ?_)
   | ((with_reducible refine gLd 4 ?_); refine ldC hv b_1 10 (.bool true) Try.underlying4 ?_)
   | (go_at_call 66; (with_reducible refine (rout_v _ _ _ _ _ _ _ _ _ _ _ _ _ _ _ _ _ H1.out H2.out _).mono ?_); rintro e w1 ⟨rfl, hn1⟩; replace hv := hv.new hn1; clear hn1))
 go_ret
 exact ⟨rfl, hv.below⟩
theorem rown_v2 (a0 a1 a2 a3 a4 a7 a8 a9 a11 a12 a13 a14 a15 a16 a17 a18 : Value) {nx una : Nat} (h1 : nx < 4294967296) (h2 : una < 4294967296) (h : ¬ 0 < dif nx una) (w : World) : Calls Try.prog 52 #[.agg #[a0, a1, a2, a3, a4, .int .u32 una, .int .u32 nx, a7, a8, a9, .bool true, a11, a12, a13, a14, a15, a16, a17, a18]] w fun e w' => e = .returned (.int .i64 (ownN nx una true)) ∧ New w w' := by
 have hv := Mem.nil w
 have q : IntKind.i64.wrap (dif nx una - 1) = dif nx una - 1 := IntWalk.i64_in _ (by have := dif_lo nx una; have := dif_hi nx una; omega)
 have e : ownN nx una true = dif nx una := by unfold ownN; rw [if_neg (fun x => h x.2)]
 rw [e]
 have H1 := Lib.hid h1
 have H2 := Lib.hid h2
 clear e h1 h2
 go_enter Try.func52, Try.ntmps52
 go_wp2_with (first
   | ((with_reducible refine gBx 31 1 ?_); refine nwB hv #[a0, a1, a2, a3, a4, .int .u32 una, .int .u32 nx, a7, a8, a9, .bool true, a11, a12, a13, a14, a15, a16, a17, a18] 31 ?_; clear hv; intro b_1 w2 hv)
   | ((with_reducible refine gLd 31 ?_); refine ldV hv b_1 19 Try.underlying31 infoT19 ?_)
   | ((with_reducible refine gLd 4 ?_); refine ldC hv b_1 10 (.bool true) Try.underlying4 ?_)
   | (go_at_call 66; (with_reducible refine (rout_v _ _ _ _ _ _ _ _ _ _ _ _ _ _ _ _ _ H1.out H2.out _).mono ?_); rintro e w1 ⟨rfl, hn1⟩; replace hv := hv.new hn1; clear hn1))
 go_ret
 exact ⟨rfl, hv.below⟩
theorem rown_v3 (a0 a1 a2 a3 a4 a7 a8 a9 a11 a12 a13 a14 a15 a16 a17 a18 : Value) {nx una : Nat} (h1 : nx < 4294967296) (h2 : una < 4294967296) (w : World) : Calls Try.prog 52 #[.agg #[a0, a1, a2, a3, a4, .int .u32 una, .int .u32 nx, a7, a8, a9, .bool false, a11, a12, a13, a14, a15, a16, a17, a18]] w fun e w' => e = .returned (.int .i64 (ownN nx una false)) ∧ New w w' := by
 have hv := Mem.nil w
 have q : IntKind.i64.wrap (dif nx una - 1) = dif nx una - 1 := IntWalk.i64_in _ (by have := dif_lo nx una; have := dif_hi nx una; omega)
 have e : ownN nx una false = dif nx una := by unfold ownN; rw [if_neg (fun x => by cases x.1)]
 rw [e]
 have H1 := Lib.hid h1
 have H2 := Lib.hid h2
 clear e h1 h2
 go_enter Try.func52, Try.ntmps52
 go_wp2_with (first
   | ((with_reducible refine gBx 31 1 ?_); refine nwB hv #[a0, a1, a2, a3, a4, .int .u32 una, .int .u32 nx, a7, a8, a9, .bool false, a11, a12, a13, a14, a15, a16, a17, a18] 31 ?_; clear hv; intro b_1 w2 hv)
   | ((with_reducible refine gLd 31 ?_); refine ldV hv b_1 19 Try.underlying31 infoT19 ?_)
   | ((with_reducible refine gLd 4 ?_); refine ldC hv b_1 10 (.bool false) Try.underlying4 ?_)
   | (go_at_call 66; (with_reducible refine (rout_v _ _ _ _ _ _ _ _ _ _ _ _ _ _ _ _ _ H1.out H2.out _).mono ?_); rintro e w1 ⟨rfl, hn1⟩; replace hv := hv.new hn1; clear hn1))
 go_ret
 exact ⟨rfl, hv.below⟩
theorem rown_v (a0 a1 a2 a3 a4 a7 a8 a9 a11 a12 a13 a14 a15 a16 a17 a18 : Value) {nx una : Nat} (h1 : nx < 4294967296) (h2 : una < 4294967296) (se : Bool) (w : World) : Calls Try.prog 52 #[.agg #[a0, a1, a2, a3, a4, .int .u32 una, .int .u32 nx, a7, a8, a9, .bool se, a11, a12, a13, a14, a15, a16, a17, a18]] w fun e w' => e = .returned (.int .i64 (ownN nx una se)) ∧ New w w' := by
 cases se with
 | false => exact rown_v3 _ _ _ _ _ _ _ _ _ _ _ _ _ _ _ _ h1 h2 w
 | true =>
   by_cases h : 0 < dif nx una
   · exact rown_v1 _ _ _ _ _ _ _ _ _ _ _ _ _ _ _ _ h1 h2 h w
   · exact rown_v2 _ _ _ _ _ _ _ _ _ _ _ _ _ _ _ _ h1 h2 h w
theorem rbegun_v (a1 a2 a3 a4 a5 a6 a7 a8 a9 a10 a11 a12 a13 a14 a15 a16 a17 a18 : Value) (st : Nat) (w : World) : Calls Try.prog 51 #[.agg #[.int .i64 st, a1, a2, a3, a4, a5, a6, a7, a8, a9, a10, a11, a12, a13, a14, a15, a16, a17, a18]] w fun e w' => e = .returned (.bool (st == 1 || st == 2)) ∧ New w w' := by
 have hv := Mem.nil w
 by_cases h1 : st = 1
 · subst h1
   go_enter Try.func51, Try.ntmps51
   go_wp2_with (first
     | ((with_reducible refine gBx 31 1 ?_); refine nwB hv #[.int .i64 (1 : Nat), a1, a2, a3, a4, a5, a6, a7, a8, a9, a10, a11, a12, a13, a14, a15, a16, a17, a18] 31 ?_; clear hv; intro b_1 w2 hv)
     | ((with_reducible refine gLd 3 ?_); refine ldC hv b_1 0 (.int .i64 (1 : Nat)) Try.underlying3 ?_))
   go_ret
   exact ⟨rfl, hv.below⟩
 · by_cases h2 : st = 2
   · subst h2
     go_enter Try.func51, Try.ntmps51
     go_wp2_with (first
       | ((with_reducible refine gBx 31 1 ?_); refine nwB hv #[.int .i64 (2 : Nat), a1, a2, a3, a4, a5, a6, a7, a8, a9, a10, a11, a12, a13, a14, a15, a16, a17, a18] 31 ?_; clear hv; intro b_1 w2 hv)
       | ((with_reducible refine gLd 3 ?_); refine ldC hv b_1 0 (.int .i64 (2 : Nat)) Try.underlying3 ?_))
     go_ret
     exact ⟨rfl, hv.below⟩
   · have e : (st == 1 || st == 2) = false := by simp [h1, h2]
     rw [e]
     have y1 : ((st : Int) == 1) = false := by rw [beq_eq_false_iff_ne]; omega
     have y2 : ((st : Int) == 2) = false := by rw [beq_eq_false_iff_ne]; omega
     clear e h1 h2
     go_enter Try.func51, Try.ntmps51
     go_wp2_with (first
       | ((with_reducible refine gBx 31 1 ?_); refine nwB hv #[.int .i64 st, a1, a2, a3, a4, a5, a6, a7, a8, a9, a10, a11, a12, a13, a14, a15, a16, a17, a18] 31 ?_; clear hv; intro b_1 w2 hv)
       | ((with_reducible refine gLd 3 ?_); refine ldC hv b_1 0 (.int .i64 st) Try.underlying3 ?_))
     go_ret
     exact ⟨rfl, hv.below⟩
theorem RSCheck_ok {w0 w : World} {L : List (Nat × Array Value)} {R : List (Nat × Value × List Value)} (hv : Mem w0 w L R) {g : G} {sa : Option Addr} {sn sk : Nat} (hd : (1, Value.slice sa sn sk, cellsB g.data) ∈ R) (hc : chkG g = true) : Calls Try.prog 24 #[.agg #[.int .i64 (g.src : Nat), .int .i64 (g.dst : Nat), .int .u32 (g.seq : Nat), .int .u32 (g.ack : Nat), .int .i64 (g.fl : Nat), .int .i64 (g.wnd : Nat), .slice sa sn sk]] w fun e w' => e = .returned (.bool true) ∧ New w w' := by
 have h := chkG_facts hc
 have hsn := len_rd1 (hv.rd hd)
 have H1 : Hid (1 ≤ (g.src : Int) ∧ (g.src : Int) ≤ 65535) := Lib.hid (by omega)
 have H2 : Hid (1 ≤ (g.dst : Int) ∧ (g.dst : Int) ≤ 65535) := Lib.hid (by omega)
 have y1 : (0 : Int) ≤ (g.fl : Int) := by omega
 have y2 : (g.fl : Int) ≤ 31 := by omega
 have y3 : (0 : Int) ≤ (g.wnd : Int) := by omega
 have y4 : (g.wnd : Int) ≤ 65535 := by omega
 have y5 : (sn : Int) ≤ 64 := by omega
 have y6 : sn ≤ 64 := by omega
 clear hv
 have hv := Mem.nil w
 clear h hsn hd hc
 go_enter Try.func24, Try.ntmps24
 go_wp2_with (first
   | ((with_reducible refine gBx 42 1 ?_); refine nwB hv #[.int .i64 (g.src : Nat), .int .i64 (g.dst : Nat), .int .u32 (g.seq : Nat), .int .u32 (g.ack : Nat), .int .i64 (g.fl : Nat), .int .i64 (g.wnd : Nat), .slice sa sn sk] 42 ?_; clear hv; intro b_1 w2 hv)
   | ((with_reducible refine gLd 3 ?_); refine ldC hv b_1 0 (.int .i64 (g.src : Nat)) Try.underlying3 ?_)
   | ((with_reducible refine gLd 3 ?_); refine ldC hv b_1 1 (.int .i64 (g.dst : Nat)) Try.underlying3 ?_)
   | ((with_reducible refine gLd 3 ?_); refine ldC hv b_1 4 (.int .i64 (g.fl : Nat)) Try.underlying3 ?_)
   | ((with_reducible refine gLd 3 ?_); refine ldC hv b_1 5 (.int .i64 (g.wnd : Nat)) Try.underlying3 ?_)
   | ((with_reducible refine gLd 23 ?_); refine ldC hv b_1 6 (.slice sa sn sk) Try.underlying23 ?_)
   | (go_at_call 53; (with_reducible refine (sport_ok H1.out _).mono ?_); rintro e w1 ⟨rfl, hn1⟩; replace hv := hv.new hn1; clear hn1)
   | (go_at_call 53; (with_reducible refine (sport_ok H2.out _).mono ?_); rintro e w1 ⟨rfl, hn1⟩; replace hv := hv.new hn1; clear hn1))
 go_ret
 exact ⟨rfl, hv.below⟩
theorem RFew_any {w0 w : World} {L : List (Nat × Array Value)} {R : List (Nat × Value × List Value)} (hv : Mem w0 w L R) {st lo po wnd rto tr er : Int} {ip iss una nx inx tm : Nat} {en se ed : Bool} {da ba pa : Option Addr} {dn dk bn bk pn pk : Nat} {s : St} {l : List PcV} (hs : InS R inx (.slice ba bn bk) (.slice pa pn pk) s l) : Calls Try.prog 21 #[.agg #[.int .i64 st, .int .i64 lo, .int .u32 ip, .int .i64 po, .int .u32 iss, .int .u32 una, .int .u32 nx, .slice da dn dk, .int .i64 wnd, .bool en, .bool se, .int .u32 inx, .slice ba bn bk, .slice pa pn pk, .bool ed, .int .u64 tm, .int .i64 rto, .int .i64 tr, .int .i64 er]] w fun e w' => e = .returned (.bool (decide (dn ≤ 600) && fewB s.bytes l)) ∧ New w w' := by
 have HF : Hid (∀ w1, New w w1 → Calls Try.prog 48 #[.agg #[.int .u32 inx, .slice ba bn bk, .slice pa pn pk]] w1 fun e w' => e = .returned (.bool (fewB s.bytes l)) ∧ New w1 w') := Lib.hid (fun w1 hn => Few_S (hv.new hn) hs)
 clear hv
 have hv := Mem.nil w
 clear hs
 by_cases h : dn ≤ 600
 · rw [decide_eq_true h, Bool.true_and]
   have y1 : (dn : Int) ≤ 600 := by omega
   go_enter Try.func21, Try.ntmps21
   go_wp2_with (first
     | ((with_reducible refine gBx 31 1 ?_); refine nwB hv #[.int .i64 st, .int .i64 lo, .int .u32 ip, .int .i64 po, .int .u32 iss, .int .u32 una, .int .u32 nx, .slice da dn dk, .int .i64 wnd, .bool en, .bool se, .int .u32 inx, .slice ba bn bk, .slice pa pn pk, .bool ed, .int .u64 tm, .int .i64 rto, .int .i64 tr, .int .i64 er] 31 ?_; clear hv; intro b_1 w2 hv)
     | ((with_reducible refine gLd 23 ?_); refine ldC hv b_1 7 (.slice da dn dk) Try.underlying23 ?_)
     | ((with_reducible refine at_load (T := 27) ?_); refine wl_ldp rfl b_1 11 rfl _ hv.vars.ro 3 _ Try.underlying27 rfl infoStr (by decide) (by show 11 + 3 ≤ 19; decide) (#[.int .u32 inx, .slice ba bn bk, .slice pa pn pk]) (ext19s _ _ _ _ _ _ _ _ _ _ _ _ _ _ _ _ _ _ _) ?_)
     | (go_at_call 48; (with_reducible refine (HF.out _ hv.below).mono ?_); rintro e w1 ⟨rfl, hn1⟩; replace hv := hv.new hn1; clear hn1))
   go_ret
   exact ⟨rfl, hv.below⟩
 · rw [decide_eq_false h, Bool.false_and]
   have y1 : ¬ (dn : Int) ≤ 600 := by omega
   go_enter Try.func21, Try.ntmps21
   go_wp2_with (first
     | ((with_reducible refine gBx 31 1 ?_); refine nwB hv #[.int .i64 st, .int .i64 lo, .int .u32 ip, .int .i64 po, .int .u32 iss, .int .u32 una, .int .u32 nx, .slice da dn dk, .int .i64 wnd, .bool en, .bool se, .int .u32 inx, .slice ba bn bk, .slice pa pn pk, .bool ed, .int .u64 tm, .int .i64 rto, .int .i64 tr, .int .i64 er] 31 ?_; clear hv; intro b_1 w2 hv)
     | ((with_reducible refine gLd 23 ?_); refine ldC hv b_1 7 (.slice da dn dk) Try.underlying23 ?_))
   go_ret
   exact ⟨rfl, hv.below⟩
end Go.Proofs.Ythenepdbgeafkaa
end
