import Derived.Test.YthenepdbgeafkaaTc5
import Derived.Test.YthenepdbgeafkaaGAS
set_option linter.unusedSimpArgs false
set_option linter.unusedVariables false
set_option maxRecDepth 100000
set_option maxHeartbeats 16000000
section
/-
 Connections (layer 26): a timer; an end.
-/
namespace Go.Proofs.Tp
open Go Go.RowKit Go.Proofs.Wi
theorem CM.perm {w0 w : World} {bc nw : Nat} {L L' : LV} {R : LR} {c : C} (h : CM w0 w bc L R nw c) (hp : L.Perm L') : CM w0 w bc L' R nw c := by
 obtain ⟨da, dn, dk, ba, bn, bk, pa, pn, pk, l, ov, gs, O, hv, hI, hO⟩ := h
 exact ⟨da, dn, dk, ba, bn, bk, pa, pn, pk, l, ov, gs, O, hv.perm ((List.Perm.append_left O hp).cons _), hI, hO⟩
theorem CMP.perm {w0 : World} {bc nw : Nat} {L L' : LV} {R : LR} {v : Value} {c : C} {e : Ending} {w' : World} (h : CMP w0 bc L R nw v c e w') (hp : L.Perm L') : CMP w0 bc L' R nw v c e w' := by
 obtain ⟨R', rfl, h⟩ := h
 exact ⟨R', rfl, h.perm hp⟩
theorem chkT_own {t : T} (h : chkT t = true) (h0 : t.st ≠ 0) (h1 : t.st ≠ 1) (h2 : t.st ≠ 2) : 0 ≤ own t ∧ own t ≤ t.data.length ∧ 0 ≤ flight t := by
 obtain ⟨_, _, _, _, _, _, _, _, _, _, _, _, _, _, hn⟩ := chkT_facts h
 unfold numbers at hn
 rw [if_neg h0, if_neg (fun h => h.elim h1 h2)] at hn
 have := of_decide_eq_true hn
 refine ⟨this.1, this.2, ?_⟩
 have h3 := this.1
 unfold own at h3
 split at h3 <;> omega
end Go.Proofs.Tp
namespace Go.Proofs.Tp
open Go Go.RowKit Go.Proofs.Wi
inductive TiC (nw : Nat) (t : T) (out : List G) : C → Prop
 | z (h : t.tm = 0) : TiC nw t out ⟨t, out⟩
 | l (h0 : t.tm ≠ 0) (h : nw < t.tm) : TiC nw t out ⟨t, out⟩
 | n (h0 : t.tm ≠ 0) (h : ¬ nw < t.tm) (h9 : t.st = 9) : TiC nw t out (over t.er ⟨t, out⟩)
 | o (h0 : t.tm ≠ 0) (h : ¬ nw < t.tm) (h9 : t.st ≠ 9) (hr : t.tr = 12) : TiC nw t out (over 260 ⟨t, out⟩)
theorem TiC.eq {nw : Nat} {t : T} {out : List G} {c : C} (h : TiC nw t out c) : tick nw ⟨t, out⟩ = c := by
 unfold tick
 rcases h with ⟨h⟩ | ⟨h0, h⟩ | ⟨h0, h, h9⟩ | ⟨h0, h, h9, hr⟩
 · rw [if_pos (.inl h)]
 · rw [if_pos (.inr h)]
 · rw [if_neg (fun x => x.elim h0 h), if_pos h9]
 · rw [if_neg (fun x => x.elim h0 h), if_neg h9, if_pos hr]
end Go.Proofs.Tp
namespace Go.Proofs.Ythenepdbgeafkaa
open Go.Proofs.Wi Go.RowKit Go.Proofs Go.Proofs.Tp
variable {w0 w : World} {L : LV} {R : LR} {bc nw : Nat} {t : T} {out : List G}
theorem again_C2 (hc : CM w0 w bc L R nw ⟨t, out⟩) (hl : out.length ≤ 1000) (h4 : t.st ≠ 1 → t.st ≠ 2 → own t ≤ t.data.length) (hd : t.data.length ≤ 256) : Calls Try.prog 47 #[.pointer (some ⟨bc, 0, none⟩)] w (CMP w0 bc L R nw (.tuple #[]) (again ⟨t, out⟩)) := by
 by_cases h1 : t.st = 1
 · exact again_s1 hc hl h1
 · by_cases h2 : t.st = 2
   · exact again_s2 hc hl h2
   · exact again_C hc hl (h4 h1 h2) hd
theorem flush_C (hc : CM w0 w bc L R nw ⟨t, out⟩) (h0 : sends t = true → 0 ≤ flight t) (h1 : sends t = true → own t ≤ t.data.length) (h2 : t.data.length ≤ 256) (h3 : t.wnd ≤ 65535) (h4 : t.rto ≤ 64) (hl : out.length ≤ 400) : Calls Try.prog 28 #[.pointer (some ⟨bc, 0, none⟩)] w (CMP w0 bc L R nw (.tuple #[]) (flush nw ⟨t, out⟩)) := by
 rcases Bool.eq_false_or_eq_true (sends t) with hs | hs
 · exact flush_loop hc hs (h0 hs) (h1 hs) h2 h3 h4 hl
 · exact flush_no hc hs
theorem close_3 (hc : CM w0 w bc L R nw ⟨t, out⟩) (hck : chkT t = true) (hl : out.length ≤ 400) (hs : t.st = 3) : Calls Try.prog 29 #[.pointer (some ⟨bc, 0, none⟩)] w (CMP w0 bc L R nw (.tuple #[]) (close nw ⟨t, out⟩)) := by
 obtain ⟨da, dn, dk, ba, bn, bk, pa, pn, pk, l, ov, gs, O, hv, HI, HO⟩ := hc.get
 clear hc
 have e : close nw ⟨t, out⟩ = flush nw ⟨{ t with st := 4, en := true }, out⟩ := by unfold close; rw [if_pos hs]
 rw [e]
 have hf := chkT_facts hck
 have HQ := Lib.hid (chkT_own hck (by omega) (by omega) (by omega))
 have HD := Lib.hid hf.2.2.2.2.2.1
 have HW := Lib.hid hf.2.2.2.2.2.2.1
 have HR := Lib.hid hf.2.2.2.2.2.2.2.2.2.2.1
 have HL := Lib.hid hl
 have y3 : ((t.st : Int) == 3) = true := by rw [hs]; rfl
 clear hs e hck hl hf
 go_enter Try.func29, Try.ntmps29
 go_wp2_with (first
   | ((with_reducible refine gLd 3 ?_); refine ldC hv bc 0 (.int .i64 t.st) Try.underlying3 ?_)
   | ((with_reducible refine gSt 3 ?_); refine stC hv bc 0 (.int .i64 4) ?_; clear hv; intro w2 hv)
   | ((with_reducible refine gSt 4 ?_); refine stC hv bc 9 (.bool true) ?_; clear hv; intro w2 hv)
   | (go_at_call 28; (refine (flush_C (CM.of (A := []) (c := ⟨{ t with st := 4, en := true }, out⟩) hv ⟨HI.out.d, HI.out.s, HI.out.ck, ⟨HI.out.u.una, HI.out.u.nx, HI.out.u.iss, HI.out.u.inn, HI.out.u.ip⟩⟩ HO.out) (fun _ => HQ.out.2.2) (fun _ => HQ.out.2.1) HD.out HW.out HR.out HL.out).mono ?_); rintro e w1 ⟨R1, rfl, hc1⟩; obtain ⟨da1, dn1, dk1, ba1, bn1, bk1, pa1, pn1, pk1, l1, ov1, gs1, O1, hv1, hI1, hO1⟩ := CM.back (A := []) hc1; clear hv hc1; have hv : Mem w0 _ ([] ++ (bc, #[.int .i64 ((flush nw ⟨{ t with st := 4, en := true }, out⟩).t.st : Nat), .int .i64 ((flush nw ⟨{ t with st := 4, en := true }, out⟩).t.lo : Nat), .int .u32 ((flush nw ⟨{ t with st := 4, en := true }, out⟩).t.ip : Nat), .int .i64 ((flush nw ⟨{ t with st := 4, en := true }, out⟩).t.po : Nat), .int .u32 ((flush nw ⟨{ t with st := 4, en := true }, out⟩).t.iss : Nat), .int .u32 ((flush nw ⟨{ t with st := 4, en := true }, out⟩).t.una : Nat), .int .u32 ((flush nw ⟨{ t with st := 4, en := true }, out⟩).t.nx : Nat), .slice da1 dn1 dk1, .int .i64 ((flush nw ⟨{ t with st := 4, en := true }, out⟩).t.wnd : Nat), .bool (flush nw ⟨{ t with st := 4, en := true }, out⟩).t.en, .bool (flush nw ⟨{ t with st := 4, en := true }, out⟩).t.se, .int .u32 ((flush nw ⟨{ t with st := 4, en := true }, out⟩).t.inn.next : Nat), .slice ba1 bn1 bk1, .slice pa1 pn1 pk1, .bool (flush nw ⟨{ t with st := 4, en := true }, out⟩).t.ed, .int .u64 ((flush nw ⟨{ t with st := 4, en := true }, out⟩).t.tm : Nat), .int .i64 ((flush nw ⟨{ t with st := 4, en := true }, out⟩).t.rto : Nat), .int .i64 ((flush nw ⟨{ t with st := 4, en := true }, out⟩).t.tr : Nat), .int .i64 ((flush nw ⟨{ t with st := 4, en := true }, out⟩).t.er : Nat), .int .u64 nw, ov1]) :: (O1 ++ L)) _ := hv1; clear hv1; have HI1 := Lib.hid hI1; have HO1 := Lib.hid hO1; clear hI1 hO1; simp only [List.cons_append, List.nil_append] at hv))
 go_end0
 exact ⟨R1, rfl, CM.of (A := []) (O := O1) (c := flush nw ⟨{ t with st := 4, en := true }, out⟩) hv HI1.out HO1.out⟩
theorem close_6 (hc : CM w0 w bc L R nw ⟨t, out⟩) (hck : chkT t = true) (hl : out.length ≤ 400) (hs : t.st = 6) : Calls Try.prog 29 #[.pointer (some ⟨bc, 0, none⟩)] w (CMP w0 bc L R nw (.tuple #[]) (close nw ⟨t, out⟩)) := by
 obtain ⟨da, dn, dk, ba, bn, bk, pa, pn, pk, l, ov, gs, O, hv, HI, HO⟩ := hc.get
 clear hc
 have e : close nw ⟨t, out⟩ = flush nw ⟨{ t with st := 8, en := true }, out⟩ := by unfold close; rw [if_neg (show ¬ t.st = 3 by omega), if_pos hs]
 rw [e]
 have hf := chkT_facts hck
 have HQ := Lib.hid (chkT_own hck (by omega) (by omega) (by omega))
 have HD := Lib.hid hf.2.2.2.2.2.1
 have HW := Lib.hid hf.2.2.2.2.2.2.1
 have HR := Lib.hid hf.2.2.2.2.2.2.2.2.2.2.1
 have HL := Lib.hid hl
 have y3 : ((t.st : Int) == 3) = false := by rw [hs]; rfl
 have y6 : ((t.st : Int) == 6) = true := by rw [hs]; rfl
 clear hs e hck hl hf
 go_enter Try.func29, Try.ntmps29
 go_wp2_with (first
   | ((with_reducible refine gLd 3 ?_); refine ldC hv bc 0 (.int .i64 t.st) Try.underlying3 ?_)
   | ((with_reducible refine gSt 3 ?_); refine stC hv bc 0 (.int .i64 8) ?_; clear hv; intro w2 hv)
   | ((with_reducible refine gSt 4 ?_); refine stC hv bc 9 (.bool true) ?_; clear hv; intro w2 hv)
   | (go_at_call 28; (refine (flush_C (CM.of (A := []) (c := ⟨{ t with st := 8, en := true }, out⟩) hv ⟨HI.out.d, HI.out.s, HI.out.ck, ⟨HI.out.u.una, HI.out.u.nx, HI.out.u.iss, HI.out.u.inn, HI.out.u.ip⟩⟩ HO.out) (fun _ => HQ.out.2.2) (fun _ => HQ.out.2.1) HD.out HW.out HR.out HL.out).mono ?_); rintro e w1 ⟨R1, rfl, hc1⟩; obtain ⟨da1, dn1, dk1, ba1, bn1, bk1, pa1, pn1, pk1, l1, ov1, gs1, O1, hv1, hI1, hO1⟩ := CM.back (A := []) hc1; clear hv hc1; have hv : Mem w0 _ ([] ++ (bc, #[.int .i64 ((flush nw ⟨{ t with st := 8, en := true }, out⟩).t.st : Nat), .int .i64 ((flush nw ⟨{ t with st := 8, en := true }, out⟩).t.lo : Nat), .int .u32 ((flush nw ⟨{ t with st := 8, en := true }, out⟩).t.ip : Nat), .int .i64 ((flush nw ⟨{ t with st := 8, en := true }, out⟩).t.po : Nat), .int .u32 ((flush nw ⟨{ t with st := 8, en := true }, out⟩).t.iss : Nat), .int .u32 ((flush nw ⟨{ t with st := 8, en := true }, out⟩).t.una : Nat), .int .u32 ((flush nw ⟨{ t with st := 8, en := true }, out⟩).t.nx : Nat), .slice da1 dn1 dk1, .int .i64 ((flush nw ⟨{ t with st := 8, en := true }, out⟩).t.wnd : Nat), .bool (flush nw ⟨{ t with st := 8, en := true }, out⟩).t.en, .bool (flush nw ⟨{ t with st := 8, en := true }, out⟩).t.se, .int .u32 ((flush nw ⟨{ t with st := 8, en := true }, out⟩).t.inn.next : Nat), .slice ba1 bn1 bk1, .slice pa1 pn1 pk1, .bool (flush nw ⟨{ t with st := 8, en := true }, out⟩).t.ed, .int .u64 ((flush nw ⟨{ t with st := 8, en := true }, out⟩).t.tm : Nat), .int .i64 ((flush nw ⟨{ t with st := 8, en := true }, out⟩).t.rto : Nat), .int .i64 ((flush nw ⟨{ t with st := 8, en := true }, out⟩).t.tr : Nat), .int .i64 ((flush nw ⟨{ t with st := 8, en := true }, out⟩).t.er : Nat), .int .u64 nw, ov1]) :: (O1 ++ L)) _ := hv1; clear hv1; have HI1 := Lib.hid hI1; have HO1 := Lib.hid hO1; clear hI1 hO1; simp only [List.cons_append, List.nil_append] at hv))
 go_end0
 exact ⟨R1, rfl, CM.of (A := []) (O := O1) (c := flush nw ⟨{ t with st := 8, en := true }, out⟩) hv HI1.out HO1.out⟩
theorem close_1 (hc : CM w0 w bc L R nw ⟨t, out⟩) (hck : chkT t = true) (hl : out.length ≤ 400) (hs : t.st = 1) : Calls Try.prog 29 #[.pointer (some ⟨bc, 0, none⟩)] w (CMP w0 bc L R nw (.tuple #[]) (close nw ⟨t, out⟩)) := by
 obtain ⟨da, dn, dk, ba, bn, bk, pa, pn, pk, l, ov, gs, O, hv, HI, HO⟩ := hc.get
 clear hc
 have e : close nw ⟨t, out⟩ = over t.er ⟨t, out⟩ := by unfold close; rw [if_neg (show ¬ t.st = 3 by omega), if_neg (show ¬ t.st = 6 by omega), if_pos (by exact .inl hs)]
 rw [e]
 have y3 : ((t.st : Int) == 3) = false := by rw [hs]; rfl
 have y6 : ((t.st : Int) == 6) = false := by rw [hs]; rfl
 have y1 : ((t.st : Int) == 1) = true := by rw [hs]; rfl
 clear hs e hck hl
 go_enter Try.func29, Try.ntmps29
 go_wp2_with (first
   | ((with_reducible refine gLd 3 ?_); refine ldC hv bc 0 (.int .i64 t.st) Try.underlying3 ?_)
   | ((with_reducible refine gLd 29 ?_); refine ldC hv bc 18 (.int .i64 t.er) Try.underlying29 ?_)
   | (go_at_call 30; (refine (over_C (CM.of (A := []) (c := ⟨t, out⟩) hv HI.out HO.out)).mono ?_); rintro e w1 ⟨R1, rfl, hc1⟩; obtain ⟨da1, dn1, dk1, ba1, bn1, bk1, pa1, pn1, pk1, l1, ov1, gs1, O1, hv1, hI1, hO1⟩ := CM.back (A := []) hc1; clear hv hc1; have hv : Mem w0 _ ([] ++ (bc, #[.int .i64 0, .int .i64 t.lo, .int .u32 t.ip, .int .i64 t.po, .int .u32 t.iss, .int .u32 t.una, .int .u32 t.nx, .slice da1 dn1 dk1, .int .i64 t.wnd, .bool t.en, .bool t.se, .int .u32 t.inn.next, .slice ba1 bn1 bk1, .slice pa1 pn1 pk1, .bool t.ed, .int .u64 0, .int .i64 t.rto, .int .i64 t.tr, .int .i64 t.er, .int .u64 nw, ov1]) :: (O1 ++ L)) _ := hv1; clear hv1; have HI1 := Lib.hid hI1; have HO1 := Lib.hid hO1; clear hI1 hO1; simp only [List.cons_append, List.nil_append] at hv))
 refine bodyPost_ret (results_none rfl _ _ _) rfl ?_
 exact ⟨R1, rfl, CM.of (A := []) (O := O1) (c := over t.er ⟨t, out⟩) hv HI1.out HO1.out⟩
theorem close_2 (hc : CM w0 w bc L R nw ⟨t, out⟩) (hck : chkT t = true) (hl : out.length ≤ 400) (hs : t.st = 2) : Calls Try.prog 29 #[.pointer (some ⟨bc, 0, none⟩)] w (CMP w0 bc L R nw (.tuple #[]) (close nw ⟨t, out⟩)) := by
 obtain ⟨da, dn, dk, ba, bn, bk, pa, pn, pk, l, ov, gs, O, hv, HI, HO⟩ := hc.get
 clear hc
 have e : close nw ⟨t, out⟩ = over t.er ⟨t, out⟩ := by unfold close; rw [if_neg (show ¬ t.st = 3 by omega), if_neg (show ¬ t.st = 6 by omega), if_pos (by exact .inr hs)]
 rw [e]
 have y3 : ((t.st : Int) == 3) = false := by rw [hs]; rfl
 have y6 : ((t.st : Int) == 6) = false := by rw [hs]; rfl
 have y1 : ((t.st : Int) == 1) = false := by rw [hs]; rfl
 have y2 : ((t.st : Int) == 2) = true := by rw [hs]; rfl
 clear hs e hck hl
 go_enter Try.func29, Try.ntmps29
 go_wp2_with (first
   | ((with_reducible refine gLd 3 ?_); refine ldC hv bc 0 (.int .i64 t.st) Try.underlying3 ?_)
   | ((with_reducible refine gLd 29 ?_); refine ldC hv bc 18 (.int .i64 t.er) Try.underlying29 ?_)
   | (go_at_call 30; (refine (over_C (CM.of (A := []) (c := ⟨t, out⟩) hv HI.out HO.out)).mono ?_); rintro e w1 ⟨R1, rfl, hc1⟩; obtain ⟨da1, dn1, dk1, ba1, bn1, bk1, pa1, pn1, pk1, l1, ov1, gs1, O1, hv1, hI1, hO1⟩ := CM.back (A := []) hc1; clear hv hc1; have hv : Mem w0 _ ([] ++ (bc, #[.int .i64 0, .int .i64 t.lo, .int .u32 t.ip, .int .i64 t.po, .int .u32 t.iss, .int .u32 t.una, .int .u32 t.nx, .slice da1 dn1 dk1, .int .i64 t.wnd, .bool t.en, .bool t.se, .int .u32 t.inn.next, .slice ba1 bn1 bk1, .slice pa1 pn1 pk1, .bool t.ed, .int .u64 0, .int .i64 t.rto, .int .i64 t.tr, .int .i64 t.er, .int .u64 nw, ov1]) :: (O1 ++ L)) _ := hv1; clear hv1; have HI1 := Lib.hid hI1; have HO1 := Lib.hid hO1; clear hI1 hO1; simp only [List.cons_append, List.nil_append] at hv))
 refine bodyPost_ret (results_none rfl _ _ _) rfl ?_
 exact ⟨R1, rfl, CM.of (A := []) (O := O1) (c := over t.er ⟨t, out⟩) hv HI1.out HO1.out⟩
theorem close_no (hc : CM w0 w bc L R nw ⟨t, out⟩) (hck : chkT t = true) (hl : out.length ≤ 400) (h3 : t.st ≠ 3) (h6 : t.st ≠ 6) (h1 : t.st ≠ 1) (h2 : t.st ≠ 2) : Calls Try.prog 29 #[.pointer (some ⟨bc, 0, none⟩)] w (CMP w0 bc L R nw (.tuple #[]) (close nw ⟨t, out⟩)) := by
 obtain ⟨da, dn, dk, ba, bn, bk, pa, pn, pk, l, ov, gs, O, hv, HI, HO⟩ := hc.get
 clear hc
 have e : close nw ⟨t, out⟩ = ⟨t, out⟩ := by unfold close; rw [if_neg h3, if_neg h6, if_neg (fun h => h.elim h1 h2)]
 rw [e]
 have y3 : ((t.st : Int) == 3) = false := by rw [beq_eq_false_iff_ne]; omega
 have y6 : ((t.st : Int) == 6) = false := by rw [beq_eq_false_iff_ne]; omega
 have y1 : ((t.st : Int) == 1) = false := by rw [beq_eq_false_iff_ne]; omega
 have y2 : ((t.st : Int) == 2) = false := by rw [beq_eq_false_iff_ne]; omega
 clear h1 h2 h3 h6 e hck hl
 go_enter Try.func29, Try.ntmps29
 go_wp2_with (first
   | ((with_reducible refine gLd 3 ?_); refine ldC hv bc 0 (.int .i64 t.st) Try.underlying3 ?_))
 refine bodyPost_ret (results_none rfl _ _ _) rfl ?_
 exact CMP.mk0 (CM.of (A := []) (O := O) (c := ⟨t, out⟩) hv HI.out HO.out)
theorem close_C (hc : CM w0 w bc L R nw ⟨t, out⟩) (hck : chkT t = true) (hl : out.length ≤ 400) : Calls Try.prog 29 #[.pointer (some ⟨bc, 0, none⟩)] w (CMP w0 bc L R nw (.tuple #[]) (close nw ⟨t, out⟩)) := by
 by_cases h3 : t.st = 3
 · exact close_3 hc hck hl h3
 · by_cases h6 : t.st = 6
   · exact close_6 hc hck hl h6
   · by_cases h1 : t.st = 1
     · exact close_1 hc hck hl h1
     · by_cases h2 : t.st = 2
       · exact close_2 hc hck hl h2
       · exact close_no hc hck hl h3 h6 h1 h2
theorem tick_k {bc nw bn9 : Nat} (hc : CM w0 w bc ((bn9, #[.int .u64 nw]) :: L) R nw ⟨t, out⟩) (hck : chkT t = true) (hl : out.length ≤ 400) {c : C} (hk : TiC nw t out c) : Calls Try.prog 45 #[.pointer (some ⟨bc, 0, none⟩), .pointer (some ⟨bn9, 0, none⟩)] w (CMP w0 bc ((bn9, #[.int .u64 nw]) :: L) R nw (.tuple #[]) (tick nw ⟨t, out⟩)) := by
 obtain ⟨da, dn, dk, ba, bn, bk, pa, pn, pk, l, ov, gs, O, hv0, hI, hO⟩ := hc
 have hv1 : Mem w0 w ((bn9, #[.int .u64 nw]) :: (bc, #[.int .i64 t.st, .int .i64 t.lo, .int .u32 t.ip, .int .i64 t.po, .int .u32 t.iss, .int .u32 t.una, .int .u32 t.nx, .slice da dn dk, .int .i64 t.wnd, .bool t.en, .bool t.se, .int .u32 t.inn.next, .slice ba bn bk, .slice pa pn pk, .bool t.ed, .int .u64 t.tm, .int .i64 t.rto, .int .i64 t.tr, .int .i64 t.er, .int .u64 nw, ov]) :: (O ++ L)) R := hv0.perm (List.perm_middle (l₁ := (bc, _) :: O))
 have hv := hv1
 have HI := Lib.hid hI
 have HO := Lib.hid hO
 clear hv0 hv1 hI hO
 rw [hk.eq]
 clear hck hl
 rcases hk with ⟨z0⟩ | ⟨h0, hlt⟩ | ⟨h0, hn, h9⟩ | ⟨h0, hn, k9, hr⟩
 all_goals try (have y1 : ((t.tm : Int) == 0) = true := (by rw [z0]; rfl); clear z0)
 all_goals try (have y1 : ((t.tm : Int) == 0) = false := (by rw [beq_eq_false_iff_ne]; omega); clear h0)
 all_goals try (have y2 : (nw : Int) < (t.tm : Int) := (by omega))
 all_goals try (have y2 : ¬ ((nw : Int) < (t.tm : Int)) := (by omega); clear hn)
 all_goals try (have y3 : ((t.st : Int) == 9) = true := (by rw [h9]; rfl); clear h9)
 all_goals try (have y3 : ((t.st : Int) == 9) = false := (by rw [beq_eq_false_iff_ne]; omega); clear k9)
 all_goals try (have y4 : ((t.tr : Int) == 12) = true := (by rw [hr]; rfl); clear hr; have M12 := Lib.hid True.intro)
 all_goals
   go_enter Try.func45, Try.ntmps45
   go_wp2
   refine Any.wr2 16 [(4, [1001], none), (11, [1001], none), (12, [1000], none)] [] hv ?_
   simp only [Any.someVals]
   iterate 16 apply Exists.intro
   repeat ((first
    | refine Any.E_off rfl ?_
    | ((with_reducible refine Any.gE 28 ?_); refine Any.eC 1001 (.int .u64 t.tm) Try.underlying28 ?_)
    | ((with_reducible refine Any.gE 28 ?_); refine Any.eC 1000 (.int .u64 nw) Try.underlying28 ?_)
    | refine Any.eV ?_); simp only [Act.put, sia, scs, scz])
   try any_goals exact undef
   refine Any.fin2 hv [1000, 1001] ?_; clear hv; intro w9 hv
   go_wp2_with (first
     | ((with_reducible refine gLd 3 ?_); refine ldC hv bc 0 (.int .i64 t.st) Try.underlying3 ?_)
     | ((with_reducible refine gLd 29 ?_); refine ldC hv bc 18 (.int .i64 t.er) Try.underlying29 ?_)
     | ((with_reducible refine gLd 3 ?_); refine ldC hv bc 17 (.int .i64 t.tr) Try.underlying3 ?_)
     | (revert M12; intro M12; go_at_call 30; (refine (over_260 (CM.of (A := [_]) (c := ⟨t, out⟩) hv HI.out HO.out)).mono ?_); rintro e w1 ⟨R1, rfl, hc1⟩; obtain ⟨da1, dn1, dk1, ba1, bn1, bk1, pa1, pn1, pk1, l1, ov1, gs1, O1, hv1, hI1, hO1⟩ := CM.back (A := [_]) hc1; clear hv hc1; have hv : Mem w0 _ ([_] ++ (bc, #[.int .i64 0, .int .i64 t.lo, .int .u32 t.ip, .int .i64 t.po, .int .u32 t.iss, .int .u32 t.una, .int .u32 t.nx, .slice da1 dn1 dk1, .int .i64 t.wnd, .bool t.en, .bool t.se, .int .u32 t.inn.next, .slice ba1 bn1 bk1, .slice pa1 pn1 pk1, .bool t.ed, .int .u64 0, .int .i64 t.rto, .int .i64 t.tr, .int .i64 260, .int .u64 nw, ov1]) :: (O1 ++ L)) _ := hv1; clear hv1; have HI1 := Lib.hid hI1; have HO1 := Lib.hid hO1; clear hI1 hO1; simp only [List.cons_append, List.nil_append] at hv)
     | (go_at_call 30; (refine (over_C (CM.of (A := [_]) (c := ⟨t, out⟩) hv HI.out HO.out)).mono ?_); rintro e w1 ⟨R1, rfl, hc1⟩; obtain ⟨da1, dn1, dk1, ba1, bn1, bk1, pa1, pn1, pk1, l1, ov1, gs1, O1, hv1, hI1, hO1⟩ := CM.back (A := [_]) hc1; clear hv hc1; have hv : Mem w0 _ ([_] ++ (bc, #[.int .i64 0, .int .i64 t.lo, .int .u32 t.ip, .int .i64 t.po, .int .u32 t.iss, .int .u32 t.una, .int .u32 t.nx, .slice da1 dn1 dk1, .int .i64 t.wnd, .bool t.en, .bool t.se, .int .u32 t.inn.next, .slice ba1 bn1 bk1, .slice pa1 pn1 pk1, .bool t.ed, .int .u64 0, .int .i64 t.rto, .int .i64 t.tr, .int .i64 t.er, .int .u64 nw, ov1]) :: (O1 ++ L)) _ := hv1; clear hv1; have HI1 := Lib.hid hI1; have HO1 := Lib.hid hO1; clear hI1 hO1; simp only [List.cons_append, List.nil_append] at hv))
   go_end0
   first
     | exact ⟨R1, rfl, CM.of (A := [_]) (O := O1) hv HI1.out HO1.out⟩
     | exact CMP.mk0 (CM.of (A := [_]) (O := O) hv HI.out HO.out)
theorem tick_go {bc nw bn9 : Nat} (hc : CM w0 w bc ((bn9, #[.int .u64 nw]) :: L) R nw ⟨t, out⟩) (hck : chkT t = true) (hl : out.length ≤ 400) (h0 : t.tm ≠ 0) (h : ¬ nw < t.tm) (h9 : t.st ≠ 9) (hr : t.tr ≠ 12) : Calls Try.prog 45 #[.pointer (some ⟨bc, 0, none⟩), .pointer (some ⟨bn9, 0, none⟩)] w (CMP w0 bc ((bn9, #[.int .u64 nw]) :: L) R nw (.tuple #[]) (tick nw ⟨t, out⟩)) := by
 obtain ⟨da, dn, dk, ba, bn, bk, pa, pn, pk, l, ov, gs, O, hv0, hI, hO⟩ := hc
 have hv1 : Mem w0 w ((bn9, #[.int .u64 nw]) :: (bc, #[.int .i64 t.st, .int .i64 t.lo, .int .u32 t.ip, .int .i64 t.po, .int .u32 t.iss, .int .u32 t.una, .int .u32 t.nx, .slice da dn dk, .int .i64 t.wnd, .bool t.en, .bool t.se, .int .u32 t.inn.next, .slice ba bn bk, .slice pa pn pk, .bool t.ed, .int .u64 t.tm, .int .i64 t.rto, .int .i64 t.tr, .int .i64 t.er, .int .u64 nw, ov]) :: (O ++ L)) R := hv0.perm (List.perm_middle (l₁ := (bc, _) :: O))
 have hv := hv1
 have HI := Lib.hid hI
 have HO := Lib.hid hO
 clear hv0 hv1 hI hO
 have e : tick nw ⟨t, out⟩ = again ⟨{ t with tr := t.tr + 1, rto := min (2 * t.rto) 64, tm := later nw (min (2 * t.rto) 64) }, out⟩ := by unfold tick; rw [if_neg (fun x => x.elim h0 h), if_neg h9, if_neg hr]
 rw [e]
 have y1 : ((t.tm : Int) == 0) = false := by rw [beq_eq_false_iff_ne]; omega
 have y2 : ¬ ((nw : Int) < (t.tm : Int)) := by omega
 have y3 : ((t.st : Int) == 9) = false := by rw [beq_eq_false_iff_ne]; omega
 have y4 : ((t.tr : Int) == 12) = false := by rw [beq_eq_false_iff_ne]; omega
 have hf := chkT_facts hck
 obtain ⟨t1, ht1⟩ : ∃ x, t.tr + 1 = x := ⟨_, rfl⟩
 obtain ⟨r2, hr2⟩ : ∃ x, 2 * t.rto = x := ⟨_, rfl⟩
 obtain ⟨r1, hr1⟩ : ∃ x, min r2 64 = x := ⟨_, rfl⟩
 rw [hr2, hr1, ht1]
 have q1 : IntKind.i64.wrap ((t.tr : Int) + 1) = (t1 : Int) := by rw [IntWalk.i64_in _ (by omega)]; omega
 have q2 : IntKind.i64.wrap (2 * (t.rto : Int)) = (r2 : Int) := by rw [IntWalk.i64_in _ (by omega)]; omega
 have q3 : min (r2 : Int) 64 = (r1 : Int) := by omega
 have HR1 : Hid (r1 ≤ 64) := Lib.hid (by omega)
 have HL : Hid (out.length ≤ 1000) := Lib.hid (by omega)
 have HD : Hid (t.data.length ≤ 256) := Lib.hid hf.2.2.2.2.2.1
 have HQ : Hid (t.st ≠ 1 → t.st ≠ 2 → own t ≤ t.data.length) := Lib.hid (fun h1 h2 => (chkT_own hck (fun h0' => by
   have hn := hf.2.2.2.2.2.2.2.2.2.2.2.2.2.2
   unfold numbers at hn
   rw [if_pos h0', beq_iff_eq] at hn
   exact h0 hn) h1 h2).2.1)
 clear h0 h h9 hr e hck hl hf ht1 hr2 hr1
 go_enter Try.func45, Try.ntmps45
 go_wp2
 refine Any.wr2 16 [(4, [1001], none), (11, [1001], none), (12, [1000], none)] [] hv ?_
 simp only [Any.someVals]
 iterate 16 apply Exists.intro
 repeat ((first
  | refine Any.E_off rfl ?_
  | ((with_reducible refine Any.gE 28 ?_); refine Any.eC 1001 (.int .u64 t.tm) Try.underlying28 ?_)
  | ((with_reducible refine Any.gE 28 ?_); refine Any.eC 1000 (.int .u64 nw) Try.underlying28 ?_)
  | refine Any.eV ?_); simp only [Act.put, sia, scs, scz])
 try any_goals exact undef
 refine Any.fin2 hv [1000, 1001] ?_; clear hv; intro w9 hv
 go_wp2_with (first
   | ((with_reducible refine gLd 3 ?_); refine ldC hv bc 0 (.int .i64 t.st) Try.underlying3 ?_)
   | ((with_reducible refine gLd 3 ?_); refine ldC hv bc 17 (.int .i64 t.tr) Try.underlying3 ?_)
   | ((with_reducible refine gSt 3 ?_); refine stC hv bc 17 (.int .i64 t1) ?_; clear hv; intro w2 hv)
   | ((with_reducible refine gLd 3 ?_); refine ldC hv bc 16 (.int .i64 t.rto) Try.underlying3 ?_)
   | ((with_reducible refine gSt 3 ?_); refine stC hv bc 16 (.int .i64 r1) ?_; clear hv; intro w2 hv)
   | ((with_reducible refine gLd 3 ?_); refine ldC hv bc 16 (.int .i64 r1) Try.underlying3 ?_)
   | (go_at_call 46; (refine (wait_C (CM.of (A := [_]) (c := ⟨{ t with tr := t1, rto := r1 }, out⟩) hv ⟨HI.out.d, HI.out.s, HI.out.ck, ⟨HI.out.u.una, HI.out.u.nx, HI.out.u.iss, HI.out.u.inn, HI.out.u.ip⟩⟩ HO.out) HR1.out).mono ?_); rintro e w1 ⟨R1, rfl, hc1⟩; obtain ⟨da1, dn1, dk1, ba1, bn1, bk1, pa1, pn1, pk1, l1, ov1, gs1, O1, hv1, hI1, hO1⟩ := CM.back (A := [_]) hc1; clear hv hc1; have hv : Mem w0 _ ([_] ++ (bc, #[.int .i64 t.st, .int .i64 t.lo, .int .u32 t.ip, .int .i64 t.po, .int .u32 t.iss, .int .u32 t.una, .int .u32 t.nx, .slice da1 dn1 dk1, .int .i64 t.wnd, .bool t.en, .bool t.se, .int .u32 t.inn.next, .slice ba1 bn1 bk1, .slice pa1 pn1 pk1, .bool t.ed, .int .u64 (later nw r1 : Nat), .int .i64 r1, .int .i64 t1, .int .i64 t.er, .int .u64 nw, ov1]) :: (O1 ++ L)) _ := hv1; clear hv1; have HI1 := Lib.hid hI1; have HO1 := Lib.hid hO1; clear hI1 hO1; simp only [List.cons_append, List.nil_append] at hv)
   | (go_at_call 47; (refine (again_C2 (CM.of (A := [_]) (c := ⟨{ t with tr := t1, rto := r1, tm := later nw r1 }, out⟩) hv HI1.out HO1.out) HL.out HQ.out HD.out).mono ?_); rintro e w1 ⟨R3, rfl, hc1⟩; obtain ⟨da3, dn3, dk3, ba3, bn3, bk3, pa3, pn3, pk3, l3, ov3, gs3, O3, hv1, hI1, hO1⟩ := CM.back (A := [_]) hc1; clear hv hc1; have hv : Mem w0 _ ([_] ++ (bc, #[.int .i64 ((again ⟨{ t with tr := t1, rto := r1, tm := later nw r1 }, out⟩).t.st : Nat), .int .i64 ((again ⟨{ t with tr := t1, rto := r1, tm := later nw r1 }, out⟩).t.lo : Nat), .int .u32 ((again ⟨{ t with tr := t1, rto := r1, tm := later nw r1 }, out⟩).t.ip : Nat), .int .i64 ((again ⟨{ t with tr := t1, rto := r1, tm := later nw r1 }, out⟩).t.po : Nat), .int .u32 ((again ⟨{ t with tr := t1, rto := r1, tm := later nw r1 }, out⟩).t.iss : Nat), .int .u32 ((again ⟨{ t with tr := t1, rto := r1, tm := later nw r1 }, out⟩).t.una : Nat), .int .u32 ((again ⟨{ t with tr := t1, rto := r1, tm := later nw r1 }, out⟩).t.nx : Nat), .slice da3 dn3 dk3, .int .i64 ((again ⟨{ t with tr := t1, rto := r1, tm := later nw r1 }, out⟩).t.wnd : Nat), .bool (again ⟨{ t with tr := t1, rto := r1, tm := later nw r1 }, out⟩).t.en, .bool (again ⟨{ t with tr := t1, rto := r1, tm := later nw r1 }, out⟩).t.se, .int .u32 ((again ⟨{ t with tr := t1, rto := r1, tm := later nw r1 }, out⟩).t.inn.next : Nat), .slice ba3 bn3 bk3, .slice pa3 pn3 pk3, .bool (again ⟨{ t with tr := t1, rto := r1, tm := later nw r1 }, out⟩).t.ed, .int .u64 ((again ⟨{ t with tr := t1, rto := r1, tm := later nw r1 }, out⟩).t.tm : Nat), .int .i64 ((again ⟨{ t with tr := t1, rto := r1, tm := later nw r1 }, out⟩).t.rto : Nat), .int .i64 ((again ⟨{ t with tr := t1, rto := r1, tm := later nw r1 }, out⟩).t.tr : Nat), .int .i64 ((again ⟨{ t with tr := t1, rto := r1, tm := later nw r1 }, out⟩).t.er : Nat), .int .u64 nw, ov3]) :: (O3 ++ L)) _ := hv1; clear hv1; have HI3 := Lib.hid hI1; have HO3 := Lib.hid hO1; clear hI1 hO1; simp only [List.cons_append, List.nil_append] at hv))
 go_end0
 exact CMP.app (R2 := R1) ⟨R3, rfl, CM.of (A := [_]) (O := O3) (c := again ⟨{ t with tr := t1, rto := r1, tm := later nw r1 }, out⟩) hv HI3.out HO3.out⟩
theorem tick_C {bc nw bn9 : Nat} (hc : CM w0 w bc ((bn9, #[.int .u64 nw]) :: L) R nw ⟨t, out⟩) (hck : chkT t = true) (hl : out.length ≤ 400) : Calls Try.prog 45 #[.pointer (some ⟨bc, 0, none⟩), .pointer (some ⟨bn9, 0, none⟩)] w (CMP w0 bc ((bn9, #[.int .u64 nw]) :: L) R nw (.tuple #[]) (tick nw ⟨t, out⟩)) := by
 by_cases h0 : t.tm = 0
 · exact tick_k hc hck hl (.z h0)
 · by_cases h : nw < t.tm
   · exact tick_k hc hck hl (.l h0 h)
   · by_cases h9 : t.st = 9
     · exact tick_k hc hck hl (.n h0 h h9)
     · by_cases hr : t.tr = 12
       · exact tick_k hc hck hl (.o h0 h h9 hr)
       · exact tick_go hc hck hl h0 h h9 hr
end Go.Proofs.Ythenepdbgeafkaa
end

section
/-
 Connections (layer 26): bytes written.
-/
namespace Go.Proofs.Tp
open Go Go.RowKit Go.Proofs.Wi
def CatP (w0 : World) (L : LV) (R : LR) (D : List Nat) (e : Ending) (w' : World) : Prop := ∃ v R', e = .returned v ∧ CloneW R D v R' ∧ Mem w0 w' L R' ∧ ∀ x ∈ R, x ∈ R'
end Go.Proofs.Tp
namespace Go.Proofs.Ythenepdbgeafkaa
open Go.Proofs.Wi Go.RowKit Go.Proofs Go.Proofs.Tp
theorem Grow_zero (w : World) : Calls Try.prog 54 #[.slice none 0 0, .int .i64 0] w fun e w' => e = .returned (.slice none 0 0) ∧ w = w' := by
 go_enter Try.func54, Try.ntmps54
 go_wp2
 go_ret
 exact ⟨rfl, rfl⟩
theorem Concat_zero (parts : List (Value × List Nat)) (sb so m mc : Nat) (w0 w : World) (L : LV) (R : LR) (hv0 : Mem w0 w L R) (hs : (1, .slice (some ⟨sb, so, none⟩) m mc, parts.map (·.1)) ∈ R) (hal : ∀ p ∈ parts, (1, p.1, cellsB []) ∈ R) (hm : m ≤ 1000) : Calls Try.prog 27 #[.slice (some ⟨sb, so, none⟩) m mc] w (CatP w0 L R []) := by
 have hv := hv0
 have HS := Lib.hid hs
 have HA := Lib.hid hal
 have hpm : parts.length = m := by
   obtain ⟨_, _, _, e, g, _⟩ := hv0.rd hs
   cases e
   simpa using g
 have HPM := Lib.hid hpm
 clear hs hal hpm hv0
 go_enter Try.func27, Try.ntmps27
 go_wp2
 go_loopw [3, 11] (fun sv i wr => ∃ k : Nat, k ≤ m ∧ i = .int .i64 k ∧ sv = .int .i64 0 ∧ Mem w0 wr L R) (fun _ i _ => m - (intOf i).toNat)
 case atStart => exact ⟨0, Nat.zero_le _, rfl, rfl, hv⟩
 case round =>
   clear hv
   obtain ⟨k, hk, rfl, rfl, hv⟩ := hrel
   by_cases hk2 : k < m
   · have hki : (k : Int) < (m : Int) := by omega
     have hkl : k < parts.length := by rw [HPM.out]; exact hk2
     have hdm := HA.out parts[k] (List.getElem_mem hkl)
     obtain ⟨pv, hp⟩ : ∃ p, parts[k].1 = p := ⟨_, rfl⟩
     rw [hp] at hdm
     obtain ⟨pa, pn, pc, rfl, hpl, _⟩ := id (hv.rd hdm)
     obtain rfl : pn = 0 := by simp [cellsB] at hpl; omega
     have HK : Hid ((parts.map (·.1))[k]? = some (.slice pa 0 pc)) := Lib.hid (by rw [List.getElem?_map, List.getElem?_eq_getElem hkl, ← hp]; rfl)
     clear hp hdm hkl hpl
     go_wp2_with (first
       | ((with_reducible refine at_load (T := 23) ?_); refine wl_rd rfl (hv.rd HS.out) k rfl _ Try.underlying23 rfl (.slice pa 0 pc) HK.out ?_))
     go_roundw
     case rel => exact ⟨k + 1, by omega, by go_num, rfl, hv⟩
     case measure => simp [intOf]; omega
   · have hki : ¬ (k : Int) < (m : Int) := by omega
     clear hk hk2
     go_wp2_with (first
       | (go_at_call 54; (with_reducible refine (Grow_zero _).mono ?_); rintro e w1 ⟨rfl, rfl⟩))
     go_loopw [6, 27] (fun v i wr => ∃ (k : Nat) (O : LV), k ≤ m ∧ i = .int .i64 k ∧ Hid (OwnL 1 v (cellsB []) O) ∧ Mem w0 wr (O ++ L) R) (fun _ i _ => m - (intOf i).toNat)
     case atStart => exact ⟨0, [], Nat.zero_le _, rfl, Lib.hid (OwnL.nil 1), hv⟩
     case round =>
       clear hv
       obtain ⟨k, O, hk, rfl, hO, hv⟩ := hrel
       by_cases hk2 : k < m
       · have hki : (k : Int) < (m : Int) := by omega
         have hkl : k < parts.length := by rw [HPM.out]; exact hk2
         have hdm := HA.out parts[k] (List.getElem_mem hkl)
         obtain ⟨pv, hp⟩ : ∃ p, parts[k].1 = p := ⟨_, rfl⟩
         rw [hp] at hdm
         obtain ⟨pa, pn, pc, rfl, hpl, _⟩ := id (hv.rd hdm)
         obtain rfl : pn = 0 := by simp [cellsB] at hpl; omega
         have HK : Hid ((parts.map (·.1))[k]? = some (.slice pa 0 pc)) := Lib.hid (by rw [List.getElem?_map, List.getElem?_eq_getElem hkl, ← hp]; rfl)
         have HDM := Lib.hid hdm
         have hkb : (k : Int) ≤ 1000 := by omega
         have HB1 : Hid (((cellsB []).length + (cellsB []).length) / 1 ≤ maxLen) := Lib.hid (by unfold maxLen; simp [cellsB])
         have HB2 : Hid (((cellsB []).length + (cellsB []).length) / 1 * 1 ≤ 140737488355328) := Lib.hid (by simp [cellsB])
         obtain ⟨oa, on, oc, rfl, hon⟩ := id hO.out.slice
         clear hp hdm hkl hpl hon
         go_wp2_with (first
           | ((with_reducible refine at_load (T := 23) ?_); refine wl_rd rfl (hv.rd HS.out) k rfl _ Try.underlying23 rfl (.slice pa 0 pc) HK.out ?_)
           | ((with_reducible refine at_append (t := 23) ?_); refine wl_appO (A := []) (B := L) rfl rfl hO.out hv (.int .u8 0) 1 Try.underlying23 infoBz rfl (by decide) rfl (hv.rd HDM.out) (cellsB_one _) HB1.out HB2.out ?_; intro v3 w3 O3 hO3 hv1; replace hv := hv1; clear hv1 hO; replace hO3 := Lib.hid hO3))
         go_roundw
         case rel => exact ⟨k + 1, O3, by omega, by go_num, hO3, hv⟩
         case measure => simp [intOf]; omega
       · have hki : ¬ (k : Int) < (m : Int) := by omega
         obtain ⟨oa, on, oc, rfl, hon⟩ := id hO.out.slice
         clear hk hk2 hon
         go_wp2
         go_ret
         exact ⟨_, _, rfl, ⟨oa, on, oc, rfl, Mem.z, fun x hx => Mem.s hx⟩, hO.out.yield (A := []) (B := L) hv, fun x hx => Mem.s hx⟩
theorem Concat_V {w0 w : World} {L : LV} {R : LR} {R0 : LR} (hv : Mem w0 w L R) (hs0 : ∀ x ∈ R0, x ∈ R) {p q : Value} {D E F : List Nat} {sb : Nat} (hs : (1, .slice (some ⟨sb, 0, none⟩) 2 2, [p, q]) ∈ R) (hp : (1, p, cellsB D) ∈ R0) (hq : (1, q, cellsB E) ∈ R0) (hF : D ++ E = F) (hl : F.length ≤ 1000000) : Calls Try.prog 27 #[.slice (some ⟨sb, 0, none⟩) 2 2] w fun e w' => ∃ v R', e = .returned v ∧ CloneW R0 F v R' ∧ Mem w0 w' L R' ∧ ∀ x ∈ R, x ∈ R' := by
 subst hF
 by_cases h0 : 0 < (D ++ E).length
 · have hfl : ([(p, D), (q, E)] : List (Value × List Nat)).flatMap (·.2) = D ++ E := by simp
   refine (Concat_any [(p, D), (q, E)] sb 0 2 2 w0 w L R hv hs (fun x hx => ?_) (by decide) (by rw [hfl]; exact h0) (by rw [hfl]; exact hl)).mono ?_
   · simp at hx
     rcases hx with rfl | rfl
     · exact hs0 _ hp
     · exact hs0 _ hq
   · rintro e w' ⟨v, x, rfl, hr, h2, h3, h4, h5⟩
     rw [hfl] at hr
     obtain ⟨n, c, rfl, _⟩ := id hr
     exact ⟨_, _, rfl, ⟨_, n, c, rfl, Mem.z, fun x hx => Mem.s (hs0 x hx)⟩, Mem.yield (L1 := []) (hv.lay' h3 h2 h4 h5) hr, fun x hx => Mem.s hx⟩
 · have hD : D = [] := by rw [List.length_append] at h0; exact List.length_eq_zero_iff.1 (by omega)
   have hE : E = [] := by rw [List.length_append] at h0; exact List.length_eq_zero_iff.1 (by omega)
   subst hD
   subst hE
   refine (Concat_zero [(p, []), (q, [])] sb 0 2 2 w0 w L R hv hs (fun x hx => ?_) (by decide)).mono ?_
   · simp at hx
     rcases hx with rfl | rfl
     · exact hs0 _ hp
     · exact hs0 _ hq
   · rintro e w' ⟨v, R', rfl, ⟨a, n, k, h1, h2, h3⟩, h4, h5⟩
     exact ⟨v, R', rfl, ⟨a, n, k, h1, h2, fun x hx => h3 x (hs0 x hx)⟩, h4, h5⟩
theorem write_C {w0 w : World} {bc nw bb9 bn9 n xn xk : Nat} {xa : Option Addr} {b : List Nat} {L : LV} {R : LR} {t : T} {out : List G} (hc : CM w0 w bc ((bn9, #[.int .i64 n]) :: (bb9, #[.slice xa xn xk]) :: L) R nw ⟨t, out⟩) (hb : (1, .slice xa xn xk, cellsB b) ∈ R) (hn : n ≤ b.length) (hbl : b.length ≤ 1000) (hq : 0 ≤ own t ∧ own t ≤ t.data.length ∧ 0 ≤ flight t) (hd : t.data.length + n ≤ 256) (hw : t.wnd ≤ 65535) (hr : t.rto ≤ 64) (hl : out.length ≤ 400) : Calls Try.prog 26 #[.pointer (some ⟨bc, 0, none⟩), .pointer (some ⟨bb9, 0, none⟩), .pointer (some ⟨bn9, 0, none⟩)] w (CMP w0 bc ((bn9, #[.int .i64 n]) :: (bb9, #[.slice xa xn xk]) :: L) R nw (.tuple #[]) (flush nw ⟨{ t with data := t.data ++ b.take n }, out⟩)) := by
 obtain ⟨da, dn, dk, ba, bn, bk, pa, pn, pk, l, ov, gs, O, hv0, hI, hO⟩ := hc
 have hv1 : Mem w0 w ((bn9, #[.int .i64 n]) :: (bb9, #[.slice xa xn xk]) :: (bc, #[.int .i64 t.st, .int .i64 t.lo, .int .u32 t.ip, .int .i64 t.po, .int .u32 t.iss, .int .u32 t.una, .int .u32 t.nx, .slice da dn dk, .int .i64 t.wnd, .bool t.en, .bool t.se, .int .u32 t.inn.next, .slice ba bn bk, .slice pa pn pk, .bool t.ed, .int .u64 t.tm, .int .i64 t.rto, .int .i64 t.tr, .int .i64 t.er, .int .u64 nw, ov]) :: (O ++ L)) R := hv0.perm (perm_done _ _ _ _ _)
 have hxl : b.length = xn := len_rd1 (hv1.rd hb)
 have hxk : xn ≤ xk := by
   obtain ⟨_, _, _, e, _, g, _⟩ := hv1.rd hb
   cases e; exact g
 have hv := hv1.sliced hb (l := 0) (h := n) (m := xk) (Nat.zero_le _) (by omega) (by omega) (Nat.le_refl _)
 obtain ⟨za, zn, zk, hz⟩ : ∃ za zn zk, sliced xa 0 n xk 1 = .slice za zn zk := ⟨_, _, _, rfl⟩
 rw [hz, cells_part, List.drop_zero, Nat.sub_zero] at hv
 obtain ⟨R1, hR1⟩ : ∃ R1, R1 = (1, Value.slice za zn zk, cellsB (b.take n)) :: R := ⟨_, rfl⟩
 obtain ⟨F, hF⟩ : ∃ F, t.data ++ b.take n = F := ⟨_, rfl⟩
 rw [hF]
 have HSL := Lib.hid hz
 have HHC : Hid (n ≤ xk) := Lib.hid (by omega)
 have hI1 : InC R1 t da dn dk ba bn bk pa pn pk l := hI.mono (fun x hx => by rw [hR1]; exact Mem.s hx)
 have hO1 : OutC R1 out ov gs O := hO.mono (fun x hx => by rw [hR1]; exact Mem.s hx)
 have HP1 : Hid ((1, Value.slice da dn dk, cellsB t.data) ∈ R1) := Lib.hid hI1.d
 have HQ1 : Hid ((1, Value.slice za zn zk, cellsB (b.take n)) ∈ R1) := Lib.hid (by rw [hR1]; exact Mem.z)
 have HF := Lib.hid hF
 have hFl : F.length = t.data.length + n := by rw [← hF, List.length_append, List.length_take]; omega
 have HFL : Hid (F.length ≤ 1000000) := Lib.hid (by omega)
 have HI := Lib.hid hI1
 have HO := Lib.hid hO1
 have HSUB : Hid (∀ x ∈ R, x ∈ R1) := Lib.hid (fun x hx => by rw [hR1]; exact Mem.s hx)
 have HQ := Lib.hid hq
 have HD2 : Hid (F.length ≤ 256) := Lib.hid (by omega)
 have HQ2 : Hid (own t ≤ F.length) := Lib.hid (by omega)
 have HW := Lib.hid hw
 have HR := Lib.hid hr
 have HL := Lib.hid hl
 have HSC : Hid (∃ v R', CloneW R1 F v R') := Lib.hid ⟨.slice none 0 0, (1, .slice none 0 0, cellsB F) :: R1, none, 0, 0, rfl, Mem.z, fun x hx => Mem.s hx⟩
 have HKN : Hid (∀ (B9 : Nat) {E : Bny.Env} (ks : List Nat), 9 ∈ ks → E 9 = .rds [(1, .slice (some ⟨B9, 0, none⟩) 2 2, [.slice da dn dk, .slice za zn zk])] → ∀ x ∈ (1, Value.slice (some ⟨B9, 0, none⟩) 2 2, [Value.slice da dn dk, Value.slice za zn zk]) :: R1, Bny.Known ⟨w0, O ++ L, R1⟩ E ks x) := Lib.hid (fun B9 E ks h1 h2 x hx => by
   rcases List.mem_cons.1 hx with rfl | hx
   · exact .inr ⟨9, h1, by rw [h2]; exact List.mem_singleton_self _⟩
   · exact .inl hx)
 rw [← hR1] at hv
 clear hv0 hv1 hb hn hbl hq hd hw hr hl hxl hxk hz hR1 hI hO hI1 hO1 hF hFl
 go_enter Try.func26, Try.ntmps26
 go_wp2
 try simp only [Act.put]
 refine Bny.wr3 15 [(5, [1002], none), (6, [1001], none), (7, [1000], none), (9, [], some 9), (10, [9], some 10), (14, [1002], some 1002)] [(9, .bslR 1 2 #[.slice da dn dk, .slice za zn zk]), (10, .mem (CloneW R1 F)), (11, .pure), (12, .pure), (13, .pure), (14, .put)] hv ?_
 simp only [Any.someVals]
 iterate 15 apply Exists.intro
 repeat ((first
  | refine Bny.E_off rfl ?_
  | ((with_reducible refine Bny.at_estore (T := 23) ?_); refine Bny.E_putc (T := 23) (off := 7) rfl rfl rfl rfl rfl rfl (by kernel_rfl) rfl (by show 7 < 21; decide) ?_)
  | ((with_reducible refine Bny.at_ecallf (f := 27) ?_); refine Bny.E_callmem rfl rfl rfl (Go.Proofs.enters_of Try.func27 (by kernel_rfl) rfl) rfl [.slice (some ⟨B9, 0, none⟩) 2 2] rfl HSC.out ((1, .slice (some ⟨B9, 0, none⟩) 2 2, [.slice da dn dk, .slice za zn zk]) :: R1) (HKN.out B9 _ (by decide) rfl) (fun w0 w L R' hm hs => Concat_V hm (fun x hx => hs x (List.mem_cons_of_mem _ hx)) (hs _ (List.mem_cons_self ..)) HP1.out HQ1.out HF.out HFL.out) ?_; rintro v R2 ⟨ya, yn, yk, rfl, hz2, hs2⟩; have HZ2 := Lib.hid hz2; have HS2 := Lib.hid hs2; clear hz2 hs2)
  | ((with_reducible refine Bny.at_ebsl ?_); refine Bny.E_bslR (t := 23) rfl rfl rfl (fun w' => (by unfold execOp; go_simp)) rfl (by unfold maxLen; omega) ?_; intro B9)
  | refine Bny.ePq ?_
  | ((with_reducible refine Bny.gE 23 ?_); refine Bny.eC 1002 (.slice da dn dk) Try.underlying23 ?_)
  | ((with_reducible refine Bny.gE 23 ?_); refine Bny.eC 1001 (.slice xa xn xk) Try.underlying23 ?_)
  | ((with_reducible refine Bny.gE 3 ?_); refine Bny.eC 1000 (.int .i64 n) Try.underlying3 ?_)
  | (apply Bny.E_val rfl rfl rfl rfl
     case h =>
      intro E' hA K hK
      first
       | ((with_reducible refine Any.at_qslice (T := 23) ?_); refine Any.q_slice rfl Try.underlying23 infoB1 none (some (.int .i64 n)) none rfl rfl rfl 0 n xk (fun w => bounds_h HHC.out) HSL.out ?_; refine hK _ ?_; rfl)
     case hD => rfl)
  | refine Bny.eV ?_); simp only [Act.put, sia, scs, scz])
 try any_goals exact undef
 refine Bny.finr [1000, 1001, 1002] 10 ?_; clear hv; intro w9 hv
 go_wp2_with (first
   | (go_at_call 28; (refine (flush_C (CM.of (A := [_, _]) (c := ⟨{ t with data := F }, out⟩) hv ⟨HZ2.out, (HI.out.mono HS2.out).s, HI.out.ck, ⟨HI.out.u.una, HI.out.u.nx, HI.out.u.iss, HI.out.u.inn, HI.out.u.ip⟩⟩ (HO.out.mono HS2.out)) (fun _ => HQ.out.2.2) (fun _ => HQ2.out) HD2.out HW.out HR.out HL.out).mono ?_); rintro e w1 ⟨R3, rfl, hc1⟩; obtain ⟨da3, dn3, dk3, ba3, bn3, bk3, pa3, pn3, pk3, l3, ov3, gs3, O3, hv1, hI1, hO1⟩ := CM.back (A := [_, _]) hc1; clear hv hc1; have hv : Mem w0 _ ([_, _] ++ (bc, #[.int .i64 ((flush nw ⟨{ t with data := F }, out⟩).t.st : Nat), .int .i64 ((flush nw ⟨{ t with data := F }, out⟩).t.lo : Nat), .int .u32 ((flush nw ⟨{ t with data := F }, out⟩).t.ip : Nat), .int .i64 ((flush nw ⟨{ t with data := F }, out⟩).t.po : Nat), .int .u32 ((flush nw ⟨{ t with data := F }, out⟩).t.iss : Nat), .int .u32 ((flush nw ⟨{ t with data := F }, out⟩).t.una : Nat), .int .u32 ((flush nw ⟨{ t with data := F }, out⟩).t.nx : Nat), .slice da3 dn3 dk3, .int .i64 ((flush nw ⟨{ t with data := F }, out⟩).t.wnd : Nat), .bool (flush nw ⟨{ t with data := F }, out⟩).t.en, .bool (flush nw ⟨{ t with data := F }, out⟩).t.se, .int .u32 ((flush nw ⟨{ t with data := F }, out⟩).t.inn.next : Nat), .slice ba3 bn3 bk3, .slice pa3 pn3 pk3, .bool (flush nw ⟨{ t with data := F }, out⟩).t.ed, .int .u64 ((flush nw ⟨{ t with data := F }, out⟩).t.tm : Nat), .int .i64 ((flush nw ⟨{ t with data := F }, out⟩).t.rto : Nat), .int .i64 ((flush nw ⟨{ t with data := F }, out⟩).t.tr : Nat), .int .i64 ((flush nw ⟨{ t with data := F }, out⟩).t.er : Nat), .int .u64 nw, ov3]) :: (O3 ++ L)) _ := hv1; clear hv1; have HI3 := Lib.hid hI1; have HO3 := Lib.hid hO1; clear hI1 hO1; simp only [List.cons_append, List.nil_append] at hv))
 go_end0
 have hx : ∀ x ∈ R3 ++ (R2 ++ R), x ∈ R3 ++ R2 := fun x hx => by
   rcases List.mem_append.1 hx with h | h
   · exact List.mem_append_left _ h
   · rcases List.mem_append.1 h with h | h
     · exact List.mem_append_right _ h
     · exact List.mem_append_right _ (HS2.out x (HSUB.out x h))
 have hy : ∀ x ∈ R3 ++ R2, x ∈ R3 ++ (R2 ++ R) := fun x hx => by rw [← List.append_assoc]; exact List.mem_append_left _ hx
 exact CMP.app (R2 := R2) ⟨R3, rfl, CM.of (A := [_, _]) (O := O3) (c := flush nw ⟨{ t with data := F }, out⟩) (hv.keepR hx) (HI3.out.mono hy) (HO3.out.mono hy)⟩
end Go.Proofs.Ythenepdbgeafkaa
end

section
/-
 Connections (layer 26): Write, Close, Tick.
-/
namespace Go.Proofs.Tp
open Go Go.RowKit Go.Proofs.Wi
theorem permA1 {α : Type} (A : List α) (a b : α) (L : List α) : (A ++ a :: b :: L).Perm (b :: (A ++ a :: L)) := by
 rw [show A ++ a :: b :: L = (A ++ [a]) ++ b :: L by simp, show A ++ a :: L = (A ++ [a]) ++ L by simp]
 exact List.perm_middle
theorem rowT_one (t : T) (da ba pa : Option Addr) (dn dk bn bk pn pk : Nat) : (rowT t (.slice da dn dk) (.slice ba bn bk) (.slice pa pn pk)).all (·.oneCell') = true := by simp [rowT, Value.oneCell']
theorem perm_out {α : Type} (O A L : List α) : (O ++ (A ++ L)).Perm (A ++ (O ++ L)) := by
 rw [← List.append_assoc, ← List.append_assoc]
 exact List.Perm.append_right _ List.perm_append_comm
def RTP (w0 : World) (L : LV) (R : LR) (c : C) (e : Ending) (w' : World) : Prop :=
 ∃ R' vt ov, e = .returned (.tuple #[vt, ov]) ∧ RT w0 w' L (R' ++ R) c vt ov
def RTW (w0 : World) (L : LV) (R : LR) (c : C) (n : Nat) (er : Int) (e : Ending) (w' : World) : Prop :=
 ∃ R' vt ov, e = .returned (.tuple #[vt, .int .i64 n, ov, .int .i64 er]) ∧ RT w0 w' L (R' ++ R) c vt ov
end Go.Proofs.Tp
namespace Go.Proofs.Ythenepdbgeafkaa
open Go.Proofs.Wi Go.RowKit Go.Proofs Go.Proofs.Tp
theorem Close_T {w0 w : World} {L : LV} {R : LR} (hv : Mem w0 w L R) {t : T} {da ba pa : Option Addr} {dn dk bn bk pn pk : Nat} {l : List PcV} (hI : InC R t da dn dk ba bn bk pa pn pk l) (hck : chkT t = true) {nw : Nat} : Calls Try.prog 12 #[.agg #[.int .i64 t.st, .int .i64 t.lo, .int .u32 t.ip, .int .i64 t.po, .int .u32 t.iss, .int .u32 t.una, .int .u32 t.nx, .slice da dn dk, .int .i64 t.wnd, .bool t.en, .bool t.se, .int .u32 t.inn.next, .slice ba bn bk, .slice pa pn pk, .bool t.ed, .int .u64 t.tm, .int .i64 t.rto, .int .i64 t.tr, .int .i64 t.er], .int .u64 nw] w (RTP w0 L R (close nw ⟨t, []⟩)) := by
 have HI := Lib.hid hI
 have HCK := Lib.hid hck
 clear hI hck
 go_enter Try.func12, Try.ntmps12
 go_wp2_with (first
   | ((with_reducible refine gBx 31 2 ?_); refine nwB hv #[.int .i64 t.st, .int .i64 t.lo, .int .u32 t.ip, .int .i64 t.po, .int .u32 t.iss, .int .u32 t.una, .int .u32 t.nx, .slice da dn dk, .int .i64 t.wnd, .bool t.en, .bool t.se, .int .u32 t.inn.next, .slice ba bn bk, .slice pa pn pk, .bool t.ed, .int .u64 t.tm, .int .i64 t.rto, .int .i64 t.tr, .int .i64 t.er] 31 ?_; clear hv; intro b_2 w2 hv)
   | ((with_reducible refine gAl 31 4 ?_); refine nwB hv #[.int .i64 0, .int .i64 0, .int .u32 0, .int .i64 0, .int .u32 0, .int .u32 0, .int .u32 0, .slice none 0 0, .int .i64 0, .bool false, .bool false, .int .u32 0, .slice none 0 0, .slice none 0 0, .bool false, .int .u64 0, .int .i64 0, .int .i64 0, .int .i64 0] 31 ?_; clear hv; intro b_4 w2 hv)
   | ((with_reducible refine gLd 31 ?_); refine ldV hv b_2 19 Try.underlying31 infoT19 ?_)
   | (go_at_call 25; (refine (done_C (K := (fun c' L' _ => c' = close nw ⟨t, []⟩ ∧ L' = (b_4, #[.int .i64 0, .int .i64 0, .int .u32 0, .int .i64 0, .int .u32 0, .int .u32 0, .int .u32 0, .slice none 0 0, .int .i64 0, .bool false, .bool false, .int .u32 0, .slice none 0 0, .slice none 0 0, .bool false, .int .u64 0, .int .i64 0, .int .i64 0, .int .i64 0]) :: (b_2, #[.int .i64 t.st, .int .i64 t.lo, .int .u32 t.ip, .int .i64 t.po, .int .u32 t.iss, .int .u32 t.una, .int .u32 t.nx, .slice da dn dk, .int .i64 t.wnd, .bool t.en, .bool t.se, .int .u32 t.inn.next, .slice ba bn bk, .slice pa pn pk, .bool t.ed, .int .u64 t.tm, .int .i64 t.rto, .int .i64 t.tr, .int .i64 t.er]) :: L)) hv HI.out HCK.out (nw := nw) (f := 29) (cap := #[]) (Go.Proofs.enters_of Try.func29 (by kernel_rfl) rfl) (fun w1 bc A hc1 => (close_C hc1 HCK.out (by decide)).mono fun e w' h => by obtain ⟨R', h1, h2⟩ := h; exact ⟨_, _, R', h1, ⟨rfl, rfl⟩, h2⟩)).mono ?_); rintro e w1 ⟨c1, L1, R1, vt, ov1, rfl, ⟨rfl, rfl⟩, hr1⟩; obtain ⟨da1, dn1, dk1, ba1, bn1, bk1, pa1, pn1, pk1, l1, gs1, O1, rfl, hv1, hI1, hO1⟩ := hr1; clear hv; have hv := hv1; clear hv1; have HI1 := Lib.hid hI1; have HO1 := Lib.hid hO1; clear hI1 hO1; have hv2 : Mem w0 _ ([(b_4, #[.int .i64 0, .int .i64 0, .int .u32 0, .int .i64 0, .int .u32 0, .int .u32 0, .int .u32 0, .slice none 0 0, .int .i64 0, .bool false, .bool false, .int .u32 0, .slice none 0 0, .slice none 0 0, .bool false, .int .u64 0, .int .i64 0, .int .i64 0, .int .i64 0]), (b_2, #[.int .i64 t.st, .int .i64 t.lo, .int .u32 t.ip, .int .i64 t.po, .int .u32 t.iss, .int .u32 t.una, .int .u32 t.nx, .slice da dn dk, .int .i64 t.wnd, .bool t.en, .bool t.se, .int .u32 t.inn.next, .slice ba bn bk, .slice pa pn pk, .bool t.ed, .int .u64 t.tm, .int .i64 t.rto, .int .i64 t.tr, .int .i64 t.er])] ++ (O1 ++ L)) _ := hv.perm (perm_out O1 [(b_4, #[.int .i64 0, .int .i64 0, .int .u32 0, .int .i64 0, .int .u32 0, .int .u32 0, .int .u32 0, .slice none 0 0, .int .i64 0, .bool false, .bool false, .int .u32 0, .slice none 0 0, .slice none 0 0, .bool false, .int .u64 0, .int .i64 0, .int .i64 0, .int .i64 0]), (b_2, #[.int .i64 t.st, .int .i64 t.lo, .int .u32 t.ip, .int .i64 t.po, .int .u32 t.iss, .int .u32 t.una, .int .u32 t.nx, .slice da dn dk, .int .i64 t.wnd, .bool t.en, .bool t.se, .int .u32 t.inn.next, .slice ba bn bk, .slice pa pn pk, .bool t.ed, .int .u64 t.tm, .int .i64 t.rto, .int .i64 t.tr, .int .i64 t.er])] L); clear hv; have hv := hv2; clear hv2; simp only [List.cons_append, List.nil_append] at hv)
   | ((with_reducible refine gSt 31 ?_); refine stV hv b_4 19 infoT19 ?_ (h1 := (rowT_one _ _ _ _ _ _ _ _ _ _)); clear hv; intro w2 hv))
 try simp only [Exit.inBlock, Exit.then]
 refine ret_cell2 (v := .agg (rowT (close nw ⟨t, []⟩).t (.slice da1 dn1 dk1) (.slice ba1 bn1 bk1) (.slice pa1 pn1 pk1))) (v1 := ov1) rfl rfl (read_row _ b_4 31 _ (hv.vars.ro (b := b_4)) 19 _ Try.underlying31 rfl infoT19 (by decide) rfl) rfl rfl ?_
 exact ⟨R1, _, ov1, rfl, _, _, _, _, _, _, _, _, _, _, _, _, rfl, hv.drop.drop, HI1.out, HO1.out⟩
theorem Tick_T {w0 w : World} {L : LV} {R : LR} (hv : Mem w0 w L R) {t : T} {da ba pa : Option Addr} {dn dk bn bk pn pk : Nat} {l : List PcV} (hI : InC R t da dn dk ba bn bk pa pn pk l) (hck : chkT t = true) {nw : Nat} : Calls Try.prog 19 #[.agg #[.int .i64 t.st, .int .i64 t.lo, .int .u32 t.ip, .int .i64 t.po, .int .u32 t.iss, .int .u32 t.una, .int .u32 t.nx, .slice da dn dk, .int .i64 t.wnd, .bool t.en, .bool t.se, .int .u32 t.inn.next, .slice ba bn bk, .slice pa pn pk, .bool t.ed, .int .u64 t.tm, .int .i64 t.rto, .int .i64 t.tr, .int .i64 t.er], .int .u64 nw] w (RTP w0 L R (tick nw ⟨t, []⟩)) := by
 have HI := Lib.hid hI
 have HCK := Lib.hid hck
 clear hI hck
 go_enter Try.func19, Try.ntmps19
 go_wp2_with (first
   | ((with_reducible refine gBx 31 2 ?_); refine nwB hv #[.int .i64 t.st, .int .i64 t.lo, .int .u32 t.ip, .int .i64 t.po, .int .u32 t.iss, .int .u32 t.una, .int .u32 t.nx, .slice da dn dk, .int .i64 t.wnd, .bool t.en, .bool t.se, .int .u32 t.inn.next, .slice ba bn bk, .slice pa pn pk, .bool t.ed, .int .u64 t.tm, .int .i64 t.rto, .int .i64 t.tr, .int .i64 t.er] 31 ?_; clear hv; intro b_2 w2 hv)
   | ((with_reducible refine gBx 28 3 ?_); refine nwB hv #[.int .u64 nw] 28 ?_; clear hv; intro b_3 w2 hv)
   | ((with_reducible refine gAl 31 4 ?_); refine nwB hv #[.int .i64 0, .int .i64 0, .int .u32 0, .int .i64 0, .int .u32 0, .int .u32 0, .int .u32 0, .slice none 0 0, .int .i64 0, .bool false, .bool false, .int .u32 0, .slice none 0 0, .slice none 0 0, .bool false, .int .u64 0, .int .i64 0, .int .i64 0, .int .i64 0] 31 ?_; clear hv; intro b_4 w2 hv)
   | ((with_reducible refine gLd 31 ?_); refine ldV hv b_2 19 Try.underlying31 infoT19 ?_)
   | ((with_reducible refine gLd 28 ?_); refine ldC hv b_3 0 (.int .u64 nw) Try.underlying28 ?_)
   | (go_at_call 25; (refine (done_C (K := (fun c' L' _ => c' = tick nw ⟨t, []⟩ ∧ L' = (b_4, #[.int .i64 0, .int .i64 0, .int .u32 0, .int .i64 0, .int .u32 0, .int .u32 0, .int .u32 0, .slice none 0 0, .int .i64 0, .bool false, .bool false, .int .u32 0, .slice none 0 0, .slice none 0 0, .bool false, .int .u64 0, .int .i64 0, .int .i64 0, .int .i64 0]) :: (b_3, #[.int .u64 nw]) :: (b_2, #[.int .i64 t.st, .int .i64 t.lo, .int .u32 t.ip, .int .i64 t.po, .int .u32 t.iss, .int .u32 t.una, .int .u32 t.nx, .slice da dn dk, .int .i64 t.wnd, .bool t.en, .bool t.se, .int .u32 t.inn.next, .slice ba bn bk, .slice pa pn pk, .bool t.ed, .int .u64 t.tm, .int .i64 t.rto, .int .i64 t.tr, .int .i64 t.er]) :: L)) hv HI.out HCK.out (nw := nw) (f := 45) (cap := #[.pointer (some ⟨b_3, 0, none⟩)]) (Go.Proofs.enters_of Try.func45 (by kernel_rfl) rfl) (fun w1 bc A hc1 => (tick_C (bn9 := b_3) (hc1.perm (permA1 A _ _ _)) HCK.out (by decide)).mono fun e w' h => by obtain ⟨R', h1, h2⟩ := h.perm (permA1 A _ _ _).symm; exact ⟨_, _, R', h1, ⟨rfl, rfl⟩, h2⟩)).mono ?_); rintro e w1 ⟨c1, L1, R1, vt, ov1, rfl, ⟨rfl, rfl⟩, hr1⟩; obtain ⟨da1, dn1, dk1, ba1, bn1, bk1, pa1, pn1, pk1, l1, gs1, O1, rfl, hv1, hI1, hO1⟩ := hr1; clear hv; have hv := hv1; clear hv1; have HI1 := Lib.hid hI1; have HO1 := Lib.hid hO1; clear hI1 hO1; have hv2 : Mem w0 _ ([(b_4, #[.int .i64 0, .int .i64 0, .int .u32 0, .int .i64 0, .int .u32 0, .int .u32 0, .int .u32 0, .slice none 0 0, .int .i64 0, .bool false, .bool false, .int .u32 0, .slice none 0 0, .slice none 0 0, .bool false, .int .u64 0, .int .i64 0, .int .i64 0, .int .i64 0]), (b_3, #[.int .u64 nw]), (b_2, #[.int .i64 t.st, .int .i64 t.lo, .int .u32 t.ip, .int .i64 t.po, .int .u32 t.iss, .int .u32 t.una, .int .u32 t.nx, .slice da dn dk, .int .i64 t.wnd, .bool t.en, .bool t.se, .int .u32 t.inn.next, .slice ba bn bk, .slice pa pn pk, .bool t.ed, .int .u64 t.tm, .int .i64 t.rto, .int .i64 t.tr, .int .i64 t.er])] ++ (O1 ++ L)) _ := hv.perm (perm_out O1 [(b_4, #[.int .i64 0, .int .i64 0, .int .u32 0, .int .i64 0, .int .u32 0, .int .u32 0, .int .u32 0, .slice none 0 0, .int .i64 0, .bool false, .bool false, .int .u32 0, .slice none 0 0, .slice none 0 0, .bool false, .int .u64 0, .int .i64 0, .int .i64 0, .int .i64 0]), (b_3, #[.int .u64 nw]), (b_2, #[.int .i64 t.st, .int .i64 t.lo, .int .u32 t.ip, .int .i64 t.po, .int .u32 t.iss, .int .u32 t.una, .int .u32 t.nx, .slice da dn dk, .int .i64 t.wnd, .bool t.en, .bool t.se, .int .u32 t.inn.next, .slice ba bn bk, .slice pa pn pk, .bool t.ed, .int .u64 t.tm, .int .i64 t.rto, .int .i64 t.tr, .int .i64 t.er])] L); clear hv; have hv := hv2; clear hv2; simp only [List.cons_append, List.nil_append] at hv)
   | ((with_reducible refine gSt 31 ?_); refine stV hv b_4 19 infoT19 ?_ (h1 := (rowT_one _ _ _ _ _ _ _ _ _ _)); clear hv; intro w2 hv))
 try simp only [Exit.inBlock, Exit.then]
 refine ret_cell2 (v := .agg (rowT (tick nw ⟨t, []⟩).t (.slice da1 dn1 dk1) (.slice ba1 bn1 bk1) (.slice pa1 pn1 pk1))) (v1 := ov1) rfl rfl (read_row _ b_4 31 _ (hv.vars.ro (b := b_4)) 19 _ Try.underlying31 rfl infoT19 (by decide) rfl) rfl rfl ?_
 exact ⟨R1, _, ov1, rfl, _, _, _, _, _, _, _, _, _, _, _, _, rfl, hv.drop.drop.drop, HI1.out, HO1.out⟩
end Go.Proofs.Ythenepdbgeafkaa
end
