import Derived.Test.YthenepdbgeafkaaGAR
import Derived.Test.YthenepdbgeafkaaGAI
set_option linter.unusedSimpArgs false
set_option linter.unusedVariables false
set_option maxRecDepth 100000
set_option maxHeartbeats 16000000
section
/-
 Connections (layer 26): what is not acknowledged goes once more.
-/
namespace Go.Proofs.Tp
open Go Go.RowKit Go.Proofs.Wi
@[go_sem high] theorem run_min_ints3 {P : Program} (w : World) (ts : Array TypeId) (t : TypeId) (k k' k2 : IntKind) (x y z : Int) :
   (Builtin.min_ ts t #[.int k x, .int k' y, .int k2 z]).run P w = .ok (.int k (min (min x y) z)) w := by
 have e : (if y < x then y else x) = min x y := by
   rw [Int.min_def]
   split <;> split <;> omega
 have e2 : (if z < min x y then z else min x y) = min (min x y) z := by
   rw [Int.min_def (min x y)]
   split <;> split <;> omega
 simp [Builtin.min_, Builtin.min2, e, e2]
theorem bounds_h1 {P : Program} {w : World} {n cap : Nat} (h1 : 1 ≤ cap) : (Instr.sliceBounds true n cap none (some (.int .i64 1)) none).run P w = .ok (0, 1, cap) w := bounds_h (kh := .i64) (h := 1) h1
theorem cells_part (D : List Nat) (l h : Nat) : ((cellsB D).drop (l * 1)).take ((h - l) * 1) = cellsB ((D.drop l).take (h - l)) := by
 rw [Nat.mul_one, Nat.mul_one]
 simp only [cellsB, List.map_take, List.map_drop]
end Go.Proofs.Tp
namespace Go.Proofs.Ythenepdbgeafkaa
open Go.Proofs.Wi Go.RowKit Go.Proofs Go.Proofs.Tp
variable {w0 w : World} {L : LV} {R : LR} {bc nw : Nat} {t : T} {out : List G}
theorem again_s1 (hc : CM w0 w bc L R nw ⟨t, out⟩) (hl : out.length ≤ 1000) (hs : t.st = 1) : Calls Try.prog 47 #[.pointer (some ⟨bc, 0, none⟩)] w (CMP w0 bc L R nw (.tuple #[]) (again ⟨t, out⟩)) := by
 obtain ⟨da, dn, dk, ba, bn, bk, pa, pn, pk, l, ov, gs, O, hv, HI, HO⟩ := hc.get
 clear hc
 have HL := Lib.hid hl
 have e : again ⟨t, out⟩ = send 2 t.una [] ⟨t, out⟩ := by unfold again; rw [if_pos hs]
 rw [e]
 have y1 : ((t.st : Int) == 1) = true := by rw [hs]; rfl
 clear hs e hl
 go_enter Try.func47, Try.ntmps47
 go_wp2_with (first
   | ((with_reducible refine at_load (T := 31) ?_); refine wl_ldp rfl bc 0 rfl _ hv.vars.ro 19 _ Try.underlying31 rfl infoT19 (by decide) (by show 0 + 19 ≤ 21; decide) (#[.int .i64 t.st, .int .i64 t.lo, .int .u32 t.ip, .int .i64 t.po, .int .u32 t.iss, .int .u32 t.una, .int .u32 t.nx, .slice da dn dk, .int .i64 t.wnd, .bool t.en, .bool t.se, .int .u32 t.inn.next, .slice ba bn bk, .slice pa pn pk, .bool t.ed, .int .u64 t.tm, .int .i64 t.rto, .int .i64 t.tr, .int .i64 t.er]) (ext21 _ _ _ _ _ _ _ _ _ _ _ _ _ _ _ _ _ _ _ _ _) ?_)
   | (go_at_call 56; (with_reducible refine (own_v _ _ _ _ _ _ _ _ _ _ _ _ _ _ _ _ _ _ _ _).mono ?_); rintro e w1 ⟨rfl, hn1⟩; replace hv := hv.new hn1; clear hn1)
   | (go_at_call 57; (with_reducible refine (flight_v _ _ _ _ _ _ _ _ _ _ _ _ _ _ _ _ _ _ _ _).mono ?_); rintro e w1 ⟨rfl, hn1⟩; replace hv := hv.new hn1; clear hn1)
   | ((with_reducible refine gLd 3 ?_); refine ldC hv bc 0 (.int .i64 t.st) Try.underlying3 ?_)
   | ((with_reducible refine gLd 22 ?_); refine ldC hv bc 5 (.int .u32 t.una) Try.underlying22 ?_)
   | ((with_reducible refine gLd 22 ?_); refine ldC hv bc 6 (.int .u32 t.nx) Try.underlying22 ?_)
   | ((with_reducible refine gLd 4 ?_); refine ldC hv bc 10 (.bool t.se) Try.underlying4 ?_)
   | ((with_reducible refine gLd 23 ?_); refine ldC hv bc 7 (.slice da dn dk) Try.underlying23 ?_)
   | (go_at_call 44; (refine (snn2 (CM.of (A := []) (c := ⟨t, out⟩) hv HI.out HO.out) HL.out).mono ?_); rintro e w1 ⟨R1, rfl, hc1⟩; obtain ⟨da1, dn1, dk1, ba1, bn1, bk1, pa1, pn1, pk1, l1, ov1, gs1, O1, hv1, hI1, hO1⟩ := CM.back (A := []) hc1; clear hv hc1; have hv : Mem w0 _ ([] ++ (bc, #[.int .i64 t.st, .int .i64 t.lo, .int .u32 t.ip, .int .i64 t.po, .int .u32 t.iss, .int .u32 t.una, .int .u32 t.nx, .slice da1 dn1 dk1, .int .i64 t.wnd, .bool t.en, .bool t.se, .int .u32 t.inn.next, .slice ba1 bn1 bk1, .slice pa1 pn1 pk1, .bool t.ed, .int .u64 t.tm, .int .i64 t.rto, .int .i64 t.tr, .int .i64 t.er, .int .u64 nw, ov1]) :: (O1 ++ L)) _ := hv1; clear hv1; have HI1 := Lib.hid hI1; have HO1 := Lib.hid hO1; clear hI1 hO1; simp only [List.cons_append, List.nil_append] at hv))
 go_end0
 exact ⟨R1, rfl, CM.of (A := []) (c := send 2 t.una [] ⟨t, out⟩) (hv.keep (by exact List.sublist_append_right [] _)) HI1.out HO1.out⟩
theorem again_s2 (hc : CM w0 w bc L R nw ⟨t, out⟩) (hl : out.length ≤ 1000) (hs : t.st = 2) : Calls Try.prog 47 #[.pointer (some ⟨bc, 0, none⟩)] w (CMP w0 bc L R nw (.tuple #[]) (again ⟨t, out⟩)) := by
 obtain ⟨da, dn, dk, ba, bn, bk, pa, pn, pk, l, ov, gs, O, hv, HI, HO⟩ := hc.get
 clear hc
 have HL := Lib.hid hl
 have e : again ⟨t, out⟩ = send 18 t.una [] ⟨t, out⟩ := by unfold again; rw [if_neg (show ¬ t.st = 1 by omega), if_pos hs]
 rw [e]
 have y1 : ((t.st : Int) == 1) = false := by rw [hs]; rfl
 have y2 : ((t.st : Int) == 2) = true := by rw [hs]; rfl
 clear hs e hl
 go_enter Try.func47, Try.ntmps47
 go_wp2_with (first
   | ((with_reducible refine at_load (T := 31) ?_); refine wl_ldp rfl bc 0 rfl _ hv.vars.ro 19 _ Try.underlying31 rfl infoT19 (by decide) (by show 0 + 19 ≤ 21; decide) (#[.int .i64 t.st, .int .i64 t.lo, .int .u32 t.ip, .int .i64 t.po, .int .u32 t.iss, .int .u32 t.una, .int .u32 t.nx, .slice da dn dk, .int .i64 t.wnd, .bool t.en, .bool t.se, .int .u32 t.inn.next, .slice ba bn bk, .slice pa pn pk, .bool t.ed, .int .u64 t.tm, .int .i64 t.rto, .int .i64 t.tr, .int .i64 t.er]) (ext21 _ _ _ _ _ _ _ _ _ _ _ _ _ _ _ _ _ _ _ _ _) ?_)
   | (go_at_call 56; (with_reducible refine (own_v _ _ _ _ _ _ _ _ _ _ _ _ _ _ _ _ _ _ _ _).mono ?_); rintro e w1 ⟨rfl, hn1⟩; replace hv := hv.new hn1; clear hn1)
   | (go_at_call 57; (with_reducible refine (flight_v _ _ _ _ _ _ _ _ _ _ _ _ _ _ _ _ _ _ _ _).mono ?_); rintro e w1 ⟨rfl, hn1⟩; replace hv := hv.new hn1; clear hn1)
   | ((with_reducible refine gLd 3 ?_); refine ldC hv bc 0 (.int .i64 t.st) Try.underlying3 ?_)
   | ((with_reducible refine gLd 22 ?_); refine ldC hv bc 5 (.int .u32 t.una) Try.underlying22 ?_)
   | ((with_reducible refine gLd 22 ?_); refine ldC hv bc 6 (.int .u32 t.nx) Try.underlying22 ?_)
   | ((with_reducible refine gLd 4 ?_); refine ldC hv bc 10 (.bool t.se) Try.underlying4 ?_)
   | ((with_reducible refine gLd 23 ?_); refine ldC hv bc 7 (.slice da dn dk) Try.underlying23 ?_)
   | (go_at_call 44; (refine (snn18 (CM.of (A := []) (c := ⟨t, out⟩) hv HI.out HO.out) HL.out).mono ?_); rintro e w1 ⟨R1, rfl, hc1⟩; obtain ⟨da1, dn1, dk1, ba1, bn1, bk1, pa1, pn1, pk1, l1, ov1, gs1, O1, hv1, hI1, hO1⟩ := CM.back (A := []) hc1; clear hv hc1; have hv : Mem w0 _ ([] ++ (bc, #[.int .i64 t.st, .int .i64 t.lo, .int .u32 t.ip, .int .i64 t.po, .int .u32 t.iss, .int .u32 t.una, .int .u32 t.nx, .slice da1 dn1 dk1, .int .i64 t.wnd, .bool t.en, .bool t.se, .int .u32 t.inn.next, .slice ba1 bn1 bk1, .slice pa1 pn1 pk1, .bool t.ed, .int .u64 t.tm, .int .i64 t.rto, .int .i64 t.tr, .int .i64 t.er, .int .u64 nw, ov1]) :: (O1 ++ L)) _ := hv1; clear hv1; have HI1 := Lib.hid hI1; have HO1 := Lib.hid hO1; clear hI1 hO1; simp only [List.cons_append, List.nil_append] at hv))
 go_end0
 exact ⟨R1, rfl, CM.of (A := []) (c := send 18 t.una [] ⟨t, out⟩) (hv.keep (by exact List.sublist_append_right [] _)) HI1.out HO1.out⟩
theorem again_own (hc : CM w0 w bc L R nw ⟨t, out⟩) (hl : out.length ≤ 1000) (h1 : t.st ≠ 1) (h2 : t.st ≠ 2) (h3 : 0 < own t) (h4 : own t ≤ t.data.length) (hd : t.data.length ≤ 256) : Calls Try.prog 47 #[.pointer (some ⟨bc, 0, none⟩)] w (CMP w0 bc L R nw (.tuple #[]) (again ⟨t, out⟩)) := by
 obtain ⟨da, dn, dk, ba, bn, bk, pa, pn, pk, l, ov, gs, O, hv, HI, HO⟩ := hc.get
 clear hc
 have HL := Lib.hid hl
 have hdn : t.data.length = dn := len_rd1 (hv.rd HI.out.d)
 have HB3 : Hid (dn ≤ dk) := Lib.hid (by
   obtain ⟨_, _, _, e, _, g, _⟩ := hv.rd HI.out.d
   cases e; exact g)
 obtain ⟨h, hh⟩ : ∃ h, min (own t).toNat 64 = h := ⟨_, rfl⟩
 have e0 : (t.data.drop 0).take (h - 0) = t.data.take h := by rw [List.drop_zero, Nat.sub_zero]
 have e : again ⟨t, out⟩ = send 24 t.una ((t.data.drop 0).take (h - 0)) ⟨t, out⟩ := by unfold again; rw [if_neg h1, if_neg h2, if_pos h3, hh, e0]
 rw [e]
 obtain ⟨o, ho⟩ : ∃ o : Nat, ownN t.nx t.una t.se = (o : Int) := ⟨(own t).toNat, by rw [own_N] at h3 ⊢; omega⟩
 have ho2 : own t = (o : Int) := ho
 have hop : 0 < o := by omega
 have hoi : (0 : Int) < (o : Int) := by omega
 have hm : min (o : Int) 64 = (h : Int) := by omega
 have HB1 : Hid (0 ≤ h) := Lib.hid (Nat.zero_le _)
 have HB2 : Hid (h ≤ dn) := Lib.hid (by omega)
 have HHC : Hid (h ≤ dk) := Lib.hid (Nat.le_trans HB2.out HB3.out)
 have HDL : Hid (((t.data.drop 0).take (h - 0)).length ≤ 1000) := Lib.hid (by rw [List.length_take, List.length_drop]; omega)
 obtain ⟨za, zn, zk, hz⟩ : ∃ za zn zk, sliced da 0 h dk 1 = .slice za zn zk := ⟨_, _, _, rfl⟩
 have HSL := Lib.hid hz
 have y1 : ((t.st : Int) == 1) = false := by rw [beq_eq_false_iff_ne]; omega
 have y2 : ((t.st : Int) == 2) = false := by rw [beq_eq_false_iff_ne]; omega
 clear h1 h2 h3 h4 hd hl hh e0 e hz ho2 hop hdn
 go_enter Try.func47, Try.ntmps47
 go_wp2_with (first
   | ((with_reducible refine at_load (T := 31) ?_); refine wl_ldp rfl bc 0 rfl _ hv.vars.ro 19 _ Try.underlying31 rfl infoT19 (by decide) (by show 0 + 19 ≤ 21; decide) (#[.int .i64 t.st, .int .i64 t.lo, .int .u32 t.ip, .int .i64 t.po, .int .u32 t.iss, .int .u32 t.una, .int .u32 t.nx, .slice da dn dk, .int .i64 t.wnd, .bool t.en, .bool t.se, .int .u32 t.inn.next, .slice ba bn bk, .slice pa pn pk, .bool t.ed, .int .u64 t.tm, .int .i64 t.rto, .int .i64 t.tr, .int .i64 t.er]) (ext21 _ _ _ _ _ _ _ _ _ _ _ _ _ _ _ _ _ _ _ _ _) ?_)
   | (go_at_call 56; (with_reducible refine (own_v _ _ _ _ _ _ _ _ _ _ _ _ _ _ _ _ _ _ _ _).mono ?_); rintro e w1 ⟨rfl, hn1⟩; replace hv := hv.new hn1; clear hn1)
   | (go_at_call 57; (with_reducible refine (flight_v _ _ _ _ _ _ _ _ _ _ _ _ _ _ _ _ _ _ _ _).mono ?_); rintro e w1 ⟨rfl, hn1⟩; replace hv := hv.new hn1; clear hn1)
   | ((with_reducible refine gLd 3 ?_); refine ldC hv bc 0 (.int .i64 t.st) Try.underlying3 ?_)
   | ((with_reducible refine gLd 22 ?_); refine ldC hv bc 5 (.int .u32 t.una) Try.underlying22 ?_)
   | ((with_reducible refine gLd 22 ?_); refine ldC hv bc 6 (.int .u32 t.nx) Try.underlying22 ?_)
   | ((with_reducible refine gLd 4 ?_); refine ldC hv bc 10 (.bool t.se) Try.underlying4 ?_)
   | ((with_reducible refine gLd 23 ?_); refine ldC hv bc 7 (.slice da dn dk) Try.underlying23 ?_))
 replace hv : Mem w0 _ ([(bc, _)] ++ (O ++ L)) _ := hv
 refine Any.wp_region_cut 14 [⟨[], none⟩, ⟨[], none⟩, ⟨[], none⟩, ⟨[], none⟩, ⟨[], none⟩, ⟨[1000], none⟩, ⟨[], none⟩, ⟨[], none⟩, ⟨[], none⟩, ⟨[], none⟩, ⟨[1000], none⟩, ⟨[], none⟩, ⟨[], none⟩, ⟨[], none⟩, ⟨[], none⟩] [.val, .val, .val, .val, .val, .val, .val, .val, .val, .val, .val, .val, .val, .val] (by kernel_rfl) (by kernel_rfl) (hv.vars.keep (List.sublist_append_left [(bc, #[.int .i64 t.st, .int .i64 t.lo, .int .u32 t.ip, .int .i64 t.po, .int .u32 t.iss, .int .u32 t.una, .int .u32 t.nx, .slice da dn dk, .int .i64 t.wnd, .bool t.en, .bool t.se, .int .u32 t.inn.next, .slice ba bn bk, .slice pa pn pk, .bool t.ed, .int .u64 t.tm, .int .i64 t.rto, .int .i64 t.tr, .int .i64 t.er, .int .u64 nw, ov])] (O ++ L))) ?_
 simp only [Any.someVals, List.take_succ_cons, List.take_zero]
 iterate 14 apply Exists.intro
 repeat (first
   | (refine Any.E_off rfl ?_; simp only [Act.put, sia, scs, scz])
   | (apply Any.E_pureq rfl rfl rfl
      case h => intro K hK; go_big_quiet_op; (refine hK _ ?_; rfl)
      case hr => exact fun _ => rfl
      simp only [Act.put, sia, scs, scz])
   | (apply Any.E_val rfl rfl rfl rfl
      case h =>
        intro E' hA K hK
        first
          | ((with_reducible refine Any.at_qload (T := 22) ?_); refine Any.q_ldc 1000 hA (by decide) rfl rfl _ Try.underlying22 rfl (.int .u32 t.una) rfl ?_; refine hK _ ?_; rfl)
          | ((with_reducible refine Any.at_qload (T := 23) ?_); refine Any.q_ldc 1000 hA (by decide) rfl rfl _ Try.underlying23 rfl (.slice da dn dk) rfl ?_; refine hK _ ?_; rfl)
          | ((with_reducible refine Any.at_qslice (T := 23) ?_); refine Any.q_slice rfl Try.underlying23 infoB1 none (some (.int .i64 h)) none rfl rfl rfl 0 h dk (fun w => bounds_h HHC.out) HSL.out ?_; refine hK _ ?_; rfl)
          | (go_big_quiet_op; first
            | (refine hK _ ?_; rfl)
            | (refine ⟨_, fun _ _ => rfl, ?_⟩; refine hK _ ?_; rfl)
            | (apply Exists.intro; refine ⟨fun w1 hw1 => ?_, ?_⟩; · (first
                | fail)
               refine hK _ ?_; rfl))
      case hD => rfl
      simp only [Act.put, sia, scs, scz])
   | ((with_reducible refine Any.at_ealloc ?_); refine Any.E_lay rfl rfl rfl (fun _ => rfl) ?_; intro B; simp only [Act.put, sia, scs, scz]))
 try any_goals exact undef
 refine Any.E_nil ?_
 intro w9 hE9
 replace hv : Mem w0 w9 ([(bc, #[.int .i64 t.st, .int .i64 t.lo, .int .u32 t.ip, .int .i64 t.po, .int .u32 t.iss, .int .u32 t.una, .int .u32 t.nx, .slice da dn dk, .int .i64 t.wnd, .bool t.en, .bool t.se, .int .u32 t.inn.next, .slice ba bn bk, .slice pa pn pk, .bool t.ed, .int .u64 t.tm, .int .i64 t.rto, .int .i64 t.tr, .int .i64 t.er, .int .u64 nw, ov])] ++ (O ++ L)) _ := hE9.memr (L1 := [(bc, #[.int .i64 t.st, .int .i64 t.lo, .int .u32 t.ip, .int .i64 t.po, .int .u32 t.iss, .int .u32 t.una, .int .u32 t.nx, .slice da dn dk, .int .i64 t.wnd, .bool t.en, .bool t.se, .int .u32 t.inn.next, .slice ba bn bk, .slice pa pn pk, .bool t.ed, .int .u64 t.tm, .int .i64 t.rto, .int .i64 t.tr, .int .i64 t.er, .int .u64 nw, ov])]) hv [1000] (by decide)
 clear hE9
 have hv2 := hv.sliced HI.out.d (l := 0) (h := h) (m := dk) HB1.out HB2.out (Nat.le_trans HB2.out HB3.out) (Nat.le_refl _)
 rw [HSL.out, cells_part] at hv2
 refine Any.wpOp_callv rfl rfl (Go.Proofs.enters_of Try.func44 (by kernel_rfl) rfl) rfl [.pointer (some ⟨bc, 0, none⟩), .int .i64 24, .int .u32 t.una, .slice za zn zk] rfl ?_
 refine (snd24 (CM.of (A := []) (O := O) (c := ⟨t, out⟩) hv2 (HI.out.mono fun x hx => Mem.s hx) (HO.out.mono fun x hx => Mem.s hx)) HL.out Mem.z HDL.out).mono ?_
 rintro e w1 ⟨R1, rfl, hc1⟩
 obtain ⟨da1, dn1, dk1, ba1, bn1, bk1, pa1, pn1, pk1, l1, ov1, gs1, O1, hv1, hI1, hO1⟩ := CM.back (A := []) hc1
 clear hv hv2 hc1
 have hv : Mem w0 _ ((bc, #[.int .i64 t.st, .int .i64 t.lo, .int .u32 t.ip, .int .i64 t.po, .int .u32 t.iss, .int .u32 t.una, .int .u32 t.nx, .slice da1 dn1 dk1, .int .i64 t.wnd, .bool t.en, .bool t.se, .int .u32 t.inn.next, .slice ba1 bn1 bk1, .slice pa1 pn1 pk1, .bool t.ed, .int .u64 t.tm, .int .i64 t.rto, .int .i64 t.tr, .int .i64 t.er, .int .u64 nw, ov1]) :: (O1 ++ L)) _ := hv1
 clear hv1
 have HI1 := Lib.hid hI1
 have HO1 := Lib.hid hO1
 clear hI1 hO1
 refine ⟨_, rfl, ?_⟩
 replace hv : Mem w0 _ ([(bc, _)] ++ (O1 ++ L)) _ := hv
 refine Any.wpAny_rest 15 [] [] (by kernel_rfl) (hv.vars.keep (List.sublist_append_left [(bc, #[.int .i64 t.st, .int .i64 t.lo, .int .u32 t.ip, .int .i64 t.po, .int .u32 t.iss, .int .u32 t.una, .int .u32 t.nx, .slice da1 dn1 dk1, .int .i64 t.wnd, .bool t.en, .bool t.se, .int .u32 t.inn.next, .slice ba1 bn1 bk1, .slice pa1 pn1 pk1, .bool t.ed, .int .u64 t.tm, .int .i64 t.rto, .int .i64 t.tr, .int .i64 t.er, .int .u64 nw, ov1])] (O1 ++ L))) ?_
 simp only [List.length_cons, List.length_nil, Nat.zero_add, Nat.reduceAdd, Nat.reduceSub, Any.someVals, List.drop_succ_cons, List.drop_zero]
 simp only [Act.put, sia, scs, scz]
 iterate 0 apply Exists.intro
 repeat (first
   | (refine Any.E_off rfl ?_; simp only [Act.put, sia, scs, scz])
   | (apply Any.E_pureq rfl rfl rfl
      case h => intro K hK; go_big_quiet_op; (refine hK _ ?_; rfl)
      case hr => exact fun _ => rfl
      simp only [Act.put, sia, scs, scz])
   | (apply Any.E_val rfl rfl rfl rfl
      case h =>
        intro E' hA K hK
        first
          | ((with_reducible refine Any.at_qload (T := 22) ?_); refine Any.q_ldc 1000 hA (by decide) rfl rfl _ Try.underlying22 rfl (.int .u32 t.una) rfl ?_; refine hK _ ?_; rfl)
          | ((with_reducible refine Any.at_qload (T := 23) ?_); refine Any.q_ldc 1000 hA (by decide) rfl rfl _ Try.underlying23 rfl (.slice da dn dk) rfl ?_; refine hK _ ?_; rfl)
          | ((with_reducible refine Any.at_qslice (T := 23) ?_); refine Any.q_slice rfl Try.underlying23 infoB1 none (some (.int .i64 h)) none rfl rfl rfl 0 h dk (fun w => bounds_h HHC.out) HSL.out ?_; refine hK _ ?_; rfl)
          | (go_big_quiet_op; first
            | (refine hK _ ?_; rfl)
            | (refine ⟨_, fun _ _ => rfl, ?_⟩; refine hK _ ?_; rfl)
            | (apply Exists.intro; refine ⟨fun w1 hw1 => ?_, ?_⟩; · (first
                | fail)
               refine hK _ ?_; rfl))
      case hD => rfl
      simp only [Act.put, sia, scs, scz])
   | ((with_reducible refine Any.at_ealloc ?_); refine Any.E_lay rfl rfl rfl (fun _ => rfl) ?_; intro B; simp only [Act.put, sia, scs, scz]))
 try any_goals exact undef
 refine Any.E_nil ?_
 intro w9 hE9
 replace hv : Mem w0 w9 ([(bc, #[.int .i64 t.st, .int .i64 t.lo, .int .u32 t.ip, .int .i64 t.po, .int .u32 t.iss, .int .u32 t.una, .int .u32 t.nx, .slice da1 dn1 dk1, .int .i64 t.wnd, .bool t.en, .bool t.se, .int .u32 t.inn.next, .slice ba1 bn1 bk1, .slice pa1 pn1 pk1, .bool t.ed, .int .u64 t.tm, .int .i64 t.rto, .int .i64 t.tr, .int .i64 t.er, .int .u64 nw, ov1])] ++ (O1 ++ L)) _ := hE9.memr0 (L1 := [(bc, #[.int .i64 t.st, .int .i64 t.lo, .int .u32 t.ip, .int .i64 t.po, .int .u32 t.iss, .int .u32 t.una, .int .u32 t.nx, .slice da1 dn1 dk1, .int .i64 t.wnd, .bool t.en, .bool t.se, .int .u32 t.inn.next, .slice ba1 bn1 bk1, .slice pa1 pn1 pk1, .bool t.ed, .int .u64 t.tm, .int .i64 t.rto, .int .i64 t.tr, .int .i64 t.er, .int .u64 nw, ov1])]) hv [1000] (by decide)
 clear hE9
 simp only [List.cons_append, List.nil_append] at hv
 go_wp2
 go_end0
 exact CMP.addR (x := (1, .slice za zn zk, cellsB ((t.data.drop 0).take (h - 0)))) ⟨R1, rfl, CM.of (A := []) (O := O1) (c := send 24 t.una ((t.data.drop 0).take (h - 0)) ⟨t, out⟩) hv HI1.out HO1.out⟩
theorem again_fin (hc : CM w0 w bc L R nw ⟨t, out⟩) (hl : out.length ≤ 1000) (h1 : t.st ≠ 1) (h2 : t.st ≠ 2) (h3 : ¬ 0 < own t) (h4 : t.se = true) (h5 : 0 < flight t) : Calls Try.prog 47 #[.pointer (some ⟨bc, 0, none⟩)] w (CMP w0 bc L R nw (.tuple #[]) (again ⟨t, out⟩)) := by
 obtain ⟨da, dn, dk, ba, bn, bk, pa, pn, pk, l, ov, gs, O, hv, HI, HO⟩ := hc.get
 clear hc
 have HL := Lib.hid hl
 have e : again ⟨t, out⟩ = send 17 t.una [] ⟨t, out⟩ := by unfold again; rw [if_neg h1, if_neg h2, if_neg h3, if_pos ⟨h4, h5⟩]
 rw [e]
 obtain ⟨o, ho⟩ : ∃ o : Int, ownN t.nx t.una t.se = o := ⟨_, rfl⟩
 have ho2 : own t = o := ho
 have hoi : ¬ (0 : Int) < o := by omega
 have h6 : 0 < dif t.nx t.una := h5
 rw [h4] at ho
 have y1 : ((t.st : Int) == 1) = false := by rw [beq_eq_false_iff_ne]; omega
 have y2 : ((t.st : Int) == 2) = false := by rw [beq_eq_false_iff_ne]; omega
 clear h1 h2 h3 h5 hl e ho2
 go_enter Try.func47, Try.ntmps47
 go_wp2_with (first
   | ((with_reducible refine at_load (T := 31) ?_); refine wl_ldp rfl bc 0 rfl _ hv.vars.ro 19 _ Try.underlying31 rfl infoT19 (by decide) (by show 0 + 19 ≤ 21; decide) (#[.int .i64 t.st, .int .i64 t.lo, .int .u32 t.ip, .int .i64 t.po, .int .u32 t.iss, .int .u32 t.una, .int .u32 t.nx, .slice da dn dk, .int .i64 t.wnd, .bool t.en, .bool t.se, .int .u32 t.inn.next, .slice ba bn bk, .slice pa pn pk, .bool t.ed, .int .u64 t.tm, .int .i64 t.rto, .int .i64 t.tr, .int .i64 t.er]) (ext21 _ _ _ _ _ _ _ _ _ _ _ _ _ _ _ _ _ _ _ _ _) ?_)
   | (go_at_call 56; (with_reducible refine (own_v _ _ _ _ _ _ _ _ _ _ _ _ _ _ _ _ _ _ _ _).mono ?_); rintro e w1 ⟨rfl, hn1⟩; replace hv := hv.new hn1; clear hn1)
   | (go_at_call 57; (with_reducible refine (flight_v _ _ _ _ _ _ _ _ _ _ _ _ _ _ _ _ _ _ _ _).mono ?_); rintro e w1 ⟨rfl, hn1⟩; replace hv := hv.new hn1; clear hn1)
   | ((with_reducible refine gLd 3 ?_); refine ldC hv bc 0 (.int .i64 t.st) Try.underlying3 ?_)
   | ((with_reducible refine gLd 22 ?_); refine ldC hv bc 5 (.int .u32 t.una) Try.underlying22 ?_)
   | ((with_reducible refine gLd 22 ?_); refine ldC hv bc 6 (.int .u32 t.nx) Try.underlying22 ?_)
   | ((with_reducible refine gLd 4 ?_); refine ldC hv bc 10 (.bool t.se) Try.underlying4 ?_)
   | ((with_reducible refine gLd 23 ?_); refine ldC hv bc 7 (.slice da dn dk) Try.underlying23 ?_)
   | (go_at_call 44; (refine (snn17 (CM.of (A := []) (c := ⟨t, out⟩) hv HI.out HO.out) HL.out).mono ?_); rintro e w1 ⟨R1, rfl, hc1⟩; obtain ⟨da1, dn1, dk1, ba1, bn1, bk1, pa1, pn1, pk1, l1, ov1, gs1, O1, hv1, hI1, hO1⟩ := CM.back (A := []) hc1; clear hv hc1; have hv : Mem w0 _ ([] ++ (bc, #[.int .i64 t.st, .int .i64 t.lo, .int .u32 t.ip, .int .i64 t.po, .int .u32 t.iss, .int .u32 t.una, .int .u32 t.nx, .slice da1 dn1 dk1, .int .i64 t.wnd, .bool t.en, .bool t.se, .int .u32 t.inn.next, .slice ba1 bn1 bk1, .slice pa1 pn1 pk1, .bool t.ed, .int .u64 t.tm, .int .i64 t.rto, .int .i64 t.tr, .int .i64 t.er, .int .u64 nw, ov1]) :: (O1 ++ L)) _ := hv1; clear hv1; have HI1 := Lib.hid hI1; have HO1 := Lib.hid hO1; clear hI1 hO1; simp only [List.cons_append, List.nil_append] at hv))
 go_end0
 exact ⟨R1, rfl, CM.of (A := []) (c := send 17 t.una [] ⟨t, out⟩) (hv.keep (by exact List.sublist_append_right [] _)) HI1.out HO1.out⟩
theorem again_one (hc : CM w0 w bc L R nw ⟨t, out⟩) (hl : out.length ≤ 1000) (h1 : t.st ≠ 1) (h2 : t.st ≠ 2) (h3 : ¬ 0 < own t) (h4 : ¬ (t.se = true ∧ 0 < flight t)) (h7 : 0 < t.data.length) (hd : t.data.length ≤ 256) : Calls Try.prog 47 #[.pointer (some ⟨bc, 0, none⟩)] w (CMP w0 bc L R nw (.tuple #[]) (again ⟨t, out⟩)) := by
 obtain ⟨da, dn, dk, ba, bn, bk, pa, pn, pk, l, ov, gs, O, hv, HI, HO⟩ := hc.get
 clear hc
 have HL := Lib.hid hl
 obtain ⟨o, ho⟩ : ∃ o : Int, ownN t.nx t.una t.se = o := ⟨_, rfl⟩
 have ho2 : own t = o := ho
 have hoi : ¬ (0 : Int) < o := by omega
 have hdn : t.data.length = dn := len_rd1 (hv.rd HI.out.d)
 have HB3 : Hid (dn ≤ dk) := Lib.hid (by
   obtain ⟨_, _, _, e, _, g, _⟩ := hv.rd HI.out.d
   cases e; exact g)
 have y1 : ((t.st : Int) == 1) = false := by rw [beq_eq_false_iff_ne]; omega
 have y2 : ((t.st : Int) == 2) = false := by rw [beq_eq_false_iff_ne]; omega
 obtain ⟨one, h1o⟩ : ∃ n : Nat, n = 1 := ⟨1, rfl⟩
 obtain ⟨x1, hx1⟩ : ∃ x, u32 (t.nx + 1) = x := ⟨_, rfl⟩
 have HX1 : Hid (x1 < 4294967296) := Lib.hid (by rw [← hx1]; exact u32_lt _)
 have e0 : (t.data.drop 0).take (one - 0) = t.data.take 1 := by rw [List.drop_zero, Nat.sub_zero, h1o]
 have e : again ⟨t, out⟩ = { t := { t with nx := x1 }, out := (send 24 t.nx ((t.data.drop 0).take (one - 0)) ⟨t, out⟩).out } := by unfold again; rw [if_neg h1, if_neg h2, if_neg h3, if_neg h4, if_pos h7, e0]; show _ = (⟨{ t with nx := x1 }, _⟩ : C); rw [← hx1]; rfl
 rw [e]
 have q9 : IntKind.u32.wrap ((t.nx : Int) + 1) = (x1 : Int) := by rw [← hx1]; unfold u32; simp [IntKind.wrap, IntKind.bits, IntKind.signed]
 have y7 : (0 : Int) < (dn : Int) := by omega
 have HB1 : Hid (0 ≤ one) := Lib.hid (Nat.zero_le _)
 have HB2 : Hid (one ≤ dn) := Lib.hid (by omega)
 have HHC : Hid (1 ≤ dk) := Lib.hid (by have := HB3.out; omega)
 have HDL : Hid (((t.data.drop 0).take (one - 0)).length ≤ 1000) := Lib.hid (by rw [List.length_take, List.length_drop]; omega)
 obtain ⟨za, zn, zk, hz⟩ : ∃ za zn zk, sliced da 0 one dk 1 = .slice za zn zk := ⟨_, _, _, rfl⟩
 subst h1o
 have HSL := Lib.hid hz
 clear h1 h2 h3 h7 hd hl e0 e hz ho2 hdn hx1
 have h6 : t.se = true → ¬ 0 < dif t.nx t.una := fun h5 h => h4 ⟨h5, h⟩
 clear h4
 rcases Bool.eq_false_or_eq_true t.se with h5 | h5
 all_goals rw [h5] at ho
 all_goals first
   | replace h6 := h6 h5
   | clear h6
 all_goals
   go_enter Try.func47, Try.ntmps47
   go_wp2_with (first
     | ((with_reducible refine at_load (T := 31) ?_); refine wl_ldp rfl bc 0 rfl _ hv.vars.ro 19 _ Try.underlying31 rfl infoT19 (by decide) (by show 0 + 19 ≤ 21; decide) (#[.int .i64 t.st, .int .i64 t.lo, .int .u32 t.ip, .int .i64 t.po, .int .u32 t.iss, .int .u32 t.una, .int .u32 t.nx, .slice da dn dk, .int .i64 t.wnd, .bool t.en, .bool t.se, .int .u32 t.inn.next, .slice ba bn bk, .slice pa pn pk, .bool t.ed, .int .u64 t.tm, .int .i64 t.rto, .int .i64 t.tr, .int .i64 t.er]) (ext21 _ _ _ _ _ _ _ _ _ _ _ _ _ _ _ _ _ _ _ _ _) ?_)
     | (go_at_call 56; (with_reducible refine (own_v _ _ _ _ _ _ _ _ _ _ _ _ _ _ _ _ _ _ _ _).mono ?_); rintro e w1 ⟨rfl, hn1⟩; replace hv := hv.new hn1; clear hn1)
     | (go_at_call 57; (with_reducible refine (flight_v _ _ _ _ _ _ _ _ _ _ _ _ _ _ _ _ _ _ _ _).mono ?_); rintro e w1 ⟨rfl, hn1⟩; replace hv := hv.new hn1; clear hn1)
     | ((with_reducible refine gLd 3 ?_); refine ldC hv bc 0 (.int .i64 t.st) Try.underlying3 ?_)
     | ((with_reducible refine gLd 22 ?_); refine ldC hv bc 5 (.int .u32 t.una) Try.underlying22 ?_)
     | ((with_reducible refine gLd 22 ?_); refine ldC hv bc 6 (.int .u32 t.nx) Try.underlying22 ?_)
     | ((with_reducible refine gLd 4 ?_); refine ldC hv bc 10 (.bool t.se) Try.underlying4 ?_)
     | ((with_reducible refine gLd 23 ?_); refine ldC hv bc 7 (.slice da dn dk) Try.underlying23 ?_))
   replace hv : Mem w0 _ ([(bc, _)] ++ (O ++ L)) _ := hv
   refine Any.wp_region_cut 12 [⟨[], none⟩, ⟨[], none⟩, ⟨[], none⟩, ⟨[], none⟩, ⟨[], none⟩, ⟨[1000], none⟩, ⟨[], none⟩, ⟨[], none⟩, ⟨[], none⟩, ⟨[], none⟩, ⟨[1000], none⟩, ⟨[], none⟩, ⟨[], none⟩] [.val, .val, .val, .val, .val, .val, .val, .val, .val, .val, .val, .val] (by kernel_rfl) (by kernel_rfl) (hv.vars.keep (List.sublist_append_left [(bc, #[.int .i64 t.st, .int .i64 t.lo, .int .u32 t.ip, .int .i64 t.po, .int .u32 t.iss, .int .u32 t.una, .int .u32 t.nx, .slice da dn dk, .int .i64 t.wnd, .bool t.en, .bool t.se, .int .u32 t.inn.next, .slice ba bn bk, .slice pa pn pk, .bool t.ed, .int .u64 t.tm, .int .i64 t.rto, .int .i64 t.tr, .int .i64 t.er, .int .u64 nw, ov])] (O ++ L))) ?_
   simp only [Any.someVals, List.take_succ_cons, List.take_zero]
   iterate 12 apply Exists.intro
   repeat (first
     | (refine Any.E_off rfl ?_; simp only [Act.put, sia, scs, scz])
     | (apply Any.E_pureq rfl rfl rfl
        case h => intro K hK; go_big_quiet_op; (refine hK _ ?_; rfl)
        case hr => exact fun _ => rfl
        simp only [Act.put, sia, scs, scz])
     | (apply Any.E_val rfl rfl rfl rfl
        case h =>
          intro E' hA K hK
          first
            | ((with_reducible refine Any.at_qload (T := 22) ?_); refine Any.q_ldc 1000 hA (by decide) rfl rfl _ Try.underlying22 rfl (.int .u32 t.nx) rfl ?_; refine hK _ ?_; rfl)
            | ((with_reducible refine Any.at_qload (T := 23) ?_); refine Any.q_ldc 1000 hA (by decide) rfl rfl _ Try.underlying23 rfl (.slice da dn dk) rfl ?_; refine hK _ ?_; rfl)
            | ((with_reducible refine Any.at_qslice (T := 23) ?_); refine Any.q_slice rfl Try.underlying23 infoB1 none (some (.int .i64 1)) none rfl rfl rfl 0 1 dk (fun w => bounds_h1 HHC.out) HSL.out ?_; refine hK _ ?_; rfl)
            | (go_big_quiet_op; first
              | (refine hK _ ?_; rfl)
              | (refine ⟨_, fun _ _ => rfl, ?_⟩; refine hK _ ?_; rfl)
              | (apply Exists.intro; refine ⟨fun w1 hw1 => ?_, ?_⟩; · (first
                  | fail)
                 refine hK _ ?_; rfl))
        case hD => rfl
        simp only [Act.put, sia, scs, scz])
     | ((with_reducible refine Any.at_ealloc ?_); refine Any.E_lay rfl rfl rfl (fun _ => rfl) ?_; intro B; simp only [Act.put, sia, scs, scz]))
   try any_goals exact undef
   refine Any.E_nil ?_
   intro w9 hE9
   replace hv : Mem w0 w9 ([(bc, #[.int .i64 t.st, .int .i64 t.lo, .int .u32 t.ip, .int .i64 t.po, .int .u32 t.iss, .int .u32 t.una, .int .u32 t.nx, .slice da dn dk, .int .i64 t.wnd, .bool t.en, .bool t.se, .int .u32 t.inn.next, .slice ba bn bk, .slice pa pn pk, .bool t.ed, .int .u64 t.tm, .int .i64 t.rto, .int .i64 t.tr, .int .i64 t.er, .int .u64 nw, ov])] ++ (O ++ L)) _ := hE9.memr (L1 := [(bc, #[.int .i64 t.st, .int .i64 t.lo, .int .u32 t.ip, .int .i64 t.po, .int .u32 t.iss, .int .u32 t.una, .int .u32 t.nx, .slice da dn dk, .int .i64 t.wnd, .bool t.en, .bool t.se, .int .u32 t.inn.next, .slice ba bn bk, .slice pa pn pk, .bool t.ed, .int .u64 t.tm, .int .i64 t.rto, .int .i64 t.tr, .int .i64 t.er, .int .u64 nw, ov])]) hv [1000] (by decide)
   clear hE9
   have hv2 := hv.sliced HI.out.d (l := 0) (h := 1) (m := dk) HB1.out HB2.out (Nat.le_trans HB2.out HB3.out) (Nat.le_refl _)
   rw [HSL.out, cells_part] at hv2
   refine Any.wpOp_callv rfl rfl (Go.Proofs.enters_of Try.func44 (by kernel_rfl) rfl) rfl [.pointer (some ⟨bc, 0, none⟩), .int .i64 24, .int .u32 t.nx, .slice za zn zk] rfl ?_
   refine (snd24 (CM.of (A := []) (O := O) (c := ⟨t, out⟩) hv2 (HI.out.mono fun x hx => Mem.s hx) (HO.out.mono fun x hx => Mem.s hx)) HL.out Mem.z HDL.out).mono ?_
   rintro e w1 ⟨R1, rfl, hc1⟩
   obtain ⟨da1, dn1, dk1, ba1, bn1, bk1, pa1, pn1, pk1, l1, ov1, gs1, O1, hv1, hI1, hO1⟩ := CM.back (A := []) hc1
   clear hv hv2 hc1
   have hv : Mem w0 _ ((bc, #[.int .i64 t.st, .int .i64 t.lo, .int .u32 t.ip, .int .i64 t.po, .int .u32 t.iss, .int .u32 t.una, .int .u32 t.nx, .slice da1 dn1 dk1, .int .i64 t.wnd, .bool t.en, .bool t.se, .int .u32 t.inn.next, .slice ba1 bn1 bk1, .slice pa1 pn1 pk1, .bool t.ed, .int .u64 t.tm, .int .i64 t.rto, .int .i64 t.tr, .int .i64 t.er, .int .u64 nw, ov1]) :: (O1 ++ L)) _ := hv1
   clear hv1
   have HI1 := Lib.hid hI1
   have HO1 := Lib.hid hO1
   clear hI1 hO1
   refine ⟨_, rfl, ?_⟩
   replace hv : Mem w0 _ ([(bc, _)] ++ (O1 ++ L)) _ := hv
   refine Any.wpAny_rest 13 [] [] (by kernel_rfl) (hv.vars.keep (List.sublist_append_left [(bc, #[.int .i64 t.st, .int .i64 t.lo, .int .u32 t.ip, .int .i64 t.po, .int .u32 t.iss, .int .u32 t.una, .int .u32 t.nx, .slice da1 dn1 dk1, .int .i64 t.wnd, .bool t.en, .bool t.se, .int .u32 t.inn.next, .slice ba1 bn1 bk1, .slice pa1 pn1 pk1, .bool t.ed, .int .u64 t.tm, .int .i64 t.rto, .int .i64 t.tr, .int .i64 t.er, .int .u64 nw, ov1])] (O1 ++ L))) ?_
   simp only [List.length_cons, List.length_nil, Nat.zero_add, Nat.reduceAdd, Nat.reduceSub, Any.someVals, List.drop_succ_cons, List.drop_zero]
   simp only [Act.put, sia, scs, scz]
   iterate 0 apply Exists.intro
   repeat (first
     | (refine Any.E_off rfl ?_; simp only [Act.put, sia, scs, scz])
     | (apply Any.E_pureq rfl rfl rfl
        case h => intro K hK; go_big_quiet_op; (refine hK _ ?_; rfl)
        case hr => exact fun _ => rfl
        simp only [Act.put, sia, scs, scz])
     | (apply Any.E_val rfl rfl rfl rfl
        case h =>
          intro E' hA K hK
          first
            | ((with_reducible refine Any.at_qload (T := 22) ?_); refine Any.q_ldc 1000 hA (by decide) rfl rfl _ Try.underlying22 rfl (.int .u32 t.nx) rfl ?_; refine hK _ ?_; rfl)
            | ((with_reducible refine Any.at_qload (T := 23) ?_); refine Any.q_ldc 1000 hA (by decide) rfl rfl _ Try.underlying23 rfl (.slice da dn dk) rfl ?_; refine hK _ ?_; rfl)
            | ((with_reducible refine Any.at_qslice (T := 23) ?_); refine Any.q_slice rfl Try.underlying23 infoB1 none (some (.int .i64 1)) none rfl rfl rfl 0 1 dk (fun w => bounds_h1 HHC.out) HSL.out ?_; refine hK _ ?_; rfl)
            | (go_big_quiet_op; first
              | (refine hK _ ?_; rfl)
              | (refine ⟨_, fun _ _ => rfl, ?_⟩; refine hK _ ?_; rfl)
              | (apply Exists.intro; refine ⟨fun w1 hw1 => ?_, ?_⟩; · (first
                  | fail)
                 refine hK _ ?_; rfl))
        case hD => rfl
        simp only [Act.put, sia, scs, scz])
     | ((with_reducible refine Any.at_ealloc ?_); refine Any.E_lay rfl rfl rfl (fun _ => rfl) ?_; intro B; simp only [Act.put, sia, scs, scz]))
   try any_goals exact undef
   refine Any.E_nil ?_
   intro w9 hE9
   replace hv : Mem w0 w9 ([(bc, #[.int .i64 t.st, .int .i64 t.lo, .int .u32 t.ip, .int .i64 t.po, .int .u32 t.iss, .int .u32 t.una, .int .u32 t.nx, .slice da1 dn1 dk1, .int .i64 t.wnd, .bool t.en, .bool t.se, .int .u32 t.inn.next, .slice ba1 bn1 bk1, .slice pa1 pn1 pk1, .bool t.ed, .int .u64 t.tm, .int .i64 t.rto, .int .i64 t.tr, .int .i64 t.er, .int .u64 nw, ov1])] ++ (O1 ++ L)) _ := hE9.memr0 (L1 := [(bc, #[.int .i64 t.st, .int .i64 t.lo, .int .u32 t.ip, .int .i64 t.po, .int .u32 t.iss, .int .u32 t.una, .int .u32 t.nx, .slice da1 dn1 dk1, .int .i64 t.wnd, .bool t.en, .bool t.se, .int .u32 t.inn.next, .slice ba1 bn1 bk1, .slice pa1 pn1 pk1, .bool t.ed, .int .u64 t.tm, .int .i64 t.rto, .int .i64 t.tr, .int .i64 t.er, .int .u64 nw, ov1])]) hv [1000] (by decide)
   clear hE9
   simp only [List.cons_append, List.nil_append] at hv
   go_wp2_with (first
     | ((with_reducible refine gLd 22 ?_); refine ldC hv bc 6 (.int .u32 t.nx) Try.underlying22 ?_)
     | ((with_reducible refine gSt 22 ?_); refine stC hv bc 6 (.int .u32 x1) ?_; clear hv; intro w2 hv))
   go_end0
   exact CMP.addR (x := (1, .slice za zn zk, cellsB ((t.data.drop 0).take (1 - 0)))) ⟨R1, rfl, CM.of (A := []) (O := O1) (c := { t := { t with nx := x1 }, out := (send 24 t.nx ((t.data.drop 0).take (1 - 0)) ⟨t, out⟩).out }) hv ⟨HI1.out.d, HI1.out.s, HI1.out.ck, ⟨HI1.out.u.una, HX1.out, HI1.out.u.iss, HI1.out.u.inn, HI1.out.u.ip⟩⟩ HO1.out⟩
theorem again_zero (hc : CM w0 w bc L R nw ⟨t, out⟩) (hl : out.length ≤ 1000) (h1 : t.st ≠ 1) (h2 : t.st ≠ 2) (h3 : ¬ 0 < own t) (h4 : ¬ (t.se = true ∧ 0 < flight t)) (h7 : ¬ 0 < t.data.length) : Calls Try.prog 47 #[.pointer (some ⟨bc, 0, none⟩)] w (CMP w0 bc L R nw (.tuple #[]) (again ⟨t, out⟩)) := by
 obtain ⟨da, dn, dk, ba, bn, bk, pa, pn, pk, l, ov, gs, O, hv, HI, HO⟩ := hc.get
 clear hc
 have HL := Lib.hid hl
 obtain ⟨o, ho⟩ : ∃ o : Int, ownN t.nx t.una t.se = o := ⟨_, rfl⟩
 have ho2 : own t = o := ho
 have hoi : ¬ (0 : Int) < o := by omega
 have hdn : t.data.length = dn := len_rd1 (hv.rd HI.out.d)
 have HB3 : Hid (dn ≤ dk) := Lib.hid (by
   obtain ⟨_, _, _, e, _, g, _⟩ := hv.rd HI.out.d
   cases e; exact g)
 have y1 : ((t.st : Int) == 1) = false := by rw [beq_eq_false_iff_ne]; omega
 have y2 : ((t.st : Int) == 2) = false := by rw [beq_eq_false_iff_ne]; omega
 have e : again ⟨t, out⟩ = ⟨{ t with tm := 0 }, out⟩ := by unfold again; rw [if_neg h1, if_neg h2, if_neg h3, if_neg h4, if_neg h7]
 rw [e]
 have y7 : ¬ (0 : Int) < (dn : Int) := by omega
 clear h1 h2 h3 h7 hl e ho2 hdn
 have h6 : t.se = true → ¬ 0 < dif t.nx t.una := fun h5 h => h4 ⟨h5, h⟩
 clear h4
 rcases Bool.eq_false_or_eq_true t.se with h5 | h5
 all_goals rw [h5] at ho
 all_goals first
   | replace h6 := h6 h5
   | clear h6
 all_goals
   go_enter Try.func47, Try.ntmps47
   go_wp2_with (first
     | ((with_reducible refine at_load (T := 31) ?_); refine wl_ldp rfl bc 0 rfl _ hv.vars.ro 19 _ Try.underlying31 rfl infoT19 (by decide) (by show 0 + 19 ≤ 21; decide) (#[.int .i64 t.st, .int .i64 t.lo, .int .u32 t.ip, .int .i64 t.po, .int .u32 t.iss, .int .u32 t.una, .int .u32 t.nx, .slice da dn dk, .int .i64 t.wnd, .bool t.en, .bool t.se, .int .u32 t.inn.next, .slice ba bn bk, .slice pa pn pk, .bool t.ed, .int .u64 t.tm, .int .i64 t.rto, .int .i64 t.tr, .int .i64 t.er]) (ext21 _ _ _ _ _ _ _ _ _ _ _ _ _ _ _ _ _ _ _ _ _) ?_)
     | (go_at_call 56; (with_reducible refine (own_v _ _ _ _ _ _ _ _ _ _ _ _ _ _ _ _ _ _ _ _).mono ?_); rintro e w1 ⟨rfl, hn1⟩; replace hv := hv.new hn1; clear hn1)
     | (go_at_call 57; (with_reducible refine (flight_v _ _ _ _ _ _ _ _ _ _ _ _ _ _ _ _ _ _ _ _).mono ?_); rintro e w1 ⟨rfl, hn1⟩; replace hv := hv.new hn1; clear hn1)
     | ((with_reducible refine gLd 3 ?_); refine ldC hv bc 0 (.int .i64 t.st) Try.underlying3 ?_)
     | ((with_reducible refine gLd 22 ?_); refine ldC hv bc 5 (.int .u32 t.una) Try.underlying22 ?_)
     | ((with_reducible refine gLd 22 ?_); refine ldC hv bc 6 (.int .u32 t.nx) Try.underlying22 ?_)
     | ((with_reducible refine gLd 4 ?_); refine ldC hv bc 10 (.bool t.se) Try.underlying4 ?_)
     | ((with_reducible refine gLd 23 ?_); refine ldC hv bc 7 (.slice da dn dk) Try.underlying23 ?_)
     | ((with_reducible refine gSt 28 ?_); refine stC hv bc 15 (.int .u64 0) ?_; clear hv; intro w2 hv))
   go_end0
   exact CMP.mk0 (CM.of (A := []) (O := O) (c := ⟨{ t with tm := 0 }, out⟩) hv ⟨HI.out.d, HI.out.s, HI.out.ck, ⟨HI.out.u.una, HI.out.u.nx, HI.out.u.iss, HI.out.u.inn, HI.out.u.ip⟩⟩ HO.out)
theorem again_C (hc : CM w0 w bc L R nw ⟨t, out⟩) (hl : out.length ≤ 1000) (h4 : own t ≤ t.data.length) (hd : t.data.length ≤ 256) : Calls Try.prog 47 #[.pointer (some ⟨bc, 0, none⟩)] w (CMP w0 bc L R nw (.tuple #[]) (again ⟨t, out⟩)) := by
 by_cases h1 : t.st = 1
 · exact again_s1 hc hl h1
 · by_cases h2 : t.st = 2
   · exact again_s2 hc hl h2
   · by_cases h3 : 0 < own t
     · exact again_own hc hl h1 h2 h3 h4 hd
     · by_cases h5 : t.se = true ∧ 0 < flight t
       · exact again_fin hc hl h1 h2 h3 h5.1 h5.2
       · by_cases h7 : 0 < t.data.length
         · exact again_one hc hl h1 h2 h3 h5 h7 hd
         · exact again_zero hc hl h1 h2 h3 h5 h7
end Go.Proofs.Ythenepdbgeafkaa
end

section
/-
 Connections (layer 26): what is done with one.
-/
namespace Go.Proofs.Tp
open Go Go.RowKit Go.Proofs.Wi
theorem perm_done {α : Type} (a b x : α) (O L : List α) : (x :: (O ++ (a :: b :: L))).Perm (a :: b :: x :: (O ++ L)) := by
 refine (List.perm_middle (l₁ := x :: O) (a := a) (l₂ := b :: L)).trans (List.Perm.cons _ ?_)
 exact List.perm_middle (l₁ := x :: O) (a := b) (l₂ := L)
end Go.Proofs.Tp
namespace Go.Proofs.Ythenepdbgeafkaa
open Go.Proofs.Wi Go.RowKit Go.Proofs Go.Proofs.Tp
theorem built_con (a0 a1 a2 a3 a4 a5 a6 a7 a8 a9 a10 a11 a12 a13 a14 a15 a16 a17 a18 : Value) (x : Int) : Try.prog.built 67 [(0, .agg #[a0, a1, a2, a3, a4, a5, a6, a7, a8, a9, a10, a11, a12, a13, a14, a15, a16, a17, a18]), (1, .int .u64 x)] = some #[a0, a1, a2, a3, a4, a5, a6, a7, a8, a9, a10, a11, a12, a13, a14, a15, a16, a17, a18, .int .u64 x, .slice none 0 0] := by kernel_rfl
theorem done_C {w0 w : World} {L : LV} {R : LR} (hv : Mem w0 w L R) {t : T} {da ba pa : Option Addr} {dn dk bn bk pn pk : Nat} {l : List PcV} (hI : InC R t da dn dk ba bn bk pa pn pk l) (hck : chkT t = true) {nw : Nat} {f : FuncId} {cap : Array Value} (hE : Enters Try.prog f) {K : C → LV → LR → Prop}
   (hdo : ∀ w1 bc A, CM w0 w1 bc (A ++ L) R nw ⟨t, []⟩ → Calls Try.prog f (#[.pointer (some ⟨bc, 0, none⟩)] ++ cap) w1 (DoP K w0 bc A R nw)) : Calls Try.prog 25 #[.agg #[.int .i64 t.st, .int .i64 t.lo, .int .u32 t.ip, .int .i64 t.po, .int .u32 t.iss, .int .u32 t.una, .int .u32 t.nx, .slice da dn dk, .int .i64 t.wnd, .bool t.en, .bool t.se, .int .u32 t.inn.next, .slice ba bn bk, .slice pa pn pk, .bool t.ed, .int .u64 t.tm, .int .i64 t.rto, .int .i64 t.tr, .int .i64 t.er], .int .u64 nw, .func (.func f) #[] cap] w (DoneP K w0 R) := by
 have HI := Lib.hid hI
 have HCK := Lib.hid hck
 have HE := Lib.hid hE
 have HDO := Lib.hid hdo
 clear hI hck hE hdo
 go_enter Try.func25, Try.ntmps25
 go_wp2_with (first
   | ((with_reducible refine gBx 31 3 ?_); refine nwB hv #[.int .i64 t.st, .int .i64 t.lo, .int .u32 t.ip, .int .i64 t.po, .int .u32 t.iss, .int .u32 t.una, .int .u32 t.nx, .slice da dn dk, .int .i64 t.wnd, .bool t.en, .bool t.se, .int .u32 t.inn.next, .slice ba bn bk, .slice pa pn pk, .bool t.ed, .int .u64 t.tm, .int .i64 t.rto, .int .i64 t.tr, .int .i64 t.er] 31 ?_; clear hv; intro b_3 w2 hv)
   | ((with_reducible refine gAl 31 6 ?_); refine nwB hv #[.int .i64 0, .int .i64 0, .int .u32 0, .int .i64 0, .int .u32 0, .int .u32 0, .int .u32 0, .slice none 0 0, .int .i64 0, .bool false, .bool false, .int .u32 0, .slice none 0 0, .slice none 0 0, .bool false, .int .u64 0, .int .i64 0, .int .i64 0, .int .i64 0] 31 ?_; clear hv; intro b_6 w2 hv)
   | ((with_reducible refine gLd 31 ?_); refine ldV hv b_3 19 Try.underlying31 infoT19 ?_)
   | (go_at_call 17; (with_reducible refine (Check_ok hv HI.out HCK.out).mono ?_); rintro e w1 ⟨rfl, hn1⟩; replace hv := hv.new hn1; clear hn1)
   | ((with_reducible refine at_build (T := 67) ?_); refine wl_build rfl _ rfl (built_con _ _ _ _ _ _ _ _ _ _ _ _ _ _ _ _ _ _ _ _) ?_)
   | ((with_reducible refine gBx 67 16 ?_); refine nwB hv #[.int .i64 t.st, .int .i64 t.lo, .int .u32 t.ip, .int .i64 t.po, .int .u32 t.iss, .int .u32 t.una, .int .u32 t.nx, .slice da dn dk, .int .i64 t.wnd, .bool t.en, .bool t.se, .int .u32 t.inn.next, .slice ba bn bk, .slice pa pn pk, .bool t.ed, .int .u64 t.tm, .int .i64 t.rto, .int .i64 t.tr, .int .i64 t.er, .int .u64 nw, .slice none 0 0] 67 ?_; clear hv; intro bc w2 hv)
   | ((with_reducible refine at_call ?_); have hq := HDO.out _ bc [(b_6, #[.int .i64 0, .int .i64 0, .int .u32 0, .int .i64 0, .int .u32 0, .int .u32 0, .int .u32 0, .slice none 0 0, .int .i64 0, .bool false, .bool false, .int .u32 0, .slice none 0 0, .slice none 0 0, .bool false, .int .u64 0, .int .i64 0, .int .i64 0, .int .i64 0]), (b_3, #[.int .i64 t.st, .int .i64 t.lo, .int .u32 t.ip, .int .i64 t.po, .int .u32 t.iss, .int .u32 t.una, .int .u32 t.nx, .slice da dn dk, .int .i64 t.wnd, .bool t.en, .bool t.se, .int .u32 t.inn.next, .slice ba bn bk, .slice pa pn pk, .bool t.ed, .int .u64 t.tm, .int .i64 t.rto, .int .i64 t.tr, .int .i64 t.er])] ⟨da, dn, dk, ba, bn, bk, pa, pn, pk, l, .slice none 0 0, [], [], hv, HI.out, ⟨OwnL.nil 7, fun x hx => (List.not_mem_nil hx).elim, rfl⟩⟩; refine wl_callv rfl HE.out rfl [.pointer (some ⟨bc, 0, none⟩)] rfl hq ?_; clear hq; rintro e w1 ⟨c1, L1, R1, rfl, hk1, hc1⟩; refine ⟨_, rfl, ?_⟩; obtain ⟨da1, dn1, dk1, ba1, bn1, bk1, pa1, pn1, pk1, l1, ov1, gs1, O1, hv1, hI1, hO1⟩ := hc1; clear hv; have hv : Mem w0 _ ((b_6, #[.int .i64 0, .int .i64 0, .int .u32 0, .int .i64 0, .int .u32 0, .int .u32 0, .int .u32 0, .slice none 0 0, .int .i64 0, .bool false, .bool false, .int .u32 0, .slice none 0 0, .slice none 0 0, .bool false, .int .u64 0, .int .i64 0, .int .i64 0, .int .i64 0]) :: (b_3, #[.int .i64 t.st, .int .i64 t.lo, .int .u32 t.ip, .int .i64 t.po, .int .u32 t.iss, .int .u32 t.una, .int .u32 t.nx, .slice da dn dk, .int .i64 t.wnd, .bool t.en, .bool t.se, .int .u32 t.inn.next, .slice ba bn bk, .slice pa pn pk, .bool t.ed, .int .u64 t.tm, .int .i64 t.rto, .int .i64 t.tr, .int .i64 t.er]) :: (bc, #[.int .i64 c1.t.st, .int .i64 c1.t.lo, .int .u32 c1.t.ip, .int .i64 c1.t.po, .int .u32 c1.t.iss, .int .u32 c1.t.una, .int .u32 c1.t.nx, .slice da1 dn1 dk1, .int .i64 c1.t.wnd, .bool c1.t.en, .bool c1.t.se, .int .u32 c1.t.inn.next, .slice ba1 bn1 bk1, .slice pa1 pn1 pk1, .bool c1.t.ed, .int .u64 c1.t.tm, .int .i64 c1.t.rto, .int .i64 c1.t.tr, .int .i64 c1.t.er, .int .u64 nw, ov1]) :: (O1 ++ L1)) _ := hv1.perm (perm_done _ _ _ _ _); clear hv1; have HI1 := Lib.hid hI1; have HO1 := Lib.hid hO1; have HK1 := Lib.hid hk1; clear hI1 hO1 hk1))
 try simp only [Act.put, sia, scs, scz]
 refine Any.wr3 10 [(3, [1002], none), (7, [1002], none), (8, [1000], some 1000)] [(8, .put)] hv ?_
 simp only [Any.someVals]
 iterate 10 apply Exists.intro
 repeat ((first
  | refine Any.E_off rfl ?_
  | (apply Any.E_val rfl rfl rfl rfl
     case h =>
      intro E' hA K hK
      first
       | ((with_reducible refine Any.at_qload (T := 31) ?_); refine Any.q_ldp 1002 hA (by decide) rfl rfl 19 _ Try.underlying31 rfl infoT19 (by decide) (show 0 + 19 ≤ 21 from by decide) (#[.int .i64 c1.t.st, .int .i64 c1.t.lo, .int .u32 c1.t.ip, .int .i64 c1.t.po, .int .u32 c1.t.iss, .int .u32 c1.t.una, .int .u32 c1.t.nx, .slice da1 dn1 dk1, .int .i64 c1.t.wnd, .bool c1.t.en, .bool c1.t.se, .int .u32 c1.t.inn.next, .slice ba1 bn1 bk1, .slice pa1 pn1 pk1, .bool c1.t.ed, .int .u64 c1.t.tm, .int .i64 c1.t.rto, .int .i64 c1.t.tr, .int .i64 c1.t.er]) (ext21 _ _ _ _ _ _ _ _ _ _ _ _ _ _ _ _ _ _ _ _ _) ?_; refine hK _ ?_; rfl)
       | ((with_reducible refine Any.at_qload (T := 32) ?_); refine Any.q_ldc 1002 hA (by decide) rfl rfl _ Try.underlying32 rfl (ov1) rfl ?_; refine hK _ ?_; rfl)
     case hD => rfl)
  | refine Any.eV ?_
  | ((with_reducible refine Any.at_estore (T := 31) ?_); refine Any.E_putv (T := 31) rfl rfl rfl rfl rfl rfl 19 infoT19 rfl rfl (by simp [Value.oneCell']) ?_)); simp only [Act.put, sia, scs, scz])
 try any_goals exact undef
 refine Any.fin3 hv [1000, 1001, 1002] ?_; clear hv; intro w9 hv
 go_wp2
 try simp only [Exit.inBlock, Exit.then]
 refine ret_cell2 (v := .agg #[.int .i64 c1.t.st, .int .i64 c1.t.lo, .int .u32 c1.t.ip, .int .i64 c1.t.po, .int .u32 c1.t.iss, .int .u32 c1.t.una, .int .u32 c1.t.nx, .slice da1 dn1 dk1, .int .i64 c1.t.wnd, .bool c1.t.en, .bool c1.t.se, .int .u32 c1.t.inn.next, .slice ba1 bn1 bk1, .slice pa1 pn1 pk1, .bool c1.t.ed, .int .u64 c1.t.tm, .int .i64 c1.t.rto, .int .i64 c1.t.tr, .int .i64 c1.t.er]) (v1 := ov1) rfl rfl (read_row _ b_6 31 _ (hv.vars.ro (b := b_6)) 19 _ Try.underlying31 rfl infoT19 (by decide) rfl) rfl rfl ?_
 exact ⟨c1, L1, R1, _, ov1, rfl, HK1.out, _, _, _, _, _, _, _, _, _, _, _, _, rfl, hv.drop.drop.drop, HI1.out, HO1.out⟩
end Go.Proofs.Ythenepdbgeafkaa
end
