/-
 Connections (layer 26): what may be sent is sent.
-/
import Derived.Test.YthenepdbgeafkaaGAS
import Derived.Test.YthenepdbgeafkaaGAB
import Derived.WalkMore
set_option maxRecDepth 100000
set_option maxHeartbeats 32000000
set_option linter.unusedVariables false
set_option linter.unusedSimpArgs false
namespace Go.Proofs.Tp
open Go Go.RowKit Go.Proofs.Wi
variable {nw : Nat}
structure Seg1 (c0 c : C) (k : Nat) : Prop where
 eq : segs 257 c0 = segs k c
 fu : 257 - flight c.t ≤ k
 lo : 0 ≤ flight c.t
 hi : own c.t ≤ c.t.data.length
 dl : c.t.data.length ≤ 256
 wd : c.t.wnd ≤ 65535
 rt : c.t.rto ≤ 64
 ol : (c.out.length : Int) ≤ 400 + flight c.t
 same : c.t = { c0.t with nx := c.t.nx }
theorem own_le (t : T) : own t ≤ flight t ∧ flight t - 1 ≤ own t := by unfold own; split <;> omega
theorem own_nn {t : T} (h : 0 ≤ flight t) : 0 ≤ own t := by unfold own; split <;> omega
theorem Seg1.fl_hi {c0 c : C} {k : Nat} (h : Seg1 c0 c k) : flight c.t ≤ 257 := by have := own_le c.t; have := h.hi; have := h.dl; omega
theorem Seg1.step {c0 c : C} {k : Nat} (h : Seg1 c0 c k) (hr : 0 < room1 c.t) : Seg1 c0 ⟨{ c.t with nx := u32 (c.t.nx + (room1 c.t).toNat) }, (send 24 c.t.nx ((c.t.data.drop (own c.t).toNat).take (room1 c.t).toNat) c).out⟩ (k - 1) ∧ flight c.t < flight { c.t with nx := u32 (c.t.nx + (room1 c.t).toNat) } := by
 have h1 := own_le c.t
 have h2 := h.hi
 have h3 := h.dl
 have h4 := h.fu
 have h5 := h.lo
 have h6 := h.ol
 have hr1 : room1 c.t ≤ 64 ∧ room1 c.t ≤ c.t.data.length - own c.t := by unfold room1; omega
 have hf : flight { c.t with nx := u32 (c.t.nx + (room1 c.t).toNat) } = flight c.t + (room1 c.t).toNat := dif_add (a := c.t.nx) (b := c.t.una) (n := (room1 c.t).toNat) h5 (by unfold flight at *; omega)
 refine ⟨⟨?_, ?_, ?_, ?_, h3, h.wd, h.rt, ?_, ?_⟩, by rw [hf]; omega⟩
 · obtain ⟨j, rfl⟩ : ∃ j, k = j + 1 := ⟨k - 1, by omega⟩
   rw [h.eq, segs_succ, if_neg (by omega)]
   rfl
 · show 257 - flight { c.t with nx := u32 (c.t.nx + (room1 c.t).toNat) } ≤ _
   rw [hf]; omega
 · show 0 ≤ flight { c.t with nx := u32 (c.t.nx + (room1 c.t).toNat) }
   rw [hf]; omega
 · show own { c.t with nx := u32 (c.t.nx + (room1 c.t).toNat) } ≤ c.t.data.length
   have : own { c.t with nx := u32 (c.t.nx + (room1 c.t).toNat) } ≤ own c.t + (room1 c.t).toNat := by
     unfold own
     rw [hf]
     show (if c.t.se = true ∧ _ then _ else _) ≤ _
     rcases Bool.eq_false_or_eq_true c.t.se with hse | hse
     · simp only [hse, true_and]
       split <;> split <;> omega
     · simp only [hse, Bool.false_eq_true, false_and, if_false]
       omega
   omega
 · show ((c.out ++ [_] : List G).length : Int) ≤ 400 + flight { c.t with nx := u32 (c.t.nx + (room1 c.t).toNat) }
   rw [hf, List.length_append, List.length_singleton]; omega
 · exact congrArg (fun x : T => { x with nx := u32 (c.t.nx + (room1 c.t).toNat) }) h.same
theorem Seg1.stop {c0 c : C} {k : Nat} (h : Seg1 c0 c k) (hr : ¬ 0 < room1 c.t) : segs 257 c0 = c := by
 rw [h.eq]
 cases k with
 | zero => rfl
 | succ k => rw [segs_succ, if_pos (by omega)]
def fuelR (row : Array Value) : Nat := match row[6]?, row[5]? with
 | some (Value.int _ a), some (Value.int _ b) => 300 - (dif a.toNat b.toNat).toNat
 | _, _ => 0
theorem CMP.app {w0 : World} {bc nw : Nat} {L : LV} {R2 R : LR} {c : C} {v : Value} {e : Ending} {w' : World} (h : CMP w0 bc L (R2 ++ R) nw v c e w') : CMP w0 bc L R nw v c e w' := by
 obtain ⟨R', rfl, h⟩ := h
 exact ⟨R' ++ R2, rfl, by rw [List.append_assoc]; exact h⟩
def SegI (w0 : World) (bc : Nat) (L : LV) (R : LR) (nw : Nat) (c0 : C) (wr : World) : Prop :=
 ∃ R1 k u ot, CM w0 wr bc L (R1 ++ R) nw ⟨u, ot⟩ ∧ Seg1 c0 ⟨u, ot⟩ k
theorem flushT_a {u : T} {ot : List G} (h0 : u.tm = 0) : flushT nw true ⟨u, ot⟩ = wait nw u.rto ⟨u, ot⟩ := by
 unfold flushT
 rw [if_pos (show u.tm = 0 ∧ _ from ⟨h0, .inl rfl⟩)]
theorem flushT_b {u : T} {ot : List G} (h0 : u.tm = 0) (hf : 0 < dif u.nx u.una) : flushT nw false ⟨u, ot⟩ = wait nw u.rto ⟨u, ot⟩ := by
 unfold flushT
 rw [if_pos (show u.tm = 0 ∧ _ from ⟨h0, .inr hf⟩)]
theorem flushT_c {b : Bool} {u : T} {ot : List G} (h0 : u.tm ≠ 0) : flushT nw b ⟨u, ot⟩ = ⟨u, ot⟩ := by
 unfold flushT
 rw [if_neg (fun h => h0 h.1)]
theorem flushT_d {u : T} {ot : List G} (hf : ¬ 0 < dif u.nx u.una) : flushT nw false ⟨u, ot⟩ = ⟨u, ot⟩ := by
 unfold flushT
 rw [if_neg (fun h => by rcases h.2 with h | h; cases h; exact hf h)]
end Go.Proofs.Tp
namespace Go.Proofs.Ythenepdbgeafkaa
open Go.Proofs.Wi Go.RowKit Go.Proofs Go.Proofs.Tp
theorem flush_no {w0 w : World} {bc nw : Nat} {L : LV} {R : LR} {t : T} {out : List G} (hc : CM w0 w bc L R nw ⟨t, out⟩) (hs : sends t = false) : Calls Try.prog 28 #[.pointer (some ⟨bc, 0, none⟩)] w (CMP w0 bc L R nw (.tuple #[]) (flush nw ⟨t, out⟩)) := by
 obtain ⟨da, dn, dk, ba, bn, bk, pa, pn, pk, l, ov, gs, O, hv, HI, HO⟩ := hc.get
 clear hc
 have e : flush nw ⟨t, out⟩ = ⟨t, out⟩ := by unfold flush; rw [if_pos hs]
 rw [e]
 clear e
 go_enter Try.func28, Try.ntmps28
 go_step3
 go_wp2_with (first
   | (go_at_call 55; (refine (sends_C (CM.of (A := []) (c := ⟨t, out⟩) hv HI.out HO.out)).mono ?_); rintro e w1 ⟨R1, rfl, hc1⟩; obtain ⟨da1, dn1, dk1, ba1, bn1, bk1, pa1, pn1, pk1, l1, ov1, gs1, O1, hv1, hI1, hO1⟩ := CM.back (A := []) hc1; clear hv hc1; have hv : Mem w0 _ ([] ++ (bc, #[.int .i64 t.st, .int .i64 t.lo, .int .u32 t.ip, .int .i64 t.po, .int .u32 t.iss, .int .u32 t.una, .int .u32 t.nx, .slice da1 dn1 dk1, .int .i64 t.wnd, .bool t.en, .bool t.se, .int .u32 t.inn.next, .slice ba1 bn1 bk1, .slice pa1 pn1 pk1, .bool t.ed, .int .u64 t.tm, .int .i64 t.rto, .int .i64 t.tr, .int .i64 t.er, .int .u64 nw, ov1]) :: (O1 ++ L)) _ := hv1; clear hv1; have HI1 := Lib.hid hI1; have HO1 := Lib.hid hO1; clear hI1 hO1; simp only [List.cons_append, List.nil_append] at hv))
 try rw [Exit.noGoto_ret]
 try simp only [Exit.inBlock, Exit.then]
 refine bodyPost_ret (results_none rfl _ _ _) rfl ?_
 exact ⟨R1, rfl, CM.of (A := []) (O := O1) (c := ⟨t, out⟩) hv HI1.out HO1.out⟩
theorem three_t {a : Nat} {z : Int} : (a = 0 ∧ 0 < z) ∨ (a = 0 ∧ ¬ 0 < z) ∨ a ≠ 0 := by omega
theorem four_l {a b : Nat} {en se : Bool} : (¬ a < b ∧ en = true ∧ se = false) ∨ a < b ∨ (¬ a < b ∧ en = true ∧ se = true) ∨ (¬ a < b ∧ en = false) := by
 cases en <;> cases se <;> simp <;> omega
theorem flush_loop {w0 w : World} {bc nw : Nat} {L : LV} {R : LR} {t : T} {out : List G} (hc : CM w0 w bc L R nw ⟨t, out⟩) (hs : sends t = true) (h0 : 0 ≤ flight t) (h1 : own t ≤ t.data.length) (h2 : t.data.length ≤ 256) (h3 : t.wnd ≤ 65535) (h4 : t.rto ≤ 64) (hl : out.length ≤ 400) : Calls Try.prog 28 #[.pointer (some ⟨bc, 0, none⟩)] w (CMP w0 bc L R nw (.tuple #[]) (flush nw ⟨t, out⟩)) := by
 obtain ⟨da, dn, dk, ba, bn, bk, pa, pn, pk, l, ov, gs, O, hv, HI, HO⟩ := hc.get
 clear hc
 have HG0 : Hid (Seg1 ⟨t, out⟩ ⟨t, out⟩ 257) := Lib.hid ⟨rfl, (by show 257 - flight t ≤ _; omega), h0, h1, h2, h3, h4, (by show (out.length : Int) ≤ 400 + flight t; omega), rfl⟩
 have HFL : Hid (flush nw ⟨t, out⟩ = flushT nw (decide (own (segs 257 ⟨t, out⟩).t < (segs 257 ⟨t, out⟩).t.data.length)) (fin1 (segs 257 ⟨t, out⟩))) := Lib.hid (by unfold flush; rw [if_neg (show ¬ sends t = false by rw [hs]; decide)])
 obtain ⟨cF, hcF⟩ : ∃ cF, flush nw ⟨t, out⟩ = cF := ⟨_, rfl⟩
 rw [hcF] at HFL ⊢
 clear h0 h1 h2 h3 h4 hl hcF
 go_enter Try.func28, Try.ntmps28
 go_step3
 go_wp2_with (first
   | (go_at_call 55; (refine (sends_C (CM.of (A := []) (c := ⟨t, out⟩) hv HI.out HO.out)).mono ?_); rintro e w1 ⟨R1, rfl, hc1⟩; obtain ⟨da1, dn1, dk1, ba1, bn1, bk1, pa1, pn1, pk1, l1, ov1, gs1, O1, hv1, hI1, hO1⟩ := CM.back (A := []) hc1; clear hv hc1; have hv : Mem w0 _ ([] ++ (bc, #[.int .i64 t.st, .int .i64 t.lo, .int .u32 t.ip, .int .i64 t.po, .int .u32 t.iss, .int .u32 t.una, .int .u32 t.nx, .slice da1 dn1 dk1, .int .i64 t.wnd, .bool t.en, .bool t.se, .int .u32 t.inn.next, .slice ba1 bn1 bk1, .slice pa1 pn1 pk1, .bool t.ed, .int .u64 t.tm, .int .i64 t.rto, .int .i64 t.tr, .int .i64 t.er, .int .u64 nw, ov1]) :: (O1 ++ L)) _ := hv1; clear hv1; have HI1 := Lib.hid hI1; have HO1 := Lib.hid hO1; clear hI1 hO1; simp only [List.cons_append, List.nil_append] at hv))
 clear hs
 go_step3
 go_wp2
 go_loopw [] (fun wr => SegI w0 bc L R nw ⟨t, out⟩ wr) (fun wr => fuelR (wr.rowD bc))
 case atStart => exact ⟨R1, 257, t, out, CM.of (A := []) (O := O1) (c := ⟨t, out⟩) hv HI1.out HO1.out, HG0.out⟩
 case round =>
   clear hv HI HO HI1 HO1 HG0
   obtain ⟨R2, k, u, ot, hc, hg⟩ := hrel
   obtain ⟨da, dn, dk, ba, bn, bk, pa, pn, pk, l, ov, gs, O, hv0, hI, hO⟩ := hc
   have hv : Mem w0 wr ((bc, #[.int .i64 u.st, .int .i64 u.lo, .int .u32 u.ip, .int .i64 u.po, .int .u32 u.iss, .int .u32 u.una, .int .u32 u.nx, .slice da dn dk, .int .i64 u.wnd, .bool u.en, .bool u.se, .int .u32 u.inn.next, .slice ba bn bk, .slice pa pn pk, .bool u.ed, .int .u64 u.tm, .int .i64 u.rto, .int .i64 u.tr, .int .i64 u.er, .int .u64 nw, ov]) :: (O ++ L)) (R2 ++ R) := hv0
   have HI := Lib.hid hI
   have HO := Lib.hid hO
   have HG := Lib.hid hg
   clear hv0 hI hO hg
   have hlo : 0 ≤ flight u := HG.out.lo
   have hlo2 : 0 ≤ own u := own_nn hlo
   obtain ⟨fl, hfl⟩ : ∃ f : Nat, dif u.nx u.una = (f : Int) := ⟨(flight u).toNat, by have := flight_N u; omega⟩
   obtain ⟨fr, hfr⟩ : ∃ f : Nat, ownN u.nx u.una u.se = (f : Int) := ⟨(own u).toNat, by have := own_N u; omega⟩
   have hfl2 : flight u = (fl : Int) := hfl
   have hfr2 : own u = (fr : Int) := hfr
   have hdn : u.data.length = dn := len_rd1 (hv.rd HI.out.d)
   have hb1 := HG.out.hi
   have hb2 := HG.out.dl
   have hb3 := HG.out.wd
   have hb4 := HG.out.fl_hi
   simp only at hb1 hb2 hb3 hb4
   obtain ⟨z, hz⟩ : ∃ z : Int, (u.wnd : Int) - (fl : Int) = z := ⟨_, rfl⟩
   obtain ⟨y, hy⟩ : ∃ y : Int, (dn : Int) - (fr : Int) = y := ⟨_, rfl⟩
   have q1 : IntKind.i64.wrap ((u.wnd : Int) - (fl : Int)) = z := by rw [IntWalk.i64_in _ (by omega)]; exact hz
   have q2 : IntKind.i64.wrap ((dn : Int) - (fr : Int)) = y := by rw [IntWalk.i64_in _ (by omega)]; exact hy
   obtain ⟨m, hm⟩ : ∃ m : Int, min (min 64 y) z = m := ⟨_, rfl⟩
   have hm2 : min 64 (min y z) = m := by omega
   have hroom : room1 u = m := by unfold room1; rw [hfl2, hfr2, hdn, hz, hy, hm]
   have HRW := Lib.hid (hv.vars.row (b := bc) (List.Mem.head _))
   by_cases hr : 0 < m
   · have HST := Lib.hid (HG.out.step (show 0 < room1 u by omega))
     obtain ⟨n, rfl⟩ : ∃ n : Nat, m = (n : Int) := ⟨m.toNat, by omega⟩
     have y1 : ¬ ((n : Int) ≤ 0) := by omega
     obtain ⟨e, he⟩ : ∃ e, fr + n = e := ⟨_, rfl⟩
     have hee : e ≤ dn := by omega
     have q3 : IntKind.i64.wrap ((fr : Int) + (n : Int)) = (e : Int) := by rw [IntWalk.i64_in _ (by omega)]; omega
     have q4 : IntKind.u32.wrap (n : Int) = (n : Int) := by simp [IntKind.wrap, IntKind.bits, IntKind.signed]; omega
     obtain ⟨x1, hx1⟩ : ∃ x, Tp.u32 (u.nx + n) = x := ⟨_, rfl⟩
     have q5 : IntKind.u32.wrap ((u.nx : Int) + (n : Int)) = (x1 : Int) := by rw [← hx1]; unfold Tp.u32; simp [IntKind.wrap, IntKind.bits, IntKind.signed]
     have HX1 : Hid (x1 < 4294967296) := Lib.hid (by rw [← hx1]; exact Tp.u32_lt _)
     have HB3 : Hid (dn ≤ dk) := Lib.hid (by
       obtain ⟨_, _, _, e, _, g, _⟩ := hv.rd HI.out.d
       cases e; exact g)
     have HB1 : Hid (fr ≤ e) := Lib.hid (by omega)
     have HB2 : Hid (e ≤ dn) := Lib.hid hee
     have HHC : Hid (e ≤ dk) := Lib.hid (Nat.le_trans hee HB3.out)
     have HDL : Hid (((u.data.drop fr).take (e - fr)).length ≤ 1000) := Lib.hid (by rw [List.length_take, List.length_drop]; omega)
     have HL : Hid (ot.length ≤ 1000) := Lib.hid (by have := HG.out.ol; simp only at this; omega)
     have HMD : Hid (Seg1 ⟨t, out⟩ ⟨{ u with nx := x1 }, (send 24 u.nx ((u.data.drop fr).take (e - fr)) ⟨u, ot⟩).out⟩ (k - 1) ∧ flight u < flight { u with nx := x1 }) := Lib.hid (by
       have := HST.out
       simp only [hroom, hfr2, Int.toNat_natCast, hx1] at this
       rw [show e - fr = n by omega]
       exact this)
     obtain ⟨za, zn, zk, hz2⟩ : ∃ za zn zk, sliced da fr e dk 1 = .slice za zn zk := ⟨_, _, _, rfl⟩
     have HSL := Lib.hid hz2
     clear hr hee he hz2 hdn hb1 hb2 hb3 hb4 hz hy hroom hfl2 hfr2 hx1 HST
     go_wp2
     refine Any.wr1 18 [(3, [1000], none), (9, [1000], none), (13, [1000], none)] [] hv ?_
     simp only [Any.someVals]
     iterate 18 apply Exists.intro
     repeat ((first
      | refine Any.E_off rfl ?_
      | (apply Any.E_val rfl rfl rfl rfl
         case h =>
          intro E' hA K hK
          first
           | ((with_reducible refine Any.at_qload (T := 31) ?_); refine Any.q_ldp 1000 hA (by decide) rfl rfl 19 _ Try.underlying31 rfl infoT19 (by decide) (show 0 + 19 ≤ 21 from by decide) (#[.int .i64 u.st, .int .i64 u.lo, .int .u32 u.ip, .int .i64 u.po, .int .u32 u.iss, .int .u32 u.una, .int .u32 u.nx, .slice da dn dk, .int .i64 u.wnd, .bool u.en, .bool u.se, .int .u32 u.inn.next, .slice ba bn bk, .slice pa pn pk, .bool u.ed, .int .u64 u.tm, .int .i64 u.rto, .int .i64 u.tr, .int .i64 u.er]) (ext21 _ _ _ _ _ _ _ _ _ _ _ _ _ _ _ _ _ _ _ _ _) ?_; refine hK _ ?_; rfl)
           | ((with_reducible refine Any.at_qload (T := 3) ?_); refine Any.q_ldc 1000 hA (by decide) rfl rfl _ Try.underlying3 rfl (.int .i64 u.wnd) rfl ?_; refine hK _ ?_; rfl)
           | (go_big_quiet_op; first
              | (refine hK _ ?_; rfl)
              | (refine ⟨_, fun _ _ => rfl, ?_⟩; refine hK _ ?_; rfl)
              | (apply Exists.intro; refine ⟨fun w1 hw1 => ?_, ?_⟩; · (first
                  | (go_at_call 56; exact Any.calls_VE (own_v _ _ _ _ _ _ _ _ _ _ _ _ _ _ _ _ _ _ _ _) hw1)
                  | (go_at_call 57; exact Any.calls_VE (flight_v _ _ _ _ _ _ _ _ _ _ _ _ _ _ _ _ _ _ _ _) hw1))
                 refine hK _ ?_; rfl))
         case hD => rfl)); simp only [Act.put, sia, scs, scz])
     try any_goals exact undef
     refine Any.fin1 hv [1000] ?_; clear hv; intro w9 hv
     go_wp2_with (first
       | ((with_reducible refine gLd 23 ?_); refine ldC hv bc 7 (.slice da dn dk) Try.underlying23 ?_))
     replace hv : Mem w0 _ ([(bc, _)] ++ (O ++ L)) _ := hv
     refine Any.wp_region_cut 16 [⟨[], none⟩, ⟨[], none⟩, ⟨[], none⟩, ⟨[], none⟩, ⟨[], none⟩, ⟨[1000], none⟩, ⟨[], none⟩, ⟨[], none⟩, ⟨[], none⟩, ⟨[], none⟩, ⟨[1000], none⟩, ⟨[], none⟩, ⟨[], none⟩, ⟨[], none⟩, ⟨[], none⟩, ⟨[], none⟩, ⟨[], none⟩] [.val, .val, .val, .val, .val, .val, .val, .val, .val, .val, .val, .val, .val, .val, .val, .val] (by kernel_rfl) (by kernel_rfl) (hv.vars.keep (List.sublist_append_left [(bc, #[.int .i64 u.st, .int .i64 u.lo, .int .u32 u.ip, .int .i64 u.po, .int .u32 u.iss, .int .u32 u.una, .int .u32 u.nx, .slice da dn dk, .int .i64 u.wnd, .bool u.en, .bool u.se, .int .u32 u.inn.next, .slice ba bn bk, .slice pa pn pk, .bool u.ed, .int .u64 u.tm, .int .i64 u.rto, .int .i64 u.tr, .int .i64 u.er, .int .u64 nw, ov])] (O ++ L))) ?_
     simp only [Any.someVals, List.take_succ_cons, List.take_zero]
     iterate 16 apply Exists.intro
     repeat (first
       | (refine Any.E_off rfl ?_; simp only [Act.put, sia, scs, scz])
       | (apply Any.E_pureq rfl rfl rfl
          case h => intro K hK; go_big_quiet_op; (refine hK _ ?_; rfl)
          case hr => exact fun _ => rfl
          simp only [Act.put, sia, scs, scz])
       | (apply Any.E_val rfl rfl rfl rfl
          case h =>
            intro E' hA K hK
            first
              | ((with_reducible refine Any.at_qload (T := 22) ?_); refine Any.q_ldc 1000 hA (by decide) rfl rfl _ Try.underlying22 rfl (.int .u32 u.nx) rfl ?_; refine hK _ ?_; rfl)
              | ((with_reducible refine Any.at_qload (T := 23) ?_); refine Any.q_ldc 1000 hA (by decide) rfl rfl _ Try.underlying23 rfl (.slice da dn dk) rfl ?_; refine hK _ ?_; rfl)
              | ((with_reducible refine Any.at_qslice (T := 23) ?_); refine Any.q_slice rfl Try.underlying23 infoB1 (some (.int .i64 fr)) (some (.int .i64 e)) none rfl rfl rfl fr e dk (fun w => bounds_lh HB1.out HHC.out) HSL.out ?_; refine hK _ ?_; rfl)
              | (go_big_quiet_op; first
                | (refine hK _ ?_; rfl)
                | (refine ⟨_, fun _ _ => rfl, ?_⟩; refine hK _ ?_; rfl)
                | (apply Exists.intro; refine ⟨fun w1 hw1 => ?_, ?_⟩; · (first
                    | fail)
                   refine hK _ ?_; rfl))
          case hD => rfl
          simp only [Act.put, sia, scs, scz])
       | ((with_reducible refine Any.at_ealloc ?_); refine Any.E_lay rfl rfl rfl (fun _ => rfl) ?_; intro B; simp only [Act.put, sia, scs, scz]))
     try any_goals exact undef
     refine Any.E_nil ?_
     intro w9 hE9
     replace hv : Mem w0 w9 ([(bc, #[.int .i64 u.st, .int .i64 u.lo, .int .u32 u.ip, .int .i64 u.po, .int .u32 u.iss, .int .u32 u.una, .int .u32 u.nx, .slice da dn dk, .int .i64 u.wnd, .bool u.en, .bool u.se, .int .u32 u.inn.next, .slice ba bn bk, .slice pa pn pk, .bool u.ed, .int .u64 u.tm, .int .i64 u.rto, .int .i64 u.tr, .int .i64 u.er, .int .u64 nw, ov])] ++ (O ++ L)) _ := hE9.memr (L1 := [(bc, #[.int .i64 u.st, .int .i64 u.lo, .int .u32 u.ip, .int .i64 u.po, .int .u32 u.iss, .int .u32 u.una, .int .u32 u.nx, .slice da dn dk, .int .i64 u.wnd, .bool u.en, .bool u.se, .int .u32 u.inn.next, .slice ba bn bk, .slice pa pn pk, .bool u.ed, .int .u64 u.tm, .int .i64 u.rto, .int .i64 u.tr, .int .i64 u.er, .int .u64 nw, ov])]) hv [1000] (by decide)
     clear hE9
     have hv2 := hv.sliced HI.out.d (l := fr) (h := e) (m := dk) HB1.out HB2.out (Nat.le_trans HB2.out HB3.out) (Nat.le_refl _)
     rw [HSL.out, cells_part] at hv2
     refine Any.wpOp_callv rfl rfl (Go.Proofs.enters_of Try.func44 (by kernel_rfl) rfl) rfl [.pointer (some ⟨bc, 0, none⟩), .int .i64 24, .int .u32 u.nx, .slice za zn zk] rfl ?_
     refine (snd24 (CM.of (A := []) (O := O) (c := ⟨u, ot⟩) hv2 (HI.out.mono fun x hx => Mem.s hx) (HO.out.mono fun x hx => Mem.s hx)) HL.out Mem.z HDL.out).mono ?_
     rintro e w1 ⟨R1, rfl, hc1⟩
     obtain ⟨da1, dn1, dk1, ba1, bn1, bk1, pa1, pn1, pk1, l1, ov1, gs1, O1, hv1, hI1, hO1⟩ := CM.back (A := []) hc1
     clear hv hv2 hc1
     have hv : Mem w0 _ ((bc, #[.int .i64 u.st, .int .i64 u.lo, .int .u32 u.ip, .int .i64 u.po, .int .u32 u.iss, .int .u32 u.una, .int .u32 u.nx, .slice da1 dn1 dk1, .int .i64 u.wnd, .bool u.en, .bool u.se, .int .u32 u.inn.next, .slice ba1 bn1 bk1, .slice pa1 pn1 pk1, .bool u.ed, .int .u64 u.tm, .int .i64 u.rto, .int .i64 u.tr, .int .i64 u.er, .int .u64 nw, ov1]) :: (O1 ++ L)) _ := hv1
     clear hv1
     have HI1 := Lib.hid hI1
     have HO1 := Lib.hid hO1
     clear hI1 hO1
     refine ⟨_, rfl, ?_⟩
     replace hv : Mem w0 _ ([(bc, _)] ++ (O1 ++ L)) _ := hv
     refine Any.wpAny_rest 17 [] [] (by kernel_rfl) (hv.vars.keep (List.sublist_append_left [(bc, #[.int .i64 u.st, .int .i64 u.lo, .int .u32 u.ip, .int .i64 u.po, .int .u32 u.iss, .int .u32 u.una, .int .u32 u.nx, .slice da1 dn1 dk1, .int .i64 u.wnd, .bool u.en, .bool u.se, .int .u32 u.inn.next, .slice ba1 bn1 bk1, .slice pa1 pn1 pk1, .bool u.ed, .int .u64 u.tm, .int .i64 u.rto, .int .i64 u.tr, .int .i64 u.er, .int .u64 nw, ov1])] (O1 ++ L))) ?_
     simp only [List.length_cons, List.length_nil, Nat.zero_add, Nat.reduceAdd, Nat.reduceSub, Any.someVals, List.drop_succ_cons, List.drop_zero]
     simp only [Act.put, sia, scs, scz]
     iterate 0 apply Exists.intro
     repeat (first
       | (refine Any.E_off rfl ?_; simp only [Act.put, sia, scs, scz])
       | (apply Any.E_pureq rfl rfl rfl
          case h => intro K hK; go_big_quiet_op; (refine hK _ ?_; rfl)
          case hr => exact fun _ => rfl
          simp only [Act.put, sia, scs, scz])
       | (apply Any.E_val rfl rfl rfl rfl
          case h =>
            intro E' hA K hK
            first
              | ((with_reducible refine Any.at_qload (T := 22) ?_); refine Any.q_ldc 1000 hA (by decide) rfl rfl _ Try.underlying22 rfl (.int .u32 u.nx) rfl ?_; refine hK _ ?_; rfl)
              | ((with_reducible refine Any.at_qload (T := 23) ?_); refine Any.q_ldc 1000 hA (by decide) rfl rfl _ Try.underlying23 rfl (.slice da dn dk) rfl ?_; refine hK _ ?_; rfl)
              | ((with_reducible refine Any.at_qslice (T := 23) ?_); refine Any.q_slice rfl Try.underlying23 infoB1 (some (.int .i64 fr)) (some (.int .i64 e)) none rfl rfl rfl fr e dk (fun w => bounds_lh HB1.out HHC.out) HSL.out ?_; refine hK _ ?_; rfl)
              | (go_big_quiet_op; first
                | (refine hK _ ?_; rfl)
                | (refine ⟨_, fun _ _ => rfl, ?_⟩; refine hK _ ?_; rfl)
                | (apply Exists.intro; refine ⟨fun w1 hw1 => ?_, ?_⟩; · (first
                    | fail)
                   refine hK _ ?_; rfl))
          case hD => rfl
          simp only [Act.put, sia, scs, scz])
       | ((with_reducible refine Any.at_ealloc ?_); refine Any.E_lay rfl rfl rfl (fun _ => rfl) ?_; intro B; simp only [Act.put, sia, scs, scz]))
     try any_goals exact undef
     refine Any.E_nil ?_
     intro w9 hE9
     replace hv : Mem w0 w9 ([(bc, #[.int .i64 u.st, .int .i64 u.lo, .int .u32 u.ip, .int .i64 u.po, .int .u32 u.iss, .int .u32 u.una, .int .u32 u.nx, .slice da1 dn1 dk1, .int .i64 u.wnd, .bool u.en, .bool u.se, .int .u32 u.inn.next, .slice ba1 bn1 bk1, .slice pa1 pn1 pk1, .bool u.ed, .int .u64 u.tm, .int .i64 u.rto, .int .i64 u.tr, .int .i64 u.er, .int .u64 nw, ov1])] ++ (O1 ++ L)) _ := hE9.memr0 (L1 := [(bc, #[.int .i64 u.st, .int .i64 u.lo, .int .u32 u.ip, .int .i64 u.po, .int .u32 u.iss, .int .u32 u.una, .int .u32 u.nx, .slice da1 dn1 dk1, .int .i64 u.wnd, .bool u.en, .bool u.se, .int .u32 u.inn.next, .slice ba1 bn1 bk1, .slice pa1 pn1 pk1, .bool u.ed, .int .u64 u.tm, .int .i64 u.rto, .int .i64 u.tr, .int .i64 u.er, .int .u64 nw, ov1])]) hv [1000] (by decide)
     clear hE9
     simp only [List.cons_append, List.nil_append] at hv
     go_wp2_with (first
       | ((with_reducible refine gLd 22 ?_); refine ldC hv bc 6 (.int .u32 u.nx) Try.underlying22 ?_)
       | ((with_reducible refine gSt 22 ?_); refine stC hv bc 6 (.int .u32 x1) ?_; clear hv; intro w2 hv))
     go_roundw
     case rel =>
       (repeat apply Exists.intro)
       refine ⟨?_, rfl⟩
       exact ⟨R1 ++ ([(1, .slice za zn zk, cellsB ((u.data.drop fr).take (e - fr)))] ++ R2), k - 1, { u with nx := x1 }, (send 24 u.nx ((u.data.drop fr).take (e - fr)) ⟨u, ot⟩).out, CM.of (A := []) (O := O1) (c := ⟨{ u with nx := x1 }, (send 24 u.nx ((u.data.drop fr).take (e - fr)) ⟨u, ot⟩).out⟩) (hv.keepR (by simp)) (InC.mono (R := R1 ++ (1, .slice za zn zk, cellsB ((u.data.drop fr).take (e - fr))) :: (R2 ++ R)) ⟨HI1.out.d, HI1.out.s, HI1.out.ck, ⟨HI1.out.u.una, HX1.out, HI1.out.u.iss, HI1.out.u.inn, HI1.out.u.ip⟩⟩ (by simp)) (OutC.mono HO1.out (by simp)), HMD.out.1⟩
     case measure =>
       have e1 := hv.vars.row (b := bc) (List.Mem.head _)
       rw [e1, HRW.out]
       have e2 := HMD.out.2
       have e3 := HMD.out.1.fl_hi
       have e4 := HG.out.lo
       show 300 - (dif x1 u.una).toNat < 300 - (dif u.nx u.una).toNat
       have e5 : flight { u with nx := x1 } = dif x1 u.una := rfl
       have e6 : flight u = dif u.nx u.una := rfl
       simp only at e3 e4
       omega
   · have hst := HG.out.stop (show ¬ 0 < room1 u by omega)
     have HF2 : Hid (cF = flushT nw (decide (own u < u.data.length)) (fin1 ⟨u, ot⟩)) := Lib.hid (by have := HFL.out; rw [hst] at this; exact this)
     have y0 : m ≤ 0 := by omega
     have HRT : Hid (u.rto ≤ 64) := Lib.hid HG.out.rt
     have HLE := Lib.hid hb1
     have HL : Hid (ot.length ≤ 1000) := Lib.hid (by have := HG.out.ol; simp only at this; omega)
     clear hst hr hb1 hb2 hb3 hb4 hz hy hm hroom HFL HRW
     go_wp2
     refine Any.wr1 18 [(3, [1000], none), (9, [1000], none), (13, [1000], none)] [] hv ?_
     simp only [Any.someVals]
     iterate 18 apply Exists.intro
     repeat ((first
      | refine Any.E_off rfl ?_
      | (apply Any.E_val rfl rfl rfl rfl
         case h =>
          intro E' hA K hK
          first
           | ((with_reducible refine Any.at_qload (T := 31) ?_); refine Any.q_ldp 1000 hA (by decide) rfl rfl 19 _ Try.underlying31 rfl infoT19 (by decide) (show 0 + 19 ≤ 21 from by decide) (#[.int .i64 u.st, .int .i64 u.lo, .int .u32 u.ip, .int .i64 u.po, .int .u32 u.iss, .int .u32 u.una, .int .u32 u.nx, .slice da dn dk, .int .i64 u.wnd, .bool u.en, .bool u.se, .int .u32 u.inn.next, .slice ba bn bk, .slice pa pn pk, .bool u.ed, .int .u64 u.tm, .int .i64 u.rto, .int .i64 u.tr, .int .i64 u.er]) (ext21 _ _ _ _ _ _ _ _ _ _ _ _ _ _ _ _ _ _ _ _ _) ?_; refine hK _ ?_; rfl)
           | ((with_reducible refine Any.at_qload (T := 3) ?_); refine Any.q_ldc 1000 hA (by decide) rfl rfl _ Try.underlying3 rfl (.int .i64 u.wnd) rfl ?_; refine hK _ ?_; rfl)
           | (go_big_quiet_op; first
              | (refine hK _ ?_; rfl)
              | (refine ⟨_, fun _ _ => rfl, ?_⟩; refine hK _ ?_; rfl)
              | (apply Exists.intro; refine ⟨fun w1 hw1 => ?_, ?_⟩; · (first
                  | (go_at_call 56; exact Any.calls_VE (own_v _ _ _ _ _ _ _ _ _ _ _ _ _ _ _ _ _ _ _ _) hw1)
                  | (go_at_call 57; exact Any.calls_VE (flight_v _ _ _ _ _ _ _ _ _ _ _ _ _ _ _ _ _ _ _ _) hw1))
                 refine hK _ ?_; rfl))
         case hD => rfl)); simp only [Act.put, sia, scs, scz])
     try any_goals exact undef
     refine Any.fin1 hv [1000] ?_; clear hv; intro w9 hv
     go_wp2_with (first
       | ((with_reducible refine gLd 23 ?_); refine ldC hv bc 7 (.slice da dn dk) Try.underlying23 ?_))
     rcases four_l (a := fr) (b := dn) (en := u.en) (se := u.se) with ⟨hM, hen, hse⟩ | hL | ⟨hM, hen, hse⟩ | ⟨hM, hef⟩
     all_goals try (have hli : (fr : Int) < (dn : Int) := (by omega); have HD : Hid (decide (own u < u.data.length) = true) := Lib.hid (decide_eq_true (by omega)); have HN : Hid (fin1 ⟨u, ot⟩ = ⟨u, ot⟩) := Lib.hid (by unfold fin1; rw [if_neg (fun h => h.1 (by show own u < u.data.length; omega))]))
     all_goals try (have hli : ¬ (fr : Int) < (dn : Int) := (by omega); have HD : Hid (decide (own u < u.data.length) = false) := Lib.hid (decide_eq_false (by omega)))
     · have he := hen
       rw [hse] at hfr
       obtain ⟨x1, hx1⟩ : ∃ x, Tp.u32 (u.nx + 1) = x := ⟨_, rfl⟩
       have q5 : IntKind.u32.wrap ((u.nx : Int) + 1) = (x1 : Int) := by rw [← hx1]; unfold Tp.u32; simp [IntKind.wrap, IntKind.bits, IntKind.signed]
       have HX1 : Hid (x1 < 4294967296) := Lib.hid (by rw [← hx1]; exact Tp.u32_lt _)
       have hf1 : dif x1 u.una = ((fl + 1 : Nat) : Int) := by
         have := dif_add (a := u.nx) (b := u.una) (n := 1) (by omega) (by have := HG.out.fl_hi; simp only at this; omega)
         rw [hx1] at this
         rw [this, hfl]; rfl
       have hf2 : (0 : Int) < dif x1 u.una := by rw [hf1]; omega
       have HN : Hid (fin1 ⟨u, ot⟩ = ⟨{ u with nx := x1, se := true }, (send 17 u.nx [] ⟨u, ot⟩).out⟩) := Lib.hid (by
         unfold fin1
         rw [if_pos (show ¬ own u < u.data.length ∧ u.en = true ∧ u.se = false from ⟨by omega, he, hse⟩)]
         show (⟨{ u with nx := Tp.u32 (u.nx + 1), se := true }, _⟩ : C) = _
         rw [hx1]; rfl)
       clear hf1 hx1
       have hcF := HF2.out
       rw [HD.out, HN.out] at hcF
       unfold flushT at hcF
       by_cases h0 : u.tm = 0
       all_goals try (rw [if_pos (show ({ u with nx := x1, se := true } : T).tm = 0 ∧ _ from ⟨h0, .inr hf2⟩)] at hcF; have y7 : ((u.tm : Int) == 0) = true := (by rw [h0]; rfl))
       all_goals try (rw [if_neg (fun h => h0 h.1)] at hcF; have y7 : ((u.tm : Int) == 0) = false := (by rw [beq_eq_false_iff_ne]; omega))
       all_goals
         have HCF := Lib.hid hcF
         clear hcF HF2 HN HD h0 hfl2 hfr2 hdn hM
         refine Any.wr1 13 [(4, [1000], none), (9, [1000], none)] [] hv ?_
         simp only [Any.someVals]
         iterate 13 apply Exists.intro
         repeat ((first
          | refine Any.E_off rfl ?_
          | (apply Any.E_val rfl rfl rfl rfl
             case h =>
              intro E' hA K hK
              first
               | ((with_reducible refine Any.at_qload (T := 31) ?_); refine Any.q_ldp 1000 hA (by decide) rfl rfl 19 _ Try.underlying31 rfl infoT19 (by decide) (show 0 + 19 ≤ 21 from by decide) (#[.int .i64 u.st, .int .i64 u.lo, .int .u32 u.ip, .int .i64 u.po, .int .u32 u.iss, .int .u32 u.una, .int .u32 u.nx, .slice da dn dk, .int .i64 u.wnd, .bool u.en, .bool u.se, .int .u32 u.inn.next, .slice ba bn bk, .slice pa pn pk, .bool u.ed, .int .u64 u.tm, .int .i64 u.rto, .int .i64 u.tr, .int .i64 u.er]) (ext21 _ _ _ _ _ _ _ _ _ _ _ _ _ _ _ _ _ _ _ _ _) ?_; refine hK _ ?_; rfl)
               | ((with_reducible refine Any.at_qload (T := 23) ?_); refine Any.q_ldc 1000 hA (by decide) rfl rfl _ Try.underlying23 rfl (.slice da dn dk) rfl ?_; refine hK _ ?_; rfl)
               | (go_big_quiet_op; first
                  | (refine hK _ ?_; rfl)
                  | (refine ⟨_, fun _ _ => rfl, ?_⟩; refine hK _ ?_; rfl)
                  | (apply Exists.intro; refine ⟨fun w1 hw1 => ?_, ?_⟩; · (first
                      | (go_at_call 56; exact Any.calls_VE (own_v _ _ _ _ _ _ _ _ _ _ _ _ _ _ _ _ _ _ _ _) hw1))
                     refine hK _ ?_; rfl))
             case hD => rfl)); simp only [Act.put, sia, scs, scz])
         try any_goals exact undef
         refine Any.fin1 hv [1000] ?_; clear hv; intro w9 hv
         go_wp2_with (first
           | ((with_reducible refine gLd 4 ?_); refine ldC hv bc 9 (.bool u.en) Try.underlying4 ?_)
           | ((with_reducible refine gLd 4 ?_); refine ldC hv bc 10 (.bool u.se) Try.underlying4 ?_)
           | ((with_reducible refine gLd 22 ?_); refine ldC hv bc 6 (.int .u32 u.nx) Try.underlying22 ?_)
           | (go_at_call 44; (refine (snn17 (CM.of (A := []) (c := ⟨u, ot⟩) hv HI.out HO.out) HL.out).mono ?_); rintro e w1 ⟨R1, rfl, hc1⟩; obtain ⟨da1, dn1, dk1, ba1, bn1, bk1, pa1, pn1, pk1, l1, ov1, gs1, O1, hv1, hI1, hO1⟩ := CM.back (A := []) hc1; clear hv hc1; have hv : Mem w0 _ ([] ++ (bc, #[.int .i64 u.st, .int .i64 u.lo, .int .u32 u.ip, .int .i64 u.po, .int .u32 u.iss, .int .u32 u.una, .int .u32 u.nx, .slice da1 dn1 dk1, .int .i64 u.wnd, .bool u.en, .bool u.se, .int .u32 u.inn.next, .slice ba1 bn1 bk1, .slice pa1 pn1 pk1, .bool u.ed, .int .u64 u.tm, .int .i64 u.rto, .int .i64 u.tr, .int .i64 u.er, .int .u64 nw, ov1]) :: (O1 ++ L)) _ := hv1; clear hv1; have HI1 := Lib.hid hI1; have HO1 := Lib.hid hO1; clear hI1 hO1; simp only [List.cons_append, List.nil_append] at hv)
           | ((with_reducible refine gLd 22 ?_); refine ldC hv bc 6 (.int .u32 u.nx) Try.underlying22 ?_)
           | ((with_reducible refine gSt 22 ?_); refine stC hv bc 6 (.int .u32 x1) ?_; clear hv; intro w2 hv)
           | ((with_reducible refine gSt 4 ?_); refine stC hv bc 10 (.bool true) ?_; clear hv; intro w2 hv)
           | ((with_reducible refine gLd 28 ?_); refine ldC hv bc 15 (.int .u64 u.tm) Try.underlying28 ?_)
           | ((with_reducible refine at_load (T := 31) ?_); refine wl_ldp rfl bc 0 rfl _ hv.vars.ro 19 _ Try.underlying31 rfl infoT19 (by decide) (by show 0 + 19 ≤ 21; decide) (#[.int .i64 u.st, .int .i64 u.lo, .int .u32 u.ip, .int .i64 u.po, .int .u32 u.iss, .int .u32 u.una, .int .u32 x1, .slice da1 dn1 dk1, .int .i64 u.wnd, .bool u.en, .bool true, .int .u32 u.inn.next, .slice ba1 bn1 bk1, .slice pa1 pn1 pk1, .bool u.ed, .int .u64 u.tm, .int .i64 u.rto, .int .i64 u.tr, .int .i64 u.er]) (ext21 _ _ _ _ _ _ _ _ _ _ _ _ _ _ _ _ _ _ _ _ _) ?_)
           | (go_at_call 57; (with_reducible refine (flight_v _ _ _ _ _ _ _ _ _ _ _ _ _ _ _ _ _ _ _ _).mono ?_); rintro e w1 ⟨rfl, hn1⟩; replace hv := hv.new hn1; clear hn1)
           | ((with_reducible refine gLd 3 ?_); refine ldC hv bc 16 (.int .i64 u.rto) Try.underlying3 ?_)
           | (go_at_call 46; (refine (wait_C (CM.of (A := []) (c := ⟨{ u with nx := x1, se := true }, (send 17 u.nx [] ⟨u, ot⟩).out⟩) hv ⟨HI1.out.d, HI1.out.s, HI1.out.ck, ⟨HI1.out.u.una, HX1.out, HI1.out.u.iss, HI1.out.u.inn, HI1.out.u.ip⟩⟩ HO1.out) HRT.out).mono ?_); rintro e w1 ⟨R3, rfl, hc1⟩; obtain ⟨da3, dn3, dk3, ba3, bn3, bk3, pa3, pn3, pk3, l3, ov3, gs3, O3, hv1, hI1, hO1⟩ := CM.back (A := []) hc1; clear hv hc1; have hv : Mem w0 _ ([] ++ (bc, #[.int .i64 u.st, .int .i64 u.lo, .int .u32 u.ip, .int .i64 u.po, .int .u32 u.iss, .int .u32 u.una, .int .u32 x1, .slice da3 dn3 dk3, .int .i64 u.wnd, .bool u.en, .bool true, .int .u32 u.inn.next, .slice ba3 bn3 bk3, .slice pa3 pn3 pk3, .bool u.ed, .int .u64 (later nw u.rto : Nat), .int .i64 u.rto, .int .i64 u.tr, .int .i64 u.er, .int .u64 nw, ov3]) :: (O3 ++ L)) _ := hv1; clear hv1; have HI3 := Lib.hid hI1; have HO3 := Lib.hid hO1; clear hI1 hO1; simp only [List.cons_append, List.nil_append] at hv))
         try rw [Exit.noGoto_normal]
         try simp only [Exit.inBlock, Exit.then]
         go_end0
         rw [HCF.out]
         first
           | exact CMP.app (R2 := R2) (CMP.app (R2 := R1) ⟨R3, rfl, CM.of (A := []) (O := O3) hv HI3.out HO3.out⟩)
           | exact CMP.app (R2 := R2) ⟨R1, rfl, CM.of (A := []) (O := O1) hv ⟨HI1.out.d, HI1.out.s, HI1.out.ck, ⟨HI1.out.u.una, HX1.out, HI1.out.u.iss, HI1.out.u.inn, HI1.out.u.ip⟩⟩ HO1.out⟩
     all_goals try (have HN : Hid (fin1 ⟨u, ot⟩ = ⟨u, ot⟩) := Lib.hid (by unfold fin1; rw [if_neg (fun h => by have := h.2.2; simp only [hse] at this; cases this)]); rw [hse] at hfr)
     all_goals try (have HN : Hid (fin1 ⟨u, ot⟩ = ⟨u, ot⟩) := Lib.hid (by unfold fin1; rw [if_neg (fun h => by have := h.2.1; simp only [hef] at this; cases this)]))
     all_goals
       have hcF := HF2.out
       rw [HD.out, HN.out] at hcF
       rcases three_t (a := u.tm) (z := dif u.nx u.una) with ⟨h0, hfp⟩ | ⟨h0, hnp⟩ | hn0
     all_goals try (have y7 : ((u.tm : Int) == 0) = true := (by rw [h0]; rfl))
     all_goals try (have y7 : ((u.tm : Int) == 0) = false := (by rw [beq_eq_false_iff_ne]; omega))
     all_goals try (have y8 : (0 : Int) < (fl : Int) := (by omega))
     all_goals try (have y8 : ¬ (0 : Int) < (fl : Int) := (by omega))
     all_goals first
       | (rw [flushT_a h0] at hcF)
       | (rw [flushT_b h0 hfp] at hcF)
       | (rw [flushT_c hn0] at hcF)
       | (rw [flushT_d hnp] at hcF)
     all_goals (try clear h0; try clear hfp; try clear hnp; try clear hn0; try clear hL; try clear hM)
     all_goals
       have HCF := Lib.hid hcF
       clear hcF HF2 HN HD hfl2 hfr2 hdn
       refine Any.wr1 13 [(4, [1000], none), (9, [1000], none)] [] hv ?_
       simp only [Any.someVals]
       iterate 13 apply Exists.intro
       repeat ((first
        | refine Any.E_off rfl ?_
        | (apply Any.E_val rfl rfl rfl rfl
           case h =>
            intro E' hA K hK
            first
             | ((with_reducible refine Any.at_qload (T := 31) ?_); refine Any.q_ldp 1000 hA (by decide) rfl rfl 19 _ Try.underlying31 rfl infoT19 (by decide) (show 0 + 19 ≤ 21 from by decide) (#[.int .i64 u.st, .int .i64 u.lo, .int .u32 u.ip, .int .i64 u.po, .int .u32 u.iss, .int .u32 u.una, .int .u32 u.nx, .slice da dn dk, .int .i64 u.wnd, .bool u.en, .bool u.se, .int .u32 u.inn.next, .slice ba bn bk, .slice pa pn pk, .bool u.ed, .int .u64 u.tm, .int .i64 u.rto, .int .i64 u.tr, .int .i64 u.er]) (ext21 _ _ _ _ _ _ _ _ _ _ _ _ _ _ _ _ _ _ _ _ _) ?_; refine hK _ ?_; rfl)
             | ((with_reducible refine Any.at_qload (T := 23) ?_); refine Any.q_ldc 1000 hA (by decide) rfl rfl _ Try.underlying23 rfl (.slice da dn dk) rfl ?_; refine hK _ ?_; rfl)
             | (go_big_quiet_op; first
                | (refine hK _ ?_; rfl)
                | (refine ⟨_, fun _ _ => rfl, ?_⟩; refine hK _ ?_; rfl)
                | (apply Exists.intro; refine ⟨fun w1 hw1 => ?_, ?_⟩; · (first
                    | (go_at_call 56; exact Any.calls_VE (own_v _ _ _ _ _ _ _ _ _ _ _ _ _ _ _ _ _ _ _ _) hw1))
                   refine hK _ ?_; rfl))
           case hD => rfl)); simp only [Act.put, sia, scs, scz])
       try any_goals exact undef
       refine Any.fin1 hv [1000] ?_; clear hv; intro w9 hv
       go_wp2_with (first
         | ((with_reducible refine gLd 4 ?_); refine ldC hv bc 9 (.bool u.en) Try.underlying4 ?_)
         | ((with_reducible refine gLd 4 ?_); refine ldC hv bc 10 (.bool u.se) Try.underlying4 ?_)
         | ((with_reducible refine gLd 28 ?_); refine ldC hv bc 15 (.int .u64 u.tm) Try.underlying28 ?_)
         | ((with_reducible refine at_load (T := 31) ?_); refine wl_ldp rfl bc 0 rfl _ hv.vars.ro 19 _ Try.underlying31 rfl infoT19 (by decide) (by show 0 + 19 ≤ 21; decide) (#[.int .i64 u.st, .int .i64 u.lo, .int .u32 u.ip, .int .i64 u.po, .int .u32 u.iss, .int .u32 u.una, .int .u32 u.nx, .slice da dn dk, .int .i64 u.wnd, .bool u.en, .bool u.se, .int .u32 u.inn.next, .slice ba bn bk, .slice pa pn pk, .bool u.ed, .int .u64 u.tm, .int .i64 u.rto, .int .i64 u.tr, .int .i64 u.er]) (ext21 _ _ _ _ _ _ _ _ _ _ _ _ _ _ _ _ _ _ _ _ _) ?_)
         | (go_at_call 57; (with_reducible refine (flight_v _ _ _ _ _ _ _ _ _ _ _ _ _ _ _ _ _ _ _ _).mono ?_); rintro e w1 ⟨rfl, hn1⟩; replace hv := hv.new hn1; clear hn1)
         | ((with_reducible refine gLd 3 ?_); refine ldC hv bc 16 (.int .i64 u.rto) Try.underlying3 ?_)
         | (go_at_call 46; (refine (wait_C (CM.of (A := []) (c := ⟨u, ot⟩) hv HI.out HO.out) HRT.out).mono ?_); rintro e w1 ⟨R1, rfl, hc1⟩; obtain ⟨da1, dn1, dk1, ba1, bn1, bk1, pa1, pn1, pk1, l1, ov1, gs1, O1, hv1, hI1, hO1⟩ := CM.back (A := []) hc1; clear hv hc1; have hv : Mem w0 _ ([] ++ (bc, #[.int .i64 u.st, .int .i64 u.lo, .int .u32 u.ip, .int .i64 u.po, .int .u32 u.iss, .int .u32 u.una, .int .u32 u.nx, .slice da1 dn1 dk1, .int .i64 u.wnd, .bool u.en, .bool u.se, .int .u32 u.inn.next, .slice ba1 bn1 bk1, .slice pa1 pn1 pk1, .bool u.ed, .int .u64 (later nw u.rto : Nat), .int .i64 u.rto, .int .i64 u.tr, .int .i64 u.er, .int .u64 nw, ov1]) :: (O1 ++ L)) _ := hv1; clear hv1; have HI1 := Lib.hid hI1; have HO1 := Lib.hid hO1; clear hI1 hO1; simp only [List.cons_append, List.nil_append] at hv))
       try rw [Exit.noGoto_normal]
       try simp only [Exit.inBlock, Exit.then]
       go_end0
       rw [HCF.out]
       first
         | exact CMP.app (R2 := R2) ⟨R1, rfl, CM.of (A := []) (O := O1) hv HI1.out HO1.out⟩
         | exact CMP.app (R2 := R2) (CMP.mk0 (CM.of (A := []) (O := O) hv HI.out HO.out))
end Go.Proofs.Ythenepdbgeafkaa
