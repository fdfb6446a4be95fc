import Derived.Test.YtjmibgomkgkhnaaGreatVn4
set_option linter.unusedSimpArgs false
set_option linter.unusedVariables false
set_option maxRecDepth 100000
set_option maxHeartbeats 16000000
section
/-
 A card behind two rings (layer 10): a frame that goes.
-/
namespace Go.Proofs.Qu
open Go Go.RowKit Go.Proofs.Nm
def PutNW (R0 : List (Nat × Value × List Value)) (M2 : List Nat) (v : Value) (R' : List (Nat × Value × List Value)) : Prop := ∃ b c : Nat, v = .tuple #[.agg #[.slice (some ⟨b, 0, none⟩) 1900 c], .int .i64 0] ∧ InM R' b 0 1900 c M2 ∧ ∀ x ∈ R0, x ∈ R'
end Go.Proofs.Qu
namespace Go.Proofs.YtjmibgomkgkhnaaGreat
open Go.Proofs.Qu Go.Proofs.Nm Go.RowKit Go.Proofs
theorem Put_N {w0 w : World} {L : List (Nat × Array Value)} {R R0 : List (Nat × Value × List Value)} (hv : Mem w0 w L R) (hR : ∀ x ∈ R0, x ∈ R) {vb vc : Nat} {M D : List Nat} (hm : InM R0 vb 0 1900 vc M) (pi : Int) (p : Nat) (hpi : pi = (p : Nat)) {dv : Value} (hd : (1, dv, cellsB D) ∈ R0) (hg : goodB D) (h2 : p + D.length ≤ 1900) : Calls Tryz.prog 30 #[.agg #[.slice (some ⟨vb, 0, none⟩) 1900 vc], .int .i64 pi, dv] w fun e w' => ∃ v R', e = .returned v ∧ PutNW R0 (putB M p D) v R' ∧ Mem w0 w' L R' ∧ ∀ x ∈ R, x ∈ R' := by
 subst hpi
 refine (Put_any hv (hm.mono hR) p (hR _ hd) hg h2).mono ?_
 rintro e w' ⟨b, c, R', rfl, hv1, hi, hs⟩
 exact ⟨_, R', rfl, ⟨b, c, rfl, hi, fun x hx => hs x (hR x hx)⟩, hv1, hs⟩
theorem Index_0 (v : Value) (l : List Nat) (hl : ∀ y ∈ l, y ≤ 1000000) (hn : l.length ≤ 1000) (w : World) (hr : Rd w 1 v (intsI l)) : Calls Tryz.prog 36 #[v, .int .i64 0] w fun e w' => e = .returned (.int .i64 (idxF (· == 0) l)) ∧ New w w' := Index_any v l 0 (Nat.zero_le _) hl hn w hr
theorem Send_nil {w0 w : World} {L : List (Nat × Array Value)} {R : List (Nat × Value × List Value)} (hv : Mem w0 w L R) {rav rla rfn rfc rcn rcc tav tla tfn tfc tcn tcc vb vc : Nat} {rfa rca tfa tca : Option Addr} {rfree tfree : List Nat} {rchs tchs : List Chn} {i0 i1 i2 i3 o0 o1 o2 o3 : Nat} {M D : List Nat} (hn : NetQ R (.slice rfa rfn rfc) (.slice rca rcn rcc) (.slice tfa tfn tfc) (.slice tca tcn tcc) rfree rchs tfree tchs [i0, i1, i2, i3] [o0, o1, o2, o3]) : Calls Tryz.prog 13 #[.agg #[.slice (some ⟨vb, 0, none⟩) 1900 vc], .agg #[.int .i64 0, .int .i64 4, .slice rfa rfn rfc, .int .u16 rav, .int .u16 rla, .slice rca rcn rcc, .int .i64 120, .int .i64 4, .slice tfa tfn tfc, .int .u16 tav, .int .u16 tla, .slice tca tcn tcc, .int .i64 300, .int .i64 i0, .int .i64 i1, .int .i64 i2, .int .i64 i3, .int .i64 o0, .int .i64 o1, .int .i64 o2, .int .i64 o3], .slice none 0 0] w fun e w' => e = .returned (.tuple #[.agg #[.slice (some ⟨vb, 0, none⟩) 1900 vc], .agg #[.int .i64 0, .int .i64 4, .slice rfa rfn rfc, .int .u16 rav, .int .u16 rla, .slice rca rcn rcc, .int .i64 120, .int .i64 4, .slice tfa tfn tfc, .int .u16 tav, .int .u16 tla, .slice tca tcn tcc, .int .i64 300, .int .i64 i0, .int .i64 i1, .int .i64 i2, .int .i64 i3, .int .i64 o0, .int .i64 o1, .int .i64 o2, .int .i64 o3], .int .i64 2]) ∧ Mem w0 w' L R := by
 have HN := Lib.hid hn
 have HOL : Hid (∀ y ∈ [o0, o1, o2, o3], y ≤ 1000000) := Lib.hid (fun y hy => Nat.le_trans (hn.ol y hy) (by decide))
 have HLE : Hid ([o0, o1, o2, o3].length ≤ 1000) := Lib.hid (by show 4 ≤ 1000; decide)
 obtain ⟨r, hi⟩ : ∃ r, idxF (· == 0) [o0, o1, o2, o3] = r := ⟨_, rfl⟩
 have HI := Lib.hid hi
 clear hn hi
 go_enter Tryz.func13, Tryz.ntmps13
 go_wp2_with (first
   | ((with_reducible refine at_box (T := 26) (dst := some 3) ?_); refine wl_newb rfl #[.slice (some ⟨vb, 0, none⟩) 1900 vc] 26 (fun _ => rfl) ?_; intro b_3 w2 hm2; replace hv := hv.madeAt hm2; clear hm2)
   | ((with_reducible refine at_box (T := 33) (dst := some 4) ?_); refine wl_newb rfl #[.int .i64 0, .int .i64 4, .slice rfa rfn rfc, .int .u16 rav, .int .u16 rla, .slice rca rcn rcc, .int .i64 120, .int .i64 4, .slice tfa tfn tfc, .int .u16 tav, .int .u16 tla, .slice tca tcn tcc, .int .i64 300, .int .i64 i0, .int .i64 i1, .int .i64 i2, .int .i64 i3, .int .i64 o0, .int .i64 o1, .int .i64 o2, .int .i64 o3] 33 (fun _ => rfl) ?_; intro b_4 w2 hm2; replace hv := hv.madeAt hm2; clear hm2)
   | ((with_reducible refine at_alloc (T := 26) (dst := some 6) ?_); refine wl_newb rfl #[.slice none 0 0] 26 (fun _ => rfl) ?_; intro b_6 w2 hm2; replace hv := hv.madeAt hm2; clear hm2)
   | ((with_reducible refine at_alloc (T := 33) (dst := some 7) ?_); refine wl_newb rfl #[.int .i64 0, .int .i64 0, .slice none 0 0, .int .u16 0, .int .u16 0, .slice none 0 0, .int .i64 0, .int .i64 0, .slice none 0 0, .int .u16 0, .int .u16 0, .slice none 0 0, .int .i64 0, .int .i64 0, .int .i64 0, .int .i64 0, .int .i64 0, .int .i64 0, .int .i64 0, .int .i64 0, .int .i64 0] 33 (fun _ => rfl) ?_; intro b_7 w2 hm2; replace hv := hv.madeAt hm2; clear hm2)
   | (go_at_call 36; have HRD := rd_four (o := 17) (x0 := o0) (x1 := o1) (x2 := o2) (x3 := o3) (hv.vars.ro (b := b_4)) (hv.vars.so (b := b_4)) rfl rfl rfl rfl; (with_reducible refine (Index_0 _ _ HOL.out HLE.out _ HRD).mono ?_); rw [HI.out]; rintro e w1 ⟨rfl, hn1⟩; replace hv := hv.new hn1; clear hn1 HRD)
   | ((with_reducible refine at_load (T := 33) ?_); refine wl_ldv rfl b_4 rfl _ hv.vars.ro 21 _ Tryz.underlying33 rfl infoN (by decide) rfl ?_)
   | (go_at_call 12; (with_reducible refine (NCheck_ok hv HN.out).mono ?_); rintro e w1 ⟨rfl, hn1⟩; replace hv := hv.new hn1; clear hn1))
 replace hv : Mem w0 _ ([(b_7, _), (b_6, _), (b_4, _), (b_3, _)] ++ L) R := hv
 try simp only [Act.put]
 refine Bny.wp_region_walk _ _ [⟨[1003], none⟩, ⟨[1002], none⟩, ⟨[1001], some 1001⟩, ⟨[1000], some 1000⟩, ⟨[], none⟩] [.val, .val, .put, .put, .val] (by kernel_rfl) (by kernel_rfl) hv ?_
 simp only [List.length_cons, List.length_nil, Nat.zero_add, Any.someVals]
 iterate 5 apply Exists.intro
 repeat (first
   | (refine Bny.E_off rfl ?_; simp only [Act.put, sia, scs, scz])
   | ((with_reducible refine Bny.at_estore (T := 26) ?_); refine Bny.E_putv (T := 26) rfl rfl rfl rfl rfl rfl 1 infoM rfl rfl (by simp [Value.oneCell']) ?_; simp only [Act.put, sia, scs, scz])
   | ((with_reducible refine Bny.at_estore (T := 33) ?_); refine Bny.E_putv (T := 33) rfl rfl rfl rfl rfl rfl 21 infoN rfl rfl (by simp [Value.oneCell']) ?_; simp only [Act.put, sia, scs, scz])
   | (apply Bny.E_pureq rfl rfl rfl
      case h => intro K hK; go_big_quiet_op; (refine hK _ ?_; rfl)
      case hr => exact fun _ => rfl
      simp only [Act.put, sia, scs, scz])
   | (apply Bny.E_val rfl rfl rfl rfl
      case h =>
        intro E' hA K hK
        first
          | ((with_reducible refine Bny.at_qload (T := 26) ?_); refine Bny.q_ldv 1003 hA (by decide) rfl rfl 1 _ Tryz.underlying26 rfl infoM (by decide) rfl ?_; refine hK _ ?_; rfl)
          | ((with_reducible refine Bny.at_qload (T := 33) ?_); refine Bny.q_ldv 1002 hA (by decide) rfl rfl 21 _ Tryz.underlying33 rfl infoN (by decide) rfl ?_; refine hK _ ?_; rfl)
          | (go_big_quiet_op; first
            | (refine hK _ ?_; rfl)
            | (refine ⟨_, fun _ _ => rfl, ?_⟩; refine hK _ ?_; rfl)
            | (apply Exists.intro; refine ⟨fun w1 hw1 => ?_, ?_⟩; · (first
                | fail)
               refine hK _ ?_; rfl))
      case hD => rfl
      simp only [Act.put, sia, scs, scz]))
 try any_goals exact undef
 refine Bny.E_nil ?_
 intro w9 hE9
 replace hv : Mem w0 w9 ([(b_7, #[.int .i64 0, .int .i64 4, .slice rfa rfn rfc, .int .u16 rav, .int .u16 rla, .slice rca rcn rcc, .int .i64 120, .int .i64 4, .slice tfa tfn tfc, .int .u16 tav, .int .u16 tla, .slice tca tcn tcc, .int .i64 300, .int .i64 i0, .int .i64 i1, .int .i64 i2, .int .i64 i3, .int .i64 o0, .int .i64 o1, .int .i64 o2, .int .i64 o3]), (b_6, #[.slice (some ⟨vb, 0, none⟩) 1900 vc]), (b_4, #[.int .i64 0, .int .i64 4, .slice rfa rfn rfc, .int .u16 rav, .int .u16 rla, .slice rca rcn rcc, .int .i64 120, .int .i64 4, .slice tfa tfn tfc, .int .u16 tav, .int .u16 tla, .slice tca tcn tcc, .int .i64 300, .int .i64 i0, .int .i64 i1, .int .i64 i2, .int .i64 i3, .int .i64 o0, .int .i64 o1, .int .i64 o2, .int .i64 o3]), (b_3, #[.slice (some ⟨vb, 0, none⟩) 1900 vc])] ++ L) R := hE9.mem0 [1000, 1001, 1002, 1003] (by decide)
 clear hE9
 simp only [List.cons_append, List.nil_append] at hv
 go_wp2
 try simp only [Exit.inBlock, Exit.then]
 refine ret_cct (v := .agg #[.slice (some ⟨vb, 0, none⟩) 1900 vc]) (v' := .agg #[.int .i64 0, .int .i64 4, .slice rfa rfn rfc, .int .u16 rav, .int .u16 rla, .slice rca rcn rcc, .int .i64 120, .int .i64 4, .slice tfa tfn tfc, .int .u16 tav, .int .u16 tla, .slice tca tcn tcc, .int .i64 300, .int .i64 i0, .int .i64 i1, .int .i64 i2, .int .i64 i3, .int .i64 o0, .int .i64 o1, .int .i64 o2, .int .i64 o3]) (v1 := .int .i64 2) rfl rfl rfl (read_row _ b_6 26 _ (hv.vars.ro (b := b_6)) 1 _ Tryz.underlying26 rfl infoM (by decide) rfl) (read_row _ b_7 33 _ (hv.vars.ro (b := b_7)) 21 _ Tryz.underlying33 rfl infoN (by decide) rfl) rfl rfl ?_
 exact ⟨rfl, hv.keep (by exact List.sublist_append_right [_, _, _, _] L)⟩
theorem built_ns0 (dn : Nat) : Tryz.prog.built 91 [(0, .int .i64 1068), (1, .int .i64 dn)] = some #[.int .i64 1068, .int .i64 dn, .bool false] := by kernel_rfl
theorem Send_0 {w0 w : World} {L : List (Nat × Array Value)} {R : List (Nat × Value × List Value)} (hv : Mem w0 w L R) {rav rla rfn rfc rcn rcc tav tla tfn tfc tcn tcc vb vc dn dc : Nat} {rfa rca tfa tca da : Option Addr} {rfree tfree : List Nat} {rchs tchs : List Chn} {i0 i1 i2 i3 o0 o1 o2 o3 : Nat} {M D : List Nat} {av1 nf1 nc1 hd x1 : Nat} (hn : NetQ R (.slice rfa rfn rfc) (.slice rca rcn rcc) (.slice tfa tfn tfc) (.slice tca tcn tcc) rfree rchs tfree tchs [i0, i1, i2, i3] [o0, o1, o2, o3]) (hm : InM R vb 0 1900 vc M) (hdr : (1, .slice da dn dc, cellsB D) ∈ R) (hgd : goodB D) (hn1 : 1 ≤ dn) (hn2 : dn ≤ 180) (hav : tav < 65535) (hav1 : tav + 1 = av1) (h0 : tfn = nf1 + 1) (h1 : tcn + 1 = nc1) (hh : tfree.getD 0 0 = hd) (hx : hd + 1 = x1) (hx4 : hd < 1000) (hi : idxF (· == 0) [o0, o1, o2, o3] = 0) :
   Calls Tryz.prog 13 #[.agg #[.slice (some ⟨vb, 0, none⟩) 1900 vc], .agg #[.int .i64 0, .int .i64 4, .slice rfa rfn rfc, .int .u16 rav, .int .u16 rla, .slice rca rcn rcc, .int .i64 120, .int .i64 4, .slice tfa tfn tfc, .int .u16 tav, .int .u16 tla, .slice tca tcn tcc, .int .i64 300, .int .i64 i0, .int .i64 i1, .int .i64 i2, .int .i64 i3, .int .i64 o0, .int .i64 o1, .int .i64 o2, .int .i64 o3], .slice da dn dc] w fun e w' => ∃ vb3 vc3 fc3 cc3 fa3 ca3 c3 R3, e = .returned (.tuple #[.agg #[.slice (some ⟨vb3, 0, none⟩) 1900 vc3], .agg #[.int .i64 0, .int .i64 4, .slice rfa rfn rfc, .int .u16 rav, .int .u16 rla, .slice rca rcn rcc, .int .i64 120, .int .i64 4, .slice fa3 nf1 fc3, .int .u16 av1, .int .u16 tla, .slice ca3 nc1 cc3, .int .i64 300, .int .i64 i0, .int .i64 i1, .int .i64 i2, .int .i64 i3, .int .i64 x1, .int .i64 o1, .int .i64 o2, .int .i64 o3], .int .i64 0]) ∧ Mem w0 w' L R3 ∧ InM R3 vb3 0 1900 vc3 (addM (putB M 1068 D) 120 4 tav tfree [(1068, dn, false)]) ∧ InQ R3 (.slice fa3 nf1 fc3) (.slice ca3 nc1 cc3) (tfree.drop 1) (tchs ++ [c3]) ∧ OkQ 4 (tfree.drop 1) (tchs ++ [c3]) ∧ c3.h = hd ∧ c3.ds = [hd] ∧ c3.rm = 0 ∧ ∀ x ∈ R, x ∈ R3 := by
 have hdl : D.length = dn := by
   obtain ⟨_, _, _, e, g, _⟩ := hv.rd hdr
   cases e
   rw [cellsB_len] at g; omega
 have HN := Lib.hid hn
 have HM := Lib.hid hm
 have HDR := Lib.hid hdr
 have HGD := Lib.hid hgd
 have HAV := Lib.hid hav
 have HA1 := Lib.hid hav1
 have H0 := Lib.hid h0
 have H1 := Lib.hid h1
 have HH := Lib.hid hh
 have HI := Lib.hid hi
 have HPL : Hid (1068 + D.length ≤ 1900) := Lib.hid (by omega)
 have HPP : Hid (0 < ((1068, dn, false) : Pt).2.1 ∧ ((1068, dn, false) : Pt).1 + ((1068, dn, false) : Pt).2.1 ≤ 1900) := Lib.hid ⟨by show 0 < dn; omega, by show 1068 + dn ≤ 1900; omega⟩
 have HOL : Hid (∀ y ∈ [o0, o1, o2, o3], y ≤ 1000000) := Lib.hid (fun y hy => Nat.le_trans (hn.ol y hy) (by decide))
 have HLE : Hid ([o0, o1, o2, o3].length ≤ 1000) := Lib.hid (by show 4 ≤ 1000; decide)
 have y1 : decide ((dn : Int) < 1) = false := decide_eq_false (by omega)
 have z1 : decide (dn < 1) = false := decide_eq_false (by omega)
 have y2 : decide ((180 : Int) < (dn : Int)) = false := decide_eq_false (by omega)
 have z2 : decide (180 < dn) = false := decide_eq_false (by omega)
 have q1 : IntKind.i64.wrap ((hd : Int) + 1) = (x1 : Int) := by rw [IntWalk.i64_in _ (by omega)]; omega
 have HKN : Hid (∀ (R2 : List (Nat × Value × List Value)) (w0 : World) (L : List (Nat × Array Value)) (B9 : Nat) {E : Bny.Env} (ks : List Nat), 9 ∈ ks → E 9 = .rds [(3, .slice (some ⟨B9, 0, none⟩) 1 1, cellsPt [(1068, dn, false)])] → ∀ x ∈ (3, Value.slice (some ⟨B9, 0, none⟩) 1 1, cellsPt [(1068, dn, false)]) :: R2, Bny.Known ⟨w0, L, R2⟩ E ks x) := Lib.hid (fun R2 w0 L B9 E ks h1 h2 x hx => by
   rcases List.mem_cons.1 hx with rfl | hx
   · exact .inr ⟨9, h1, by rw [h2]; exact List.mem_singleton_self _⟩
   · exact .inl hx)
 have HSO : Hid (∃ v R', PutNW R (putB M 1068 D) v R') := Lib.hid (Bny.some_of (Put_N hv (fun x hx => hx) hm 1068 1068 rfl hdr hgd HPL.out))
 clear hn hm hdr hgd hn1 hn2 hav hav1 h0 h1 hh hx hx4 hi hdl
 go_enter Tryz.func13, Tryz.ntmps13
 go_wp2_with (first
   | ((with_reducible refine at_box (T := 26) (dst := some 3) ?_); refine wl_newb rfl #[.slice (some ⟨vb, 0, none⟩) 1900 vc] 26 (fun _ => rfl) ?_; intro b_3 w2 hm2; replace hv := hv.madeAt hm2; clear hm2)
   | ((with_reducible refine at_box (T := 33) (dst := some 4) ?_); refine wl_newb rfl #[.int .i64 0, .int .i64 4, .slice rfa rfn rfc, .int .u16 rav, .int .u16 rla, .slice rca rcn rcc, .int .i64 120, .int .i64 4, .slice tfa tfn tfc, .int .u16 tav, .int .u16 tla, .slice tca tcn tcc, .int .i64 300, .int .i64 i0, .int .i64 i1, .int .i64 i2, .int .i64 i3, .int .i64 o0, .int .i64 o1, .int .i64 o2, .int .i64 o3] 33 (fun _ => rfl) ?_; intro b_4 w2 hm2; replace hv := hv.madeAt hm2; clear hm2)
   | ((with_reducible refine at_alloc (T := 26) (dst := some 6) ?_); refine wl_newb rfl #[.slice none 0 0] 26 (fun _ => rfl) ?_; intro b_6 w2 hm2; replace hv := hv.madeAt hm2; clear hm2)
   | ((with_reducible refine at_alloc (T := 33) (dst := some 7) ?_); refine wl_newb rfl #[.int .i64 0, .int .i64 0, .slice none 0 0, .int .u16 0, .int .u16 0, .slice none 0 0, .int .i64 0, .int .i64 0, .slice none 0 0, .int .u16 0, .int .u16 0, .slice none 0 0, .int .i64 0, .int .i64 0, .int .i64 0, .int .i64 0, .int .i64 0, .int .i64 0, .int .i64 0, .int .i64 0, .int .i64 0] 33 (fun _ => rfl) ?_; intro b_7 w2 hm2; replace hv := hv.madeAt hm2; clear hm2)
   | (go_at_call 36; have HRD := rd_four (o := 17) (x0 := o0) (x1 := o1) (x2 := o2) (x3 := o3) (hv.vars.ro (b := b_4)) (hv.vars.so (b := b_4)) rfl rfl rfl rfl; (with_reducible refine (Index_0 _ _ HOL.out HLE.out _ HRD).mono ?_); rw [HI.out]; rintro e w1 ⟨rfl, hn1⟩; replace hv := hv.new hn1; clear hn1 HRD)
   | ((with_reducible refine at_load (T := 33) ?_); refine wl_ldv rfl b_4 rfl _ hv.vars.ro 21 _ Tryz.underlying33 rfl infoN (by decide) rfl ?_)
   | (go_at_call 12; (with_reducible refine (NCheck_ok hv HN.out).mono ?_); rintro e w1 ⟨rfl, hn1⟩; replace hv := hv.new hn1; clear hn1))
 replace hv : Mem w0 _ ([(b_7, _), (b_6, _), (b_4, _), (b_3, _)] ++ L) R := hv
 try simp only [Act.put]
 refine Bny.wp_region_walk _ _ [⟨[1003], none⟩, ⟨[1002], none⟩, ⟨[], none⟩, ⟨[], none⟩, ⟨[], none⟩, ⟨[], some 5⟩, ⟨[], none⟩, ⟨[], none⟩, ⟨[], none⟩, ⟨[], some 9⟩, ⟨[9], some 9⟩, ⟨[], none⟩] [.val, .val, .val, .val, .val, .mem (PutNW R (putB M 1068 D)), .pure, .pure, .pure, .lay #[.slice none 0 0], .put, .pure] (by kernel_rfl) (by kernel_rfl) hv ?_
 simp only [List.length_cons, List.length_nil, Nat.zero_add, Any.someVals]
 iterate 12 apply Exists.intro
 repeat (first
   | (refine Bny.E_off rfl ?_; simp only [Act.put, sia, scs, scz])
   | ((with_reducible refine Bny.at_ealloc ?_); refine Bny.E_lay (t := 26) rfl rfl rfl (fun _ => rfl) ?_; intro b_9; simp only [Act.put, sia, scs, scz])
   | ((with_reducible refine Bny.at_estore (T := 26) ?_); refine Bny.E_putv (T := 26) rfl rfl rfl rfl rfl rfl 1 infoM rfl rfl (by simp [Value.oneCell']) ?_; simp only [Act.put, sia, scs, scz])
   | ((with_reducible refine Bny.at_ecallf (f := 30) ?_); refine Bny.E_callmem rfl rfl rfl (Go.Proofs.enters_of Tryz.func30 (by kernel_rfl) rfl) rfl [.agg #[.slice (some ⟨vb, 0, none⟩) 1900 vc], .int .i64 1068, .slice da dn dc] rfl HSO.out R (fun x hx => .inl hx) (fun w0 w L R' hm hs => Put_N hm hs HM.out 1068 1068 rfl HDR.out HGD.out HPL.out) ?_; rintro v R2 ⟨vb2, vc2, rfl, hi2, hs2⟩; have HI2 := Lib.hid hi2; have HS2 := Lib.hid hs2; clear hi2 hs2; simp only [Act.put, sia, scs, scz])
   | (apply Bny.E_pureq rfl rfl rfl
      case h => intro K hK; go_big_quiet_op; (refine hK _ ?_; rfl)
      case hr => exact fun _ => rfl
      simp only [Act.put, sia, scs, scz])
   | (apply Bny.E_val rfl rfl rfl rfl
      case h =>
        intro E' hA K hK
        first
          | ((with_reducible refine Bny.at_qload (T := 26) ?_); refine Bny.q_ldv 1003 hA (by decide) rfl rfl 1 _ Tryz.underlying26 rfl infoM (by decide) rfl ?_; refine hK _ ?_; rfl)
          | ((with_reducible refine Bny.at_qload (T := 33) ?_); refine Bny.q_ldv 1002 hA (by decide) rfl rfl 21 _ Tryz.underlying33 rfl infoN (by decide) rfl ?_; refine hK _ ?_; rfl)
          | (go_big_quiet_op; first
            | (refine hK _ ?_; rfl)
            | (refine ⟨_, fun _ _ => rfl, ?_⟩; refine hK _ ?_; rfl)
            | (apply Exists.intro; refine ⟨fun w1 hw1 => ?_, ?_⟩; · (first
                | (go_at_call 37; exact Bny.calls_VE (outg_0 _) hw1))
               refine hK _ ?_; rfl))
      case hD => rfl
      simp only [Act.put, sia, scs, scz]))
 try any_goals exact undef
 refine Bny.E_nil ?_
 intro w9 hE9
 replace hv : Mem w0 w9 ([(b_9, #[.slice (some ⟨vb2, 0, none⟩) 1900 vc2]), (b_7, #[.int .i64 0, .int .i64 0, .slice none 0 0, .int .u16 0, .int .u16 0, .slice none 0 0, .int .i64 0, .int .i64 0, .slice none 0 0, .int .u16 0, .int .u16 0, .slice none 0 0, .int .i64 0, .int .i64 0, .int .i64 0, .int .i64 0, .int .i64 0, .int .i64 0, .int .i64 0, .int .i64 0, .int .i64 0]), (b_6, #[.slice none 0 0]), (b_4, #[.int .i64 0, .int .i64 4, .slice rfa rfn rfc, .int .u16 rav, .int .u16 rla, .slice rca rcn rcc, .int .i64 120, .int .i64 4, .slice tfa tfn tfc, .int .u16 tav, .int .u16 tla, .slice tca tcn tcc, .int .i64 300, .int .i64 i0, .int .i64 i1, .int .i64 i2, .int .i64 i3, .int .i64 o0, .int .i64 o1, .int .i64 o2, .int .i64 o3]), (b_3, #[.slice (some ⟨vb, 0, none⟩) 1900 vc])] ++ L) R2 := hE9.mem1 [9, 1000, 1001, 1002, 1003] (by decide) 5 rfl
 clear hE9
 simp only [List.cons_append, List.nil_append] at hv
 have HTQ : Hid (InQ R2 (.slice tfa tfn tfc) (.slice tca tcn tcc) tfree tchs) := Lib.hid (HN.out.tq.mono HS2.out)
 have HTO : Hid (OkQ 4 tfree tchs) := Lib.hid HN.out.to
 have HSP : Hid (∃ v R', AddNW R2 120 120 tav av1 tla nf1 nc1 hd (putB M 1068 D) tfree tchs (1068, dn, false) v R') := Lib.hid (Bny.some_of (Add_N (hv.bsl' (k := 3) (n := 1) (c := cellsPt [(1068, dn, false)]) ⟨rfl, made_alloc _ #[.int .i64 1068, .int .i64 dn, .bool false] 91⟩ rfl rfl (by unfold maxLen; omega)) (fun x hx => Mem.s hx) 120 120 rfl (by decide) HI2.out HTQ.out HTO.out HAV.out HA1.out H0.out H1.out HH.out (1068, dn, false) HPP.out Mem.z))
 replace HKN := Lib.hid (HKN.out R2 w0 L)
 go_wp2_with (first
   | fail)
 replace hv : Mem w0 _ ([(b_9, _), (b_7, _), (b_6, _), (b_4, _), (b_3, _)] ++ L) R2 := hv
 try simp only [Act.put]
 refine Bny.wp_region_walk _ _ [⟨[1000], none⟩, ⟨[], none⟩, ⟨[1003], none⟩, ⟨[1003], none⟩, ⟨[], none⟩, ⟨[], none⟩, ⟨[], none⟩, ⟨[], none⟩, ⟨[], none⟩, ⟨[], some 9⟩, ⟨[9], some 10⟩, ⟨[], none⟩, ⟨[], none⟩, ⟨[], none⟩, ⟨[], none⟩, ⟨[], none⟩, ⟨[], some 16⟩, ⟨[1000], some 1000⟩, ⟨[16], some 16⟩, ⟨[], none⟩, ⟨[], none⟩] [.val, .val, .val, .val, .val, .val, .val, .val, .val, .bslR 3 1 #[.int .i64 1068, .int .i64 dn, .bool false], .mem (AddNW R2 120 120 tav av1 tla nf1 nc1 hd (putB M 1068 D) tfree tchs (1068, dn, false)), .pure, .pure, .pure, .pure, .pure, .lay #[.int .i64 0, .int .i64 0, .slice none 0 0, .int .u16 0, .int .u16 0, .slice none 0 0], .put, .put, .pure, .pure] (by kernel_rfl) (by kernel_rfl) hv ?_
 simp only [List.length_cons, List.length_nil, Nat.zero_add, Any.someVals]
 iterate 21 apply Exists.intro
 repeat (first
   | (refine Bny.E_off rfl ?_; simp only [Act.put, sia, scs, scz])
   | ((with_reducible refine Bny.at_ealloc ?_); refine Bny.E_lay (t := 30) rfl rfl rfl (fun _ => rfl) ?_; intro b_16; simp only [Act.put, sia, scs, scz])
   | ((with_reducible refine Bny.at_estore (T := 26) ?_); refine Bny.E_putv (T := 26) rfl rfl rfl rfl rfl rfl 1 infoM rfl rfl (by simp [Value.oneCell']) ?_; simp only [Act.put, sia, scs, scz])
   | ((with_reducible refine Bny.at_estore (T := 30) ?_); refine Bny.E_putv (T := 30) rfl rfl rfl rfl rfl rfl 6 infoQ rfl rfl (by simp [Value.oneCell']) ?_; simp only [Act.put, sia, scs, scz])
   | ((with_reducible refine Bny.at_ecallf (f := 38) ?_); refine Bny.E_callmem rfl rfl rfl (Go.Proofs.enters_of Tryz.func38 (by kernel_rfl) rfl) rfl [.agg #[.slice (some ⟨vb2, 0, none⟩) 1900 vc2], .agg #[.int .i64 120, .int .i64 4, .slice tfa tfn tfc, .int .u16 tav, .int .u16 tla, .slice tca tcn tcc], .slice (some ⟨B9, 0, none⟩) 1 1] rfl HSP.out ((3, .slice (some ⟨B9, 0, none⟩) 1 1, cellsPt [(1068, dn, false)]) :: R2) (HKN.out B9 _ (by decide) rfl) (fun w0 w L R' hm hs => Add_N hm (fun x hx => hs x (List.mem_cons_of_mem _ hx)) 120 120 rfl (by decide) HI2.out HTQ.out HTO.out HAV.out HA1.out H0.out H1.out HH.out (1068, dn, false) HPP.out (hs _ (List.mem_cons_self ..))) ?_; rintro v R3 ⟨vb3, vc3, fc3, cc3, fa3, ca3, c3, rfl, hi3, hq3, ho3, k1, k2, k3, hs3⟩; have HI3 := Lib.hid hi3; have HQ3 := Lib.hid hq3; have HO3 := Lib.hid ho3; have K1 := Lib.hid k1; have K2 := Lib.hid k2; have K3 := Lib.hid k3; have HS3 := Lib.hid hs3; clear hi3 hq3 ho3 k1 k2 k3 hs3; simp only [Act.put, sia, scs, scz])
   | ((with_reducible refine Bny.at_ebsl ?_); refine Bny.E_bslR (t := 91) rfl rfl rfl (fun w' => (by unfold execOp; go_simp)) rfl (by unfold maxLen; omega) ?_; intro B9; simp only [Act.put, sia, scs, scz])
   | (apply Bny.E_pureq rfl rfl rfl
      case h => intro K hK; go_big_quiet_op; (refine hK _ ?_; rfl)
      case hr => exact fun _ => rfl
      simp only [Act.put, sia, scs, scz])
   | (apply Bny.E_val rfl rfl rfl rfl
      case h =>
        intro E' hA K hK
        first
          | ((with_reducible refine Bny.at_qload (T := 26) ?_); refine Bny.q_ldv 1000 hA (by decide) rfl rfl 1 _ Tryz.underlying26 rfl infoM (by decide) rfl ?_; refine hK _ ?_; rfl)
          | ((with_reducible refine Bny.at_qload (T := 30) ?_); refine Bny.q_ldp 1003 (o := 6) hA (by decide) rfl rfl 6 _ Tryz.underlying30 rfl infoQ (by decide) (by show 6 + 6 ≤ 21; decide) #[.int .i64 120, .int .i64 4, .slice tfa tfn tfc, .int .u16 tav, .int .u16 tla, .slice tca tcn tcc] rfl ?_; refine hK _ ?_; rfl)
          | ((with_reducible refine Bny.at_qload (T := 33) ?_); refine Bny.q_ldv 1003 hA (by decide) rfl rfl 21 _ Tryz.underlying33 rfl infoN (by decide) rfl ?_; refine hK _ ?_; rfl)
          | ((with_reducible refine Any.at_qbuild (T := 91) ?_); refine Any.q_build _ rfl (built_ns0 dn) ?_; refine hK _ ?_; rfl)
          | (go_big_quiet_op; first
            | (refine hK _ ?_; rfl)
            | (refine ⟨_, fun _ _ => rfl, ?_⟩; refine hK _ ?_; rfl)
            | (apply Exists.intro; refine ⟨fun w1 hw1 => ?_, ?_⟩; · (first
                | (go_at_call 37; exact Bny.calls_VE (outg_0 _) hw1))
               refine hK _ ?_; rfl))
      case hD => rfl
      simp only [Act.put, sia, scs, scz]))
 try any_goals exact undef
 refine Bny.E_nil ?_
 intro w9 hE9
 replace hv : Mem w0 w9 ([(b_16, #[.int .i64 120, .int .i64 4, .slice fa3 nf1 fc3, .int .u16 av1, .int .u16 tla, .slice ca3 nc1 cc3]), (b_9, #[.slice (some ⟨vb3, 0, none⟩) 1900 vc3]), (b_7, #[.int .i64 0, .int .i64 0, .slice none 0 0, .int .u16 0, .int .u16 0, .slice none 0 0, .int .i64 0, .int .i64 0, .slice none 0 0, .int .u16 0, .int .u16 0, .slice none 0 0, .int .i64 0, .int .i64 0, .int .i64 0, .int .i64 0, .int .i64 0, .int .i64 0, .int .i64 0, .int .i64 0, .int .i64 0]), (b_6, #[.slice none 0 0]), (b_4, #[.int .i64 0, .int .i64 4, .slice rfa rfn rfc, .int .u16 rav, .int .u16 rla, .slice rca rcn rcc, .int .i64 120, .int .i64 4, .slice tfa tfn tfc, .int .u16 tav, .int .u16 tla, .slice tca tcn tcc, .int .i64 300, .int .i64 i0, .int .i64 i1, .int .i64 i2, .int .i64 i3, .int .i64 o0, .int .i64 o1, .int .i64 o2, .int .i64 o3]), (b_3, #[.slice (some ⟨vb, 0, none⟩) 1900 vc])] ++ L) R3 := hE9.mem1 [16, 1000, 1001, 1002, 1003, 1004] (by decide) 10 rfl
 clear hE9
 simp only [List.cons_append, List.nil_append] at hv
 go_wp2_with (first
   | ((with_reducible refine at_load (T := 30) ?_); refine wl_ldv rfl b_16 rfl _ hv.vars.ro 6 _ Tryz.underlying30 rfl infoQ (by decide) rfl ?_)
   | ((with_reducible refine at_store (T := 30) ?_); refine wl_stp rfl b_4 6 rfl _ rfl _ hv.vars.ro hv.vars.so 6 infoQ rfl (by show 6 + 6 ≤ 21; decide) (by simp [Value.oneCell']) #[.int .i64 0, .int .i64 4, .slice rfa rfn rfc, .int .u16 rav, .int .u16 rla, .slice rca rcn rcc, .int .i64 120, .int .i64 4, .slice fa3 nf1 fc3, .int .u16 av1, .int .u16 tla, .slice ca3 nc1 cc3, .int .i64 300, .int .i64 i0, .int .i64 i1, .int .i64 i2, .int .i64 i3, .int .i64 o0, .int .i64 o1, .int .i64 o2, .int .i64 o3] (splice_21_6_6 _ _ _ _ _ _ _ _ _ _ _ _ _ _ _ _ _ _ _ _ _ _ _ _ _ _ _) ?_; intro w2 hw2; replace hv := hv.sets (by repeat first | exact .z | apply SetM.s) hw2; clear hw2)
   | ((with_reducible refine at_store (T := 3) ?_); refine wl_stc rfl b_4 17 rfl (.int .i64 x1) rfl _ hv.vars.ro hv.vars.so (by kernel_rfl) rfl (by show 17 < 21; decide) ?_; intro w2 hw2; replace hv := hv.sets (by repeat first | exact .z | apply SetM.s) hw2; clear hw2; simp only [sia, scs, scz] at hv))
 replace hv : Mem w0 _ ([(b_16, _), (b_9, _), (b_7, _), (b_6, _), (b_4, _), (b_3, _)] ++ L) R3 := hv
 try simp only [Act.put]
 refine Bny.wp_region_walk _ _ [⟨[1001], none⟩, ⟨[1004], none⟩, ⟨[1003], some 1003⟩, ⟨[1002], some 1002⟩, ⟨[], none⟩] [.val, .val, .put, .put, .val] (by kernel_rfl) (by kernel_rfl) hv ?_
 simp only [List.length_cons, List.length_nil, Nat.zero_add, Any.someVals]
 iterate 5 apply Exists.intro
 repeat (first
   | (refine Bny.E_off rfl ?_; simp only [Act.put, sia, scs, scz])
   | ((with_reducible refine Bny.at_estore (T := 26) ?_); refine Bny.E_putv (T := 26) rfl rfl rfl rfl rfl rfl 1 infoM rfl rfl (by simp [Value.oneCell']) ?_; simp only [Act.put, sia, scs, scz])
   | ((with_reducible refine Bny.at_estore (T := 33) ?_); refine Bny.E_putv (T := 33) rfl rfl rfl rfl rfl rfl 21 infoN rfl rfl (by simp [Value.oneCell']) ?_; simp only [Act.put, sia, scs, scz])
   | (apply Bny.E_pureq rfl rfl rfl
      case h => intro K hK; go_big_quiet_op; (refine hK _ ?_; rfl)
      case hr => exact fun _ => rfl
      simp only [Act.put, sia, scs, scz])
   | (apply Bny.E_val rfl rfl rfl rfl
      case h =>
        intro E' hA K hK
        first
          | ((with_reducible refine Bny.at_qload (T := 26) ?_); refine Bny.q_ldv 1001 hA (by decide) rfl rfl 1 _ Tryz.underlying26 rfl infoM (by decide) rfl ?_; refine hK _ ?_; rfl)
          | ((with_reducible refine Bny.at_qload (T := 33) ?_); refine Bny.q_ldv 1004 hA (by decide) rfl rfl 21 _ Tryz.underlying33 rfl infoN (by decide) rfl ?_; refine hK _ ?_; rfl)
          | (go_big_quiet_op; first
            | (refine hK _ ?_; rfl)
            | (refine ⟨_, fun _ _ => rfl, ?_⟩; refine hK _ ?_; rfl)
            | (apply Exists.intro; refine ⟨fun w1 hw1 => ?_, ?_⟩; · (first
                | fail)
               refine hK _ ?_; rfl))
      case hD => rfl
      simp only [Act.put, sia, scs, scz]))
 try any_goals exact undef
 refine Bny.E_nil ?_
 intro w9 hE9
 replace hv : Mem w0 w9 ([(b_16, #[.int .i64 120, .int .i64 4, .slice fa3 nf1 fc3, .int .u16 av1, .int .u16 tla, .slice ca3 nc1 cc3]), (b_9, #[.slice (some ⟨vb3, 0, none⟩) 1900 vc3]), (b_7, #[.int .i64 0, .int .i64 4, .slice rfa rfn rfc, .int .u16 rav, .int .u16 rla, .slice rca rcn rcc, .int .i64 120, .int .i64 4, .slice fa3 nf1 fc3, .int .u16 av1, .int .u16 tla, .slice ca3 nc1 cc3, .int .i64 300, .int .i64 i0, .int .i64 i1, .int .i64 i2, .int .i64 i3, .int .i64 x1, .int .i64 o1, .int .i64 o2, .int .i64 o3]), (b_6, #[.slice (some ⟨vb3, 0, none⟩) 1900 vc3]), (b_4, #[.int .i64 0, .int .i64 4, .slice rfa rfn rfc, .int .u16 rav, .int .u16 rla, .slice rca rcn rcc, .int .i64 120, .int .i64 4, .slice fa3 nf1 fc3, .int .u16 av1, .int .u16 tla, .slice ca3 nc1 cc3, .int .i64 300, .int .i64 i0, .int .i64 i1, .int .i64 i2, .int .i64 i3, .int .i64 x1, .int .i64 o1, .int .i64 o2, .int .i64 o3]), (b_3, #[.slice (some ⟨vb, 0, none⟩) 1900 vc])] ++ L) R3 := hE9.mem0 [1000, 1001, 1002, 1003, 1004, 1005] (by decide)
 clear hE9
 simp only [List.cons_append, List.nil_append] at hv
 go_wp2
 try simp only [Exit.inBlock, Exit.then]
 refine ret_cct (v := .agg #[.slice (some ⟨vb3, 0, none⟩) 1900 vc3]) (v' := .agg #[.int .i64 0, .int .i64 4, .slice rfa rfn rfc, .int .u16 rav, .int .u16 rla, .slice rca rcn rcc, .int .i64 120, .int .i64 4, .slice fa3 nf1 fc3, .int .u16 av1, .int .u16 tla, .slice ca3 nc1 cc3, .int .i64 300, .int .i64 i0, .int .i64 i1, .int .i64 i2, .int .i64 i3, .int .i64 x1, .int .i64 o1, .int .i64 o2, .int .i64 o3]) (v1 := .int .i64 0) rfl rfl rfl (read_row _ b_6 26 _ (hv.vars.ro (b := b_6)) 1 _ Tryz.underlying26 rfl infoM (by decide) rfl) (read_row _ b_7 33 _ (hv.vars.ro (b := b_7)) 21 _ Tryz.underlying33 rfl infoN (by decide) rfl) rfl rfl ?_
 exact ⟨vb3, vc3, fc3, cc3, fa3, ca3, c3, R3, rfl, hv.keep (by exact List.sublist_append_right [_, _, _, _, _, _] L), HI3.out, HQ3.out, HO3.out, K1.out, K2.out, K3.out, fun x hx => HS3.out x (HS2.out x hx)⟩
theorem built_ns1 (dn : Nat) : Tryz.prog.built 91 [(0, .int .i64 1260), (1, .int .i64 dn)] = some #[.int .i64 1260, .int .i64 dn, .bool false] := by kernel_rfl
theorem Send_1 {w0 w : World} {L : List (Nat × Array Value)} {R : List (Nat × Value × List Value)} (hv : Mem w0 w L R) {rav rla rfn rfc rcn rcc tav tla tfn tfc tcn tcc vb vc dn dc : Nat} {rfa rca tfa tca da : Option Addr} {rfree tfree : List Nat} {rchs tchs : List Chn} {i0 i1 i2 i3 o0 o1 o2 o3 : Nat} {M D : List Nat} {av1 nf1 nc1 hd x1 : Nat} (hn : NetQ R (.slice rfa rfn rfc) (.slice rca rcn rcc) (.slice tfa tfn tfc) (.slice tca tcn tcc) rfree rchs tfree tchs [i0, i1, i2, i3] [o0, o1, o2, o3]) (hm : InM R vb 0 1900 vc M) (hdr : (1, .slice da dn dc, cellsB D) ∈ R) (hgd : goodB D) (hn1 : 1 ≤ dn) (hn2 : dn ≤ 180) (hav : tav < 65535) (hav1 : tav + 1 = av1) (h0 : tfn = nf1 + 1) (h1 : tcn + 1 = nc1) (hh : tfree.getD 0 0 = hd) (hx : hd + 1 = x1) (hx4 : hd < 1000) (hi : idxF (· == 0) [o0, o1, o2, o3] = 1) :
   Calls Tryz.prog 13 #[.agg #[.slice (some ⟨vb, 0, none⟩) 1900 vc], .agg #[.int .i64 0, .int .i64 4, .slice rfa rfn rfc, .int .u16 rav, .int .u16 rla, .slice rca rcn rcc, .int .i64 120, .int .i64 4, .slice tfa tfn tfc, .int .u16 tav, .int .u16 tla, .slice tca tcn tcc, .int .i64 300, .int .i64 i0, .int .i64 i1, .int .i64 i2, .int .i64 i3, .int .i64 o0, .int .i64 o1, .int .i64 o2, .int .i64 o3], .slice da dn dc] w fun e w' => ∃ vb3 vc3 fc3 cc3 fa3 ca3 c3 R3, e = .returned (.tuple #[.agg #[.slice (some ⟨vb3, 0, none⟩) 1900 vc3], .agg #[.int .i64 0, .int .i64 4, .slice rfa rfn rfc, .int .u16 rav, .int .u16 rla, .slice rca rcn rcc, .int .i64 120, .int .i64 4, .slice fa3 nf1 fc3, .int .u16 av1, .int .u16 tla, .slice ca3 nc1 cc3, .int .i64 300, .int .i64 i0, .int .i64 i1, .int .i64 i2, .int .i64 i3, .int .i64 o0, .int .i64 x1, .int .i64 o2, .int .i64 o3], .int .i64 0]) ∧ Mem w0 w' L R3 ∧ InM R3 vb3 0 1900 vc3 (addM (putB M 1260 D) 120 4 tav tfree [(1260, dn, false)]) ∧ InQ R3 (.slice fa3 nf1 fc3) (.slice ca3 nc1 cc3) (tfree.drop 1) (tchs ++ [c3]) ∧ OkQ 4 (tfree.drop 1) (tchs ++ [c3]) ∧ c3.h = hd ∧ c3.ds = [hd] ∧ c3.rm = 0 ∧ ∀ x ∈ R, x ∈ R3 := by
 have hdl : D.length = dn := by
   obtain ⟨_, _, _, e, g, _⟩ := hv.rd hdr
   cases e
   rw [cellsB_len] at g; omega
 have HN := Lib.hid hn
 have HM := Lib.hid hm
 have HDR := Lib.hid hdr
 have HGD := Lib.hid hgd
 have HAV := Lib.hid hav
 have HA1 := Lib.hid hav1
 have H0 := Lib.hid h0
 have H1 := Lib.hid h1
 have HH := Lib.hid hh
 have HI := Lib.hid hi
 have HPL : Hid (1260 + D.length ≤ 1900) := Lib.hid (by omega)
 have HPP : Hid (0 < ((1260, dn, false) : Pt).2.1 ∧ ((1260, dn, false) : Pt).1 + ((1260, dn, false) : Pt).2.1 ≤ 1900) := Lib.hid ⟨by show 0 < dn; omega, by show 1260 + dn ≤ 1900; omega⟩
 have HOL : Hid (∀ y ∈ [o0, o1, o2, o3], y ≤ 1000000) := Lib.hid (fun y hy => Nat.le_trans (hn.ol y hy) (by decide))
 have HLE : Hid ([o0, o1, o2, o3].length ≤ 1000) := Lib.hid (by show 4 ≤ 1000; decide)
 have y1 : decide ((dn : Int) < 1) = false := decide_eq_false (by omega)
 have z1 : decide (dn < 1) = false := decide_eq_false (by omega)
 have y2 : decide ((180 : Int) < (dn : Int)) = false := decide_eq_false (by omega)
 have z2 : decide (180 < dn) = false := decide_eq_false (by omega)
 have q1 : IntKind.i64.wrap ((hd : Int) + 1) = (x1 : Int) := by rw [IntWalk.i64_in _ (by omega)]; omega
 have HKN : Hid (∀ (R2 : List (Nat × Value × List Value)) (w0 : World) (L : List (Nat × Array Value)) (B9 : Nat) {E : Bny.Env} (ks : List Nat), 9 ∈ ks → E 9 = .rds [(3, .slice (some ⟨B9, 0, none⟩) 1 1, cellsPt [(1260, dn, false)])] → ∀ x ∈ (3, Value.slice (some ⟨B9, 0, none⟩) 1 1, cellsPt [(1260, dn, false)]) :: R2, Bny.Known ⟨w0, L, R2⟩ E ks x) := Lib.hid (fun R2 w0 L B9 E ks h1 h2 x hx => by
   rcases List.mem_cons.1 hx with rfl | hx
   · exact .inr ⟨9, h1, by rw [h2]; exact List.mem_singleton_self _⟩
   · exact .inl hx)
 have HSO : Hid (∃ v R', PutNW R (putB M 1260 D) v R') := Lib.hid (Bny.some_of (Put_N hv (fun x hx => hx) hm 1260 1260 rfl hdr hgd HPL.out))
 clear hn hm hdr hgd hn1 hn2 hav hav1 h0 h1 hh hx hx4 hi hdl
 go_enter Tryz.func13, Tryz.ntmps13
 go_wp2_with (first
   | ((with_reducible refine at_box (T := 26) (dst := some 3) ?_); refine wl_newb rfl #[.slice (some ⟨vb, 0, none⟩) 1900 vc] 26 (fun _ => rfl) ?_; intro b_3 w2 hm2; replace hv := hv.madeAt hm2; clear hm2)
   | ((with_reducible refine at_box (T := 33) (dst := some 4) ?_); refine wl_newb rfl #[.int .i64 0, .int .i64 4, .slice rfa rfn rfc, .int .u16 rav, .int .u16 rla, .slice rca rcn rcc, .int .i64 120, .int .i64 4, .slice tfa tfn tfc, .int .u16 tav, .int .u16 tla, .slice tca tcn tcc, .int .i64 300, .int .i64 i0, .int .i64 i1, .int .i64 i2, .int .i64 i3, .int .i64 o0, .int .i64 o1, .int .i64 o2, .int .i64 o3] 33 (fun _ => rfl) ?_; intro b_4 w2 hm2; replace hv := hv.madeAt hm2; clear hm2)
   | ((with_reducible refine at_alloc (T := 26) (dst := some 6) ?_); refine wl_newb rfl #[.slice none 0 0] 26 (fun _ => rfl) ?_; intro b_6 w2 hm2; replace hv := hv.madeAt hm2; clear hm2)
   | ((with_reducible refine at_alloc (T := 33) (dst := some 7) ?_); refine wl_newb rfl #[.int .i64 0, .int .i64 0, .slice none 0 0, .int .u16 0, .int .u16 0, .slice none 0 0, .int .i64 0, .int .i64 0, .slice none 0 0, .int .u16 0, .int .u16 0, .slice none 0 0, .int .i64 0, .int .i64 0, .int .i64 0, .int .i64 0, .int .i64 0, .int .i64 0, .int .i64 0, .int .i64 0, .int .i64 0] 33 (fun _ => rfl) ?_; intro b_7 w2 hm2; replace hv := hv.madeAt hm2; clear hm2)
   | (go_at_call 36; have HRD := rd_four (o := 17) (x0 := o0) (x1 := o1) (x2 := o2) (x3 := o3) (hv.vars.ro (b := b_4)) (hv.vars.so (b := b_4)) rfl rfl rfl rfl; (with_reducible refine (Index_0 _ _ HOL.out HLE.out _ HRD).mono ?_); rw [HI.out]; rintro e w1 ⟨rfl, hn1⟩; replace hv := hv.new hn1; clear hn1 HRD)
   | ((with_reducible refine at_load (T := 33) ?_); refine wl_ldv rfl b_4 rfl _ hv.vars.ro 21 _ Tryz.underlying33 rfl infoN (by decide) rfl ?_)
   | (go_at_call 12; (with_reducible refine (NCheck_ok hv HN.out).mono ?_); rintro e w1 ⟨rfl, hn1⟩; replace hv := hv.new hn1; clear hn1))
 replace hv : Mem w0 _ ([(b_7, _), (b_6, _), (b_4, _), (b_3, _)] ++ L) R := hv
 try simp only [Act.put]
 refine Bny.wp_region_walk _ _ [⟨[1003], none⟩, ⟨[1002], none⟩, ⟨[], none⟩, ⟨[], none⟩, ⟨[], none⟩, ⟨[], some 5⟩, ⟨[], none⟩, ⟨[], none⟩, ⟨[], none⟩, ⟨[], some 9⟩, ⟨[9], some 9⟩, ⟨[], none⟩] [.val, .val, .val, .val, .val, .mem (PutNW R (putB M 1260 D)), .pure, .pure, .pure, .lay #[.slice none 0 0], .put, .pure] (by kernel_rfl) (by kernel_rfl) hv ?_
 simp only [List.length_cons, List.length_nil, Nat.zero_add, Any.someVals]
 iterate 12 apply Exists.intro
 repeat (first
   | (refine Bny.E_off rfl ?_; simp only [Act.put, sia, scs, scz])
   | ((with_reducible refine Bny.at_ealloc ?_); refine Bny.E_lay (t := 26) rfl rfl rfl (fun _ => rfl) ?_; intro b_9; simp only [Act.put, sia, scs, scz])
   | ((with_reducible refine Bny.at_estore (T := 26) ?_); refine Bny.E_putv (T := 26) rfl rfl rfl rfl rfl rfl 1 infoM rfl rfl (by simp [Value.oneCell']) ?_; simp only [Act.put, sia, scs, scz])
   | ((with_reducible refine Bny.at_ecallf (f := 30) ?_); refine Bny.E_callmem rfl rfl rfl (Go.Proofs.enters_of Tryz.func30 (by kernel_rfl) rfl) rfl [.agg #[.slice (some ⟨vb, 0, none⟩) 1900 vc], .int .i64 1260, .slice da dn dc] rfl HSO.out R (fun x hx => .inl hx) (fun w0 w L R' hm hs => Put_N hm hs HM.out 1260 1260 rfl HDR.out HGD.out HPL.out) ?_; rintro v R2 ⟨vb2, vc2, rfl, hi2, hs2⟩; have HI2 := Lib.hid hi2; have HS2 := Lib.hid hs2; clear hi2 hs2; simp only [Act.put, sia, scs, scz])
   | (apply Bny.E_pureq rfl rfl rfl
      case h => intro K hK; go_big_quiet_op; (refine hK _ ?_; rfl)
      case hr => exact fun _ => rfl
      simp only [Act.put, sia, scs, scz])
   | (apply Bny.E_val rfl rfl rfl rfl
      case h =>
        intro E' hA K hK
        first
          | ((with_reducible refine Bny.at_qload (T := 26) ?_); refine Bny.q_ldv 1003 hA (by decide) rfl rfl 1 _ Tryz.underlying26 rfl infoM (by decide) rfl ?_; refine hK _ ?_; rfl)
          | ((with_reducible refine Bny.at_qload (T := 33) ?_); refine Bny.q_ldv 1002 hA (by decide) rfl rfl 21 _ Tryz.underlying33 rfl infoN (by decide) rfl ?_; refine hK _ ?_; rfl)
          | (go_big_quiet_op; first
            | (refine hK _ ?_; rfl)
            | (refine ⟨_, fun _ _ => rfl, ?_⟩; refine hK _ ?_; rfl)
            | (apply Exists.intro; refine ⟨fun w1 hw1 => ?_, ?_⟩; · (first
                | (go_at_call 37; exact Bny.calls_VE (outg_1 _) hw1))
               refine hK _ ?_; rfl))
      case hD => rfl
      simp only [Act.put, sia, scs, scz]))
 try any_goals exact undef
 refine Bny.E_nil ?_
 intro w9 hE9
 replace hv : Mem w0 w9 ([(b_9, #[.slice (some ⟨vb2, 0, none⟩) 1900 vc2]), (b_7, #[.int .i64 0, .int .i64 0, .slice none 0 0, .int .u16 0, .int .u16 0, .slice none 0 0, .int .i64 0, .int .i64 0, .slice none 0 0, .int .u16 0, .int .u16 0, .slice none 0 0, .int .i64 0, .int .i64 0, .int .i64 0, .int .i64 0, .int .i64 0, .int .i64 0, .int .i64 0, .int .i64 0, .int .i64 0]), (b_6, #[.slice none 0 0]), (b_4, #[.int .i64 0, .int .i64 4, .slice rfa rfn rfc, .int .u16 rav, .int .u16 rla, .slice rca rcn rcc, .int .i64 120, .int .i64 4, .slice tfa tfn tfc, .int .u16 tav, .int .u16 tla, .slice tca tcn tcc, .int .i64 300, .int .i64 i0, .int .i64 i1, .int .i64 i2, .int .i64 i3, .int .i64 o0, .int .i64 o1, .int .i64 o2, .int .i64 o3]), (b_3, #[.slice (some ⟨vb, 0, none⟩) 1900 vc])] ++ L) R2 := hE9.mem1 [9, 1000, 1001, 1002, 1003] (by decide) 5 rfl
 clear hE9
 simp only [List.cons_append, List.nil_append] at hv
 have HTQ : Hid (InQ R2 (.slice tfa tfn tfc) (.slice tca tcn tcc) tfree tchs) := Lib.hid (HN.out.tq.mono HS2.out)
 have HTO : Hid (OkQ 4 tfree tchs) := Lib.hid HN.out.to
 have HSP : Hid (∃ v R', AddNW R2 120 120 tav av1 tla nf1 nc1 hd (putB M 1260 D) tfree tchs (1260, dn, false) v R') := Lib.hid (Bny.some_of (Add_N (hv.bsl' (k := 3) (n := 1) (c := cellsPt [(1260, dn, false)]) ⟨rfl, made_alloc _ #[.int .i64 1260, .int .i64 dn, .bool false] 91⟩ rfl rfl (by unfold maxLen; omega)) (fun x hx => Mem.s hx) 120 120 rfl (by decide) HI2.out HTQ.out HTO.out HAV.out HA1.out H0.out H1.out HH.out (1260, dn, false) HPP.out Mem.z))
 replace HKN := Lib.hid (HKN.out R2 w0 L)
 go_wp2_with (first
   | fail)
 replace hv : Mem w0 _ ([(b_9, _), (b_7, _), (b_6, _), (b_4, _), (b_3, _)] ++ L) R2 := hv
 try simp only [Act.put]
 refine Bny.wp_region_walk _ _ [⟨[1000], none⟩, ⟨[], none⟩, ⟨[1003], none⟩, ⟨[1003], none⟩, ⟨[], none⟩, ⟨[], none⟩, ⟨[], none⟩, ⟨[], none⟩, ⟨[], none⟩, ⟨[], some 9⟩, ⟨[9], some 10⟩, ⟨[], none⟩, ⟨[], none⟩, ⟨[], none⟩, ⟨[], none⟩, ⟨[], none⟩, ⟨[], some 16⟩, ⟨[1000], some 1000⟩, ⟨[16], some 16⟩, ⟨[], none⟩, ⟨[], none⟩] [.val, .val, .val, .val, .val, .val, .val, .val, .val, .bslR 3 1 #[.int .i64 1260, .int .i64 dn, .bool false], .mem (AddNW R2 120 120 tav av1 tla nf1 nc1 hd (putB M 1260 D) tfree tchs (1260, dn, false)), .pure, .pure, .pure, .pure, .pure, .lay #[.int .i64 0, .int .i64 0, .slice none 0 0, .int .u16 0, .int .u16 0, .slice none 0 0], .put, .put, .pure, .pure] (by kernel_rfl) (by kernel_rfl) hv ?_
 simp only [List.length_cons, List.length_nil, Nat.zero_add, Any.someVals]
 iterate 21 apply Exists.intro
 repeat (first
   | (refine Bny.E_off rfl ?_; simp only [Act.put, sia, scs, scz])
   | ((with_reducible refine Bny.at_ealloc ?_); refine Bny.E_lay (t := 30) rfl rfl rfl (fun _ => rfl) ?_; intro b_16; simp only [Act.put, sia, scs, scz])
   | ((with_reducible refine Bny.at_estore (T := 26) ?_); refine Bny.E_putv (T := 26) rfl rfl rfl rfl rfl rfl 1 infoM rfl rfl (by simp [Value.oneCell']) ?_; simp only [Act.put, sia, scs, scz])
   | ((with_reducible refine Bny.at_estore (T := 30) ?_); refine Bny.E_putv (T := 30) rfl rfl rfl rfl rfl rfl 6 infoQ rfl rfl (by simp [Value.oneCell']) ?_; simp only [Act.put, sia, scs, scz])
   | ((with_reducible refine Bny.at_ecallf (f := 38) ?_); refine Bny.E_callmem rfl rfl rfl (Go.Proofs.enters_of Tryz.func38 (by kernel_rfl) rfl) rfl [.agg #[.slice (some ⟨vb2, 0, none⟩) 1900 vc2], .agg #[.int .i64 120, .int .i64 4, .slice tfa tfn tfc, .int .u16 tav, .int .u16 tla, .slice tca tcn tcc], .slice (some ⟨B9, 0, none⟩) 1 1] rfl HSP.out ((3, .slice (some ⟨B9, 0, none⟩) 1 1, cellsPt [(1260, dn, false)]) :: R2) (HKN.out B9 _ (by decide) rfl) (fun w0 w L R' hm hs => Add_N hm (fun x hx => hs x (List.mem_cons_of_mem _ hx)) 120 120 rfl (by decide) HI2.out HTQ.out HTO.out HAV.out HA1.out H0.out H1.out HH.out (1260, dn, false) HPP.out (hs _ (List.mem_cons_self ..))) ?_; rintro v R3 ⟨vb3, vc3, fc3, cc3, fa3, ca3, c3, rfl, hi3, hq3, ho3, k1, k2, k3, hs3⟩; have HI3 := Lib.hid hi3; have HQ3 := Lib.hid hq3; have HO3 := Lib.hid ho3; have K1 := Lib.hid k1; have K2 := Lib.hid k2; have K3 := Lib.hid k3; have HS3 := Lib.hid hs3; clear hi3 hq3 ho3 k1 k2 k3 hs3; simp only [Act.put, sia, scs, scz])
   | ((with_reducible refine Bny.at_ebsl ?_); refine Bny.E_bslR (t := 91) rfl rfl rfl (fun w' => (by unfold execOp; go_simp)) rfl (by unfold maxLen; omega) ?_; intro B9; simp only [Act.put, sia, scs, scz])
   | (apply Bny.E_pureq rfl rfl rfl
      case h => intro K hK; go_big_quiet_op; (refine hK _ ?_; rfl)
      case hr => exact fun _ => rfl
      simp only [Act.put, sia, scs, scz])
   | (apply Bny.E_val rfl rfl rfl rfl
      case h =>
        intro E' hA K hK
        first
          | ((with_reducible refine Bny.at_qload (T := 26) ?_); refine Bny.q_ldv 1000 hA (by decide) rfl rfl 1 _ Tryz.underlying26 rfl infoM (by decide) rfl ?_; refine hK _ ?_; rfl)
          | ((with_reducible refine Bny.at_qload (T := 30) ?_); refine Bny.q_ldp 1003 (o := 6) hA (by decide) rfl rfl 6 _ Tryz.underlying30 rfl infoQ (by decide) (by show 6 + 6 ≤ 21; decide) #[.int .i64 120, .int .i64 4, .slice tfa tfn tfc, .int .u16 tav, .int .u16 tla, .slice tca tcn tcc] rfl ?_; refine hK _ ?_; rfl)
          | ((with_reducible refine Bny.at_qload (T := 33) ?_); refine Bny.q_ldv 1003 hA (by decide) rfl rfl 21 _ Tryz.underlying33 rfl infoN (by decide) rfl ?_; refine hK _ ?_; rfl)
          | ((with_reducible refine Any.at_qbuild (T := 91) ?_); refine Any.q_build _ rfl (built_ns1 dn) ?_; refine hK _ ?_; rfl)
          | (go_big_quiet_op; first
            | (refine hK _ ?_; rfl)
            | (refine ⟨_, fun _ _ => rfl, ?_⟩; refine hK _ ?_; rfl)
            | (apply Exists.intro; refine ⟨fun w1 hw1 => ?_, ?_⟩; · (first
                | (go_at_call 37; exact Bny.calls_VE (outg_1 _) hw1))
               refine hK _ ?_; rfl))
      case hD => rfl
      simp only [Act.put, sia, scs, scz]))
 try any_goals exact undef
 refine Bny.E_nil ?_
 intro w9 hE9
 replace hv : Mem w0 w9 ([(b_16, #[.int .i64 120, .int .i64 4, .slice fa3 nf1 fc3, .int .u16 av1, .int .u16 tla, .slice ca3 nc1 cc3]), (b_9, #[.slice (some ⟨vb3, 0, none⟩) 1900 vc3]), (b_7, #[.int .i64 0, .int .i64 0, .slice none 0 0, .int .u16 0, .int .u16 0, .slice none 0 0, .int .i64 0, .int .i64 0, .slice none 0 0, .int .u16 0, .int .u16 0, .slice none 0 0, .int .i64 0, .int .i64 0, .int .i64 0, .int .i64 0, .int .i64 0, .int .i64 0, .int .i64 0, .int .i64 0, .int .i64 0]), (b_6, #[.slice none 0 0]), (b_4, #[.int .i64 0, .int .i64 4, .slice rfa rfn rfc, .int .u16 rav, .int .u16 rla, .slice rca rcn rcc, .int .i64 120, .int .i64 4, .slice tfa tfn tfc, .int .u16 tav, .int .u16 tla, .slice tca tcn tcc, .int .i64 300, .int .i64 i0, .int .i64 i1, .int .i64 i2, .int .i64 i3, .int .i64 o0, .int .i64 o1, .int .i64 o2, .int .i64 o3]), (b_3, #[.slice (some ⟨vb, 0, none⟩) 1900 vc])] ++ L) R3 := hE9.mem1 [16, 1000, 1001, 1002, 1003, 1004] (by decide) 10 rfl
 clear hE9
 simp only [List.cons_append, List.nil_append] at hv
 go_wp2_with (first
   | ((with_reducible refine at_load (T := 30) ?_); refine wl_ldv rfl b_16 rfl _ hv.vars.ro 6 _ Tryz.underlying30 rfl infoQ (by decide) rfl ?_)
   | ((with_reducible refine at_store (T := 30) ?_); refine wl_stp rfl b_4 6 rfl _ rfl _ hv.vars.ro hv.vars.so 6 infoQ rfl (by show 6 + 6 ≤ 21; decide) (by simp [Value.oneCell']) #[.int .i64 0, .int .i64 4, .slice rfa rfn rfc, .int .u16 rav, .int .u16 rla, .slice rca rcn rcc, .int .i64 120, .int .i64 4, .slice fa3 nf1 fc3, .int .u16 av1, .int .u16 tla, .slice ca3 nc1 cc3, .int .i64 300, .int .i64 i0, .int .i64 i1, .int .i64 i2, .int .i64 i3, .int .i64 o0, .int .i64 o1, .int .i64 o2, .int .i64 o3] (splice_21_6_6 _ _ _ _ _ _ _ _ _ _ _ _ _ _ _ _ _ _ _ _ _ _ _ _ _ _ _) ?_; intro w2 hw2; replace hv := hv.sets (by repeat first | exact .z | apply SetM.s) hw2; clear hw2)
   | ((with_reducible refine at_store (T := 3) ?_); refine wl_stc rfl b_4 18 rfl (.int .i64 x1) rfl _ hv.vars.ro hv.vars.so (by kernel_rfl) rfl (by show 18 < 21; decide) ?_; intro w2 hw2; replace hv := hv.sets (by repeat first | exact .z | apply SetM.s) hw2; clear hw2; simp only [sia, scs, scz] at hv))
 replace hv : Mem w0 _ ([(b_16, _), (b_9, _), (b_7, _), (b_6, _), (b_4, _), (b_3, _)] ++ L) R3 := hv
 try simp only [Act.put]
 refine Bny.wp_region_walk _ _ [⟨[1001], none⟩, ⟨[1004], none⟩, ⟨[1003], some 1003⟩, ⟨[1002], some 1002⟩, ⟨[], none⟩] [.val, .val, .put, .put, .val] (by kernel_rfl) (by kernel_rfl) hv ?_
 simp only [List.length_cons, List.length_nil, Nat.zero_add, Any.someVals]
 iterate 5 apply Exists.intro
 repeat (first
   | (refine Bny.E_off rfl ?_; simp only [Act.put, sia, scs, scz])
   | ((with_reducible refine Bny.at_estore (T := 26) ?_); refine Bny.E_putv (T := 26) rfl rfl rfl rfl rfl rfl 1 infoM rfl rfl (by simp [Value.oneCell']) ?_; simp only [Act.put, sia, scs, scz])
   | ((with_reducible refine Bny.at_estore (T := 33) ?_); refine Bny.E_putv (T := 33) rfl rfl rfl rfl rfl rfl 21 infoN rfl rfl (by simp [Value.oneCell']) ?_; simp only [Act.put, sia, scs, scz])
   | (apply Bny.E_pureq rfl rfl rfl
      case h => intro K hK; go_big_quiet_op; (refine hK _ ?_; rfl)
      case hr => exact fun _ => rfl
      simp only [Act.put, sia, scs, scz])
   | (apply Bny.E_val rfl rfl rfl rfl
      case h =>
        intro E' hA K hK
        first
          | ((with_reducible refine Bny.at_qload (T := 26) ?_); refine Bny.q_ldv 1001 hA (by decide) rfl rfl 1 _ Tryz.underlying26 rfl infoM (by decide) rfl ?_; refine hK _ ?_; rfl)
          | ((with_reducible refine Bny.at_qload (T := 33) ?_); refine Bny.q_ldv 1004 hA (by decide) rfl rfl 21 _ Tryz.underlying33 rfl infoN (by decide) rfl ?_; refine hK _ ?_; rfl)
          | (go_big_quiet_op; first
            | (refine hK _ ?_; rfl)
            | (refine ⟨_, fun _ _ => rfl, ?_⟩; refine hK _ ?_; rfl)
            | (apply Exists.intro; refine ⟨fun w1 hw1 => ?_, ?_⟩; · (first
                | fail)
               refine hK _ ?_; rfl))
      case hD => rfl
      simp only [Act.put, sia, scs, scz]))
 try any_goals exact undef
 refine Bny.E_nil ?_
 intro w9 hE9
 replace hv : Mem w0 w9 ([(b_16, #[.int .i64 120, .int .i64 4, .slice fa3 nf1 fc3, .int .u16 av1, .int .u16 tla, .slice ca3 nc1 cc3]), (b_9, #[.slice (some ⟨vb3, 0, none⟩) 1900 vc3]), (b_7, #[.int .i64 0, .int .i64 4, .slice rfa rfn rfc, .int .u16 rav, .int .u16 rla, .slice rca rcn rcc, .int .i64 120, .int .i64 4, .slice fa3 nf1 fc3, .int .u16 av1, .int .u16 tla, .slice ca3 nc1 cc3, .int .i64 300, .int .i64 i0, .int .i64 i1, .int .i64 i2, .int .i64 i3, .int .i64 o0, .int .i64 x1, .int .i64 o2, .int .i64 o3]), (b_6, #[.slice (some ⟨vb3, 0, none⟩) 1900 vc3]), (b_4, #[.int .i64 0, .int .i64 4, .slice rfa rfn rfc, .int .u16 rav, .int .u16 rla, .slice rca rcn rcc, .int .i64 120, .int .i64 4, .slice fa3 nf1 fc3, .int .u16 av1, .int .u16 tla, .slice ca3 nc1 cc3, .int .i64 300, .int .i64 i0, .int .i64 i1, .int .i64 i2, .int .i64 i3, .int .i64 o0, .int .i64 x1, .int .i64 o2, .int .i64 o3]), (b_3, #[.slice (some ⟨vb, 0, none⟩) 1900 vc])] ++ L) R3 := hE9.mem0 [1000, 1001, 1002, 1003, 1004, 1005] (by decide)
 clear hE9
 simp only [List.cons_append, List.nil_append] at hv
 go_wp2
 try simp only [Exit.inBlock, Exit.then]
 refine ret_cct (v := .agg #[.slice (some ⟨vb3, 0, none⟩) 1900 vc3]) (v' := .agg #[.int .i64 0, .int .i64 4, .slice rfa rfn rfc, .int .u16 rav, .int .u16 rla, .slice rca rcn rcc, .int .i64 120, .int .i64 4, .slice fa3 nf1 fc3, .int .u16 av1, .int .u16 tla, .slice ca3 nc1 cc3, .int .i64 300, .int .i64 i0, .int .i64 i1, .int .i64 i2, .int .i64 i3, .int .i64 o0, .int .i64 x1, .int .i64 o2, .int .i64 o3]) (v1 := .int .i64 0) rfl rfl rfl (read_row _ b_6 26 _ (hv.vars.ro (b := b_6)) 1 _ Tryz.underlying26 rfl infoM (by decide) rfl) (read_row _ b_7 33 _ (hv.vars.ro (b := b_7)) 21 _ Tryz.underlying33 rfl infoN (by decide) rfl) rfl rfl ?_
 exact ⟨vb3, vc3, fc3, cc3, fa3, ca3, c3, R3, rfl, hv.keep (by exact List.sublist_append_right [_, _, _, _, _, _] L), HI3.out, HQ3.out, HO3.out, K1.out, K2.out, K3.out, fun x hx => HS3.out x (HS2.out x hx)⟩
theorem built_ns2 (dn : Nat) : Tryz.prog.built 91 [(0, .int .i64 1452), (1, .int .i64 dn)] = some #[.int .i64 1452, .int .i64 dn, .bool false] := by kernel_rfl
theorem Send_2 {w0 w : World} {L : List (Nat × Array Value)} {R : List (Nat × Value × List Value)} (hv : Mem w0 w L R) {rav rla rfn rfc rcn rcc tav tla tfn tfc tcn tcc vb vc dn dc : Nat} {rfa rca tfa tca da : Option Addr} {rfree tfree : List Nat} {rchs tchs : List Chn} {i0 i1 i2 i3 o0 o1 o2 o3 : Nat} {M D : List Nat} {av1 nf1 nc1 hd x1 : Nat} (hn : NetQ R (.slice rfa rfn rfc) (.slice rca rcn rcc) (.slice tfa tfn tfc) (.slice tca tcn tcc) rfree rchs tfree tchs [i0, i1, i2, i3] [o0, o1, o2, o3]) (hm : InM R vb 0 1900 vc M) (hdr : (1, .slice da dn dc, cellsB D) ∈ R) (hgd : goodB D) (hn1 : 1 ≤ dn) (hn2 : dn ≤ 180) (hav : tav < 65535) (hav1 : tav + 1 = av1) (h0 : tfn = nf1 + 1) (h1 : tcn + 1 = nc1) (hh : tfree.getD 0 0 = hd) (hx : hd + 1 = x1) (hx4 : hd < 1000) (hi : idxF (· == 0) [o0, o1, o2, o3] = 2) :
   Calls Tryz.prog 13 #[.agg #[.slice (some ⟨vb, 0, none⟩) 1900 vc], .agg #[.int .i64 0, .int .i64 4, .slice rfa rfn rfc, .int .u16 rav, .int .u16 rla, .slice rca rcn rcc, .int .i64 120, .int .i64 4, .slice tfa tfn tfc, .int .u16 tav, .int .u16 tla, .slice tca tcn tcc, .int .i64 300, .int .i64 i0, .int .i64 i1, .int .i64 i2, .int .i64 i3, .int .i64 o0, .int .i64 o1, .int .i64 o2, .int .i64 o3], .slice da dn dc] w fun e w' => ∃ vb3 vc3 fc3 cc3 fa3 ca3 c3 R3, e = .returned (.tuple #[.agg #[.slice (some ⟨vb3, 0, none⟩) 1900 vc3], .agg #[.int .i64 0, .int .i64 4, .slice rfa rfn rfc, .int .u16 rav, .int .u16 rla, .slice rca rcn rcc, .int .i64 120, .int .i64 4, .slice fa3 nf1 fc3, .int .u16 av1, .int .u16 tla, .slice ca3 nc1 cc3, .int .i64 300, .int .i64 i0, .int .i64 i1, .int .i64 i2, .int .i64 i3, .int .i64 o0, .int .i64 o1, .int .i64 x1, .int .i64 o3], .int .i64 0]) ∧ Mem w0 w' L R3 ∧ InM R3 vb3 0 1900 vc3 (addM (putB M 1452 D) 120 4 tav tfree [(1452, dn, false)]) ∧ InQ R3 (.slice fa3 nf1 fc3) (.slice ca3 nc1 cc3) (tfree.drop 1) (tchs ++ [c3]) ∧ OkQ 4 (tfree.drop 1) (tchs ++ [c3]) ∧ c3.h = hd ∧ c3.ds = [hd] ∧ c3.rm = 0 ∧ ∀ x ∈ R, x ∈ R3 := by
 have hdl : D.length = dn := by
   obtain ⟨_, _, _, e, g, _⟩ := hv.rd hdr
   cases e
   rw [cellsB_len] at g; omega
 have HN := Lib.hid hn
 have HM := Lib.hid hm
 have HDR := Lib.hid hdr
 have HGD := Lib.hid hgd
 have HAV := Lib.hid hav
 have HA1 := Lib.hid hav1
 have H0 := Lib.hid h0
 have H1 := Lib.hid h1
 have HH := Lib.hid hh
 have HI := Lib.hid hi
 have HPL : Hid (1452 + D.length ≤ 1900) := Lib.hid (by omega)
 have HPP : Hid (0 < ((1452, dn, false) : Pt).2.1 ∧ ((1452, dn, false) : Pt).1 + ((1452, dn, false) : Pt).2.1 ≤ 1900) := Lib.hid ⟨by show 0 < dn; omega, by show 1452 + dn ≤ 1900; omega⟩
 have HOL : Hid (∀ y ∈ [o0, o1, o2, o3], y ≤ 1000000) := Lib.hid (fun y hy => Nat.le_trans (hn.ol y hy) (by decide))
 have HLE : Hid ([o0, o1, o2, o3].length ≤ 1000) := Lib.hid (by show 4 ≤ 1000; decide)
 have y1 : decide ((dn : Int) < 1) = false := decide_eq_false (by omega)
 have z1 : decide (dn < 1) = false := decide_eq_false (by omega)
 have y2 : decide ((180 : Int) < (dn : Int)) = false := decide_eq_false (by omega)
 have z2 : decide (180 < dn) = false := decide_eq_false (by omega)
 have q1 : IntKind.i64.wrap ((hd : Int) + 1) = (x1 : Int) := by rw [IntWalk.i64_in _ (by omega)]; omega
 have HKN : Hid (∀ (R2 : List (Nat × Value × List Value)) (w0 : World) (L : List (Nat × Array Value)) (B9 : Nat) {E : Bny.Env} (ks : List Nat), 9 ∈ ks → E 9 = .rds [(3, .slice (some ⟨B9, 0, none⟩) 1 1, cellsPt [(1452, dn, false)])] → ∀ x ∈ (3, Value.slice (some ⟨B9, 0, none⟩) 1 1, cellsPt [(1452, dn, false)]) :: R2, Bny.Known ⟨w0, L, R2⟩ E ks x) := Lib.hid (fun R2 w0 L B9 E ks h1 h2 x hx => by
   rcases List.mem_cons.1 hx with rfl | hx
   · exact .inr ⟨9, h1, by rw [h2]; exact List.mem_singleton_self _⟩
   · exact .inl hx)
 have HSO : Hid (∃ v R', PutNW R (putB M 1452 D) v R') := Lib.hid (Bny.some_of (Put_N hv (fun x hx => hx) hm 1452 1452 rfl hdr hgd HPL.out))
 clear hn hm hdr hgd hn1 hn2 hav hav1 h0 h1 hh hx hx4 hi hdl
 go_enter Tryz.func13, Tryz.ntmps13
 go_wp2_with (first
   | ((with_reducible refine at_box (T := 26) (dst := some 3) ?_); refine wl_newb rfl #[.slice (some ⟨vb, 0, none⟩) 1900 vc] 26 (fun _ => rfl) ?_; intro b_3 w2 hm2; replace hv := hv.madeAt hm2; clear hm2)
   | ((with_reducible refine at_box (T := 33) (dst := some 4) ?_); refine wl_newb rfl #[.int .i64 0, .int .i64 4, .slice rfa rfn rfc, .int .u16 rav, .int .u16 rla, .slice rca rcn rcc, .int .i64 120, .int .i64 4, .slice tfa tfn tfc, .int .u16 tav, .int .u16 tla, .slice tca tcn tcc, .int .i64 300, .int .i64 i0, .int .i64 i1, .int .i64 i2, .int .i64 i3, .int .i64 o0, .int .i64 o1, .int .i64 o2, .int .i64 o3] 33 (fun _ => rfl) ?_; intro b_4 w2 hm2; replace hv := hv.madeAt hm2; clear hm2)
   | ((with_reducible refine at_alloc (T := 26) (dst := some 6) ?_); refine wl_newb rfl #[.slice none 0 0] 26 (fun _ => rfl) ?_; intro b_6 w2 hm2; replace hv := hv.madeAt hm2; clear hm2)
   | ((with_reducible refine at_alloc (T := 33) (dst := some 7) ?_); refine wl_newb rfl #[.int .i64 0, .int .i64 0, .slice none 0 0, .int .u16 0, .int .u16 0, .slice none 0 0, .int .i64 0, .int .i64 0, .slice none 0 0, .int .u16 0, .int .u16 0, .slice none 0 0, .int .i64 0, .int .i64 0, .int .i64 0, .int .i64 0, .int .i64 0, .int .i64 0, .int .i64 0, .int .i64 0, .int .i64 0] 33 (fun _ => rfl) ?_; intro b_7 w2 hm2; replace hv := hv.madeAt hm2; clear hm2)
   | (go_at_call 36; have HRD := rd_four (o := 17) (x0 := o0) (x1 := o1) (x2 := o2) (x3 := o3) (hv.vars.ro (b := b_4)) (hv.vars.so (b := b_4)) rfl rfl rfl rfl; (with_reducible refine (Index_0 _ _ HOL.out HLE.out _ HRD).mono ?_); rw [HI.out]; rintro e w1 ⟨rfl, hn1⟩; replace hv := hv.new hn1; clear hn1 HRD)
   | ((with_reducible refine at_load (T := 33) ?_); refine wl_ldv rfl b_4 rfl _ hv.vars.ro 21 _ Tryz.underlying33 rfl infoN (by decide) rfl ?_)
   | (go_at_call 12; (with_reducible refine (NCheck_ok hv HN.out).mono ?_); rintro e w1 ⟨rfl, hn1⟩; replace hv := hv.new hn1; clear hn1))
 replace hv : Mem w0 _ ([(b_7, _), (b_6, _), (b_4, _), (b_3, _)] ++ L) R := hv
 try simp only [Act.put]
 refine Bny.wp_region_walk _ _ [⟨[1003], none⟩, ⟨[1002], none⟩, ⟨[], none⟩, ⟨[], none⟩, ⟨[], none⟩, ⟨[], some 5⟩, ⟨[], none⟩, ⟨[], none⟩, ⟨[], none⟩, ⟨[], some 9⟩, ⟨[9], some 9⟩, ⟨[], none⟩] [.val, .val, .val, .val, .val, .mem (PutNW R (putB M 1452 D)), .pure, .pure, .pure, .lay #[.slice none 0 0], .put, .pure] (by kernel_rfl) (by kernel_rfl) hv ?_
 simp only [List.length_cons, List.length_nil, Nat.zero_add, Any.someVals]
 iterate 12 apply Exists.intro
 repeat (first
   | (refine Bny.E_off rfl ?_; simp only [Act.put, sia, scs, scz])
   | ((with_reducible refine Bny.at_ealloc ?_); refine Bny.E_lay (t := 26) rfl rfl rfl (fun _ => rfl) ?_; intro b_9; simp only [Act.put, sia, scs, scz])
   | ((with_reducible refine Bny.at_estore (T := 26) ?_); refine Bny.E_putv (T := 26) rfl rfl rfl rfl rfl rfl 1 infoM rfl rfl (by simp [Value.oneCell']) ?_; simp only [Act.put, sia, scs, scz])
   | ((with_reducible refine Bny.at_ecallf (f := 30) ?_); refine Bny.E_callmem rfl rfl rfl (Go.Proofs.enters_of Tryz.func30 (by kernel_rfl) rfl) rfl [.agg #[.slice (some ⟨vb, 0, none⟩) 1900 vc], .int .i64 1452, .slice da dn dc] rfl HSO.out R (fun x hx => .inl hx) (fun w0 w L R' hm hs => Put_N hm hs HM.out 1452 1452 rfl HDR.out HGD.out HPL.out) ?_; rintro v R2 ⟨vb2, vc2, rfl, hi2, hs2⟩; have HI2 := Lib.hid hi2; have HS2 := Lib.hid hs2; clear hi2 hs2; simp only [Act.put, sia, scs, scz])
   | (apply Bny.E_pureq rfl rfl rfl
      case h => intro K hK; go_big_quiet_op; (refine hK _ ?_; rfl)
      case hr => exact fun _ => rfl
      simp only [Act.put, sia, scs, scz])
   | (apply Bny.E_val rfl rfl rfl rfl
      case h =>
        intro E' hA K hK
        first
          | ((with_reducible refine Bny.at_qload (T := 26) ?_); refine Bny.q_ldv 1003 hA (by decide) rfl rfl 1 _ Tryz.underlying26 rfl infoM (by decide) rfl ?_; refine hK _ ?_; rfl)
          | ((with_reducible refine Bny.at_qload (T := 33) ?_); refine Bny.q_ldv 1002 hA (by decide) rfl rfl 21 _ Tryz.underlying33 rfl infoN (by decide) rfl ?_; refine hK _ ?_; rfl)
          | (go_big_quiet_op; first
            | (refine hK _ ?_; rfl)
            | (refine ⟨_, fun _ _ => rfl, ?_⟩; refine hK _ ?_; rfl)
            | (apply Exists.intro; refine ⟨fun w1 hw1 => ?_, ?_⟩; · (first
                | (go_at_call 37; exact Bny.calls_VE (outg_2 _) hw1))
               refine hK _ ?_; rfl))
      case hD => rfl
      simp only [Act.put, sia, scs, scz]))
 try any_goals exact undef
 refine Bny.E_nil ?_
 intro w9 hE9
 replace hv : Mem w0 w9 ([(b_9, #[.slice (some ⟨vb2, 0, none⟩) 1900 vc2]), (b_7, #[.int .i64 0, .int .i64 0, .slice none 0 0, .int .u16 0, .int .u16 0, .slice none 0 0, .int .i64 0, .int .i64 0, .slice none 0 0, .int .u16 0, .int .u16 0, .slice none 0 0, .int .i64 0, .int .i64 0, .int .i64 0, .int .i64 0, .int .i64 0, .int .i64 0, .int .i64 0, .int .i64 0, .int .i64 0]), (b_6, #[.slice none 0 0]), (b_4, #[.int .i64 0, .int .i64 4, .slice rfa rfn rfc, .int .u16 rav, .int .u16 rla, .slice rca rcn rcc, .int .i64 120, .int .i64 4, .slice tfa tfn tfc, .int .u16 tav, .int .u16 tla, .slice tca tcn tcc, .int .i64 300, .int .i64 i0, .int .i64 i1, .int .i64 i2, .int .i64 i3, .int .i64 o0, .int .i64 o1, .int .i64 o2, .int .i64 o3]), (b_3, #[.slice (some ⟨vb, 0, none⟩) 1900 vc])] ++ L) R2 := hE9.mem1 [9, 1000, 1001, 1002, 1003] (by decide) 5 rfl
 clear hE9
 simp only [List.cons_append, List.nil_append] at hv
 have HTQ : Hid (InQ R2 (.slice tfa tfn tfc) (.slice tca tcn tcc) tfree tchs) := Lib.hid (HN.out.tq.mono HS2.out)
 have HTO : Hid (OkQ 4 tfree tchs) := Lib.hid HN.out.to
 have HSP : Hid (∃ v R', AddNW R2 120 120 tav av1 tla nf1 nc1 hd (putB M 1452 D) tfree tchs (1452, dn, false) v R') := Lib.hid (Bny.some_of (Add_N (hv.bsl' (k := 3) (n := 1) (c := cellsPt [(1452, dn, false)]) ⟨rfl, made_alloc _ #[.int .i64 1452, .int .i64 dn, .bool false] 91⟩ rfl rfl (by unfold maxLen; omega)) (fun x hx => Mem.s hx) 120 120 rfl (by decide) HI2.out HTQ.out HTO.out HAV.out HA1.out H0.out H1.out HH.out (1452, dn, false) HPP.out Mem.z))
 replace HKN := Lib.hid (HKN.out R2 w0 L)
 go_wp2_with (first
   | fail)
 replace hv : Mem w0 _ ([(b_9, _), (b_7, _), (b_6, _), (b_4, _), (b_3, _)] ++ L) R2 := hv
 try simp only [Act.put]
 refine Bny.wp_region_walk _ _ [⟨[1000], none⟩, ⟨[], none⟩, ⟨[1003], none⟩, ⟨[1003], none⟩, ⟨[], none⟩, ⟨[], none⟩, ⟨[], none⟩, ⟨[], none⟩, ⟨[], none⟩, ⟨[], some 9⟩, ⟨[9], some 10⟩, ⟨[], none⟩, ⟨[], none⟩, ⟨[], none⟩, ⟨[], none⟩, ⟨[], none⟩, ⟨[], some 16⟩, ⟨[1000], some 1000⟩, ⟨[16], some 16⟩, ⟨[], none⟩, ⟨[], none⟩] [.val, .val, .val, .val, .val, .val, .val, .val, .val, .bslR 3 1 #[.int .i64 1452, .int .i64 dn, .bool false], .mem (AddNW R2 120 120 tav av1 tla nf1 nc1 hd (putB M 1452 D) tfree tchs (1452, dn, false)), .pure, .pure, .pure, .pure, .pure, .lay #[.int .i64 0, .int .i64 0, .slice none 0 0, .int .u16 0, .int .u16 0, .slice none 0 0], .put, .put, .pure, .pure] (by kernel_rfl) (by kernel_rfl) hv ?_
 simp only [List.length_cons, List.length_nil, Nat.zero_add, Any.someVals]
 iterate 21 apply Exists.intro
 repeat (first
   | (refine Bny.E_off rfl ?_; simp only [Act.put, sia, scs, scz])
   | ((with_reducible refine Bny.at_ealloc ?_); refine Bny.E_lay (t := 30) rfl rfl rfl (fun _ => rfl) ?_; intro b_16; simp only [Act.put, sia, scs, scz])
   | ((with_reducible refine Bny.at_estore (T := 26) ?_); refine Bny.E_putv (T := 26) rfl rfl rfl rfl rfl rfl 1 infoM rfl rfl (by simp [Value.oneCell']) ?_; simp only [Act.put, sia, scs, scz])
   | ((with_reducible refine Bny.at_estore (T := 30) ?_); refine Bny.E_putv (T := 30) rfl rfl rfl rfl rfl rfl 6 infoQ rfl rfl (by simp [Value.oneCell']) ?_; simp only [Act.put, sia, scs, scz])
   | ((with_reducible refine Bny.at_ecallf (f := 38) ?_); refine Bny.E_callmem rfl rfl rfl (Go.Proofs.enters_of Tryz.func38 (by kernel_rfl) rfl) rfl [.agg #[.slice (some ⟨vb2, 0, none⟩) 1900 vc2], .agg #[.int .i64 120, .int .i64 4, .slice tfa tfn tfc, .int .u16 tav, .int .u16 tla, .slice tca tcn tcc], .slice (some ⟨B9, 0, none⟩) 1 1] rfl HSP.out ((3, .slice (some ⟨B9, 0, none⟩) 1 1, cellsPt [(1452, dn, false)]) :: R2) (HKN.out B9 _ (by decide) rfl) (fun w0 w L R' hm hs => Add_N hm (fun x hx => hs x (List.mem_cons_of_mem _ hx)) 120 120 rfl (by decide) HI2.out HTQ.out HTO.out HAV.out HA1.out H0.out H1.out HH.out (1452, dn, false) HPP.out (hs _ (List.mem_cons_self ..))) ?_; rintro v R3 ⟨vb3, vc3, fc3, cc3, fa3, ca3, c3, rfl, hi3, hq3, ho3, k1, k2, k3, hs3⟩; have HI3 := Lib.hid hi3; have HQ3 := Lib.hid hq3; have HO3 := Lib.hid ho3; have K1 := Lib.hid k1; have K2 := Lib.hid k2; have K3 := Lib.hid k3; have HS3 := Lib.hid hs3; clear hi3 hq3 ho3 k1 k2 k3 hs3; simp only [Act.put, sia, scs, scz])
   | ((with_reducible refine Bny.at_ebsl ?_); refine Bny.E_bslR (t := 91) rfl rfl rfl (fun w' => (by unfold execOp; go_simp)) rfl (by unfold maxLen; omega) ?_; intro B9; simp only [Act.put, sia, scs, scz])
   | (apply Bny.E_pureq rfl rfl rfl
      case h => intro K hK; go_big_quiet_op; (refine hK _ ?_; rfl)
      case hr => exact fun _ => rfl
      simp only [Act.put, sia, scs, scz])
   | (apply Bny.E_val rfl rfl rfl rfl
      case h =>
        intro E' hA K hK
        first
          | ((with_reducible refine Bny.at_qload (T := 26) ?_); refine Bny.q_ldv 1000 hA (by decide) rfl rfl 1 _ Tryz.underlying26 rfl infoM (by decide) rfl ?_; refine hK _ ?_; rfl)
          | ((with_reducible refine Bny.at_qload (T := 30) ?_); refine Bny.q_ldp 1003 (o := 6) hA (by decide) rfl rfl 6 _ Tryz.underlying30 rfl infoQ (by decide) (by show 6 + 6 ≤ 21; decide) #[.int .i64 120, .int .i64 4, .slice tfa tfn tfc, .int .u16 tav, .int .u16 tla, .slice tca tcn tcc] rfl ?_; refine hK _ ?_; rfl)
          | ((with_reducible refine Bny.at_qload (T := 33) ?_); refine Bny.q_ldv 1003 hA (by decide) rfl rfl 21 _ Tryz.underlying33 rfl infoN (by decide) rfl ?_; refine hK _ ?_; rfl)
          | ((with_reducible refine Any.at_qbuild (T := 91) ?_); refine Any.q_build _ rfl (built_ns2 dn) ?_; refine hK _ ?_; rfl)
          | (go_big_quiet_op; first
            | (refine hK _ ?_; rfl)
            | (refine ⟨_, fun _ _ => rfl, ?_⟩; refine hK _ ?_; rfl)
            | (apply Exists.intro; refine ⟨fun w1 hw1 => ?_, ?_⟩; · (first
                | (go_at_call 37; exact Bny.calls_VE (outg_2 _) hw1))
               refine hK _ ?_; rfl))
      case hD => rfl
      simp only [Act.put, sia, scs, scz]))
 try any_goals exact undef
 refine Bny.E_nil ?_
 intro w9 hE9
 replace hv : Mem w0 w9 ([(b_16, #[.int .i64 120, .int .i64 4, .slice fa3 nf1 fc3, .int .u16 av1, .int .u16 tla, .slice ca3 nc1 cc3]), (b_9, #[.slice (some ⟨vb3, 0, none⟩) 1900 vc3]), (b_7, #[.int .i64 0, .int .i64 0, .slice none 0 0, .int .u16 0, .int .u16 0, .slice none 0 0, .int .i64 0, .int .i64 0, .slice none 0 0, .int .u16 0, .int .u16 0, .slice none 0 0, .int .i64 0, .int .i64 0, .int .i64 0, .int .i64 0, .int .i64 0, .int .i64 0, .int .i64 0, .int .i64 0, .int .i64 0]), (b_6, #[.slice none 0 0]), (b_4, #[.int .i64 0, .int .i64 4, .slice rfa rfn rfc, .int .u16 rav, .int .u16 rla, .slice rca rcn rcc, .int .i64 120, .int .i64 4, .slice tfa tfn tfc, .int .u16 tav, .int .u16 tla, .slice tca tcn tcc, .int .i64 300, .int .i64 i0, .int .i64 i1, .int .i64 i2, .int .i64 i3, .int .i64 o0, .int .i64 o1, .int .i64 o2, .int .i64 o3]), (b_3, #[.slice (some ⟨vb, 0, none⟩) 1900 vc])] ++ L) R3 := hE9.mem1 [16, 1000, 1001, 1002, 1003, 1004] (by decide) 10 rfl
 clear hE9
 simp only [List.cons_append, List.nil_append] at hv
 go_wp2_with (first
   | ((with_reducible refine at_load (T := 30) ?_); refine wl_ldv rfl b_16 rfl _ hv.vars.ro 6 _ Tryz.underlying30 rfl infoQ (by decide) rfl ?_)
   | ((with_reducible refine at_store (T := 30) ?_); refine wl_stp rfl b_4 6 rfl _ rfl _ hv.vars.ro hv.vars.so 6 infoQ rfl (by show 6 + 6 ≤ 21; decide) (by simp [Value.oneCell']) #[.int .i64 0, .int .i64 4, .slice rfa rfn rfc, .int .u16 rav, .int .u16 rla, .slice rca rcn rcc, .int .i64 120, .int .i64 4, .slice fa3 nf1 fc3, .int .u16 av1, .int .u16 tla, .slice ca3 nc1 cc3, .int .i64 300, .int .i64 i0, .int .i64 i1, .int .i64 i2, .int .i64 i3, .int .i64 o0, .int .i64 o1, .int .i64 o2, .int .i64 o3] (splice_21_6_6 _ _ _ _ _ _ _ _ _ _ _ _ _ _ _ _ _ _ _ _ _ _ _ _ _ _ _) ?_; intro w2 hw2; replace hv := hv.sets (by repeat first | exact .z | apply SetM.s) hw2; clear hw2)
   | ((with_reducible refine at_store (T := 3) ?_); refine wl_stc rfl b_4 19 rfl (.int .i64 x1) rfl _ hv.vars.ro hv.vars.so (by kernel_rfl) rfl (by show 19 < 21; decide) ?_; intro w2 hw2; replace hv := hv.sets (by repeat first | exact .z | apply SetM.s) hw2; clear hw2; simp only [sia, scs, scz] at hv))
 replace hv : Mem w0 _ ([(b_16, _), (b_9, _), (b_7, _), (b_6, _), (b_4, _), (b_3, _)] ++ L) R3 := hv
 try simp only [Act.put]
 refine Bny.wp_region_walk _ _ [⟨[1001], none⟩, ⟨[1004], none⟩, ⟨[1003], some 1003⟩, ⟨[1002], some 1002⟩, ⟨[], none⟩] [.val, .val, .put, .put, .val] (by kernel_rfl) (by kernel_rfl) hv ?_
 simp only [List.length_cons, List.length_nil, Nat.zero_add, Any.someVals]
 iterate 5 apply Exists.intro
 repeat (first
   | (refine Bny.E_off rfl ?_; simp only [Act.put, sia, scs, scz])
   | ((with_reducible refine Bny.at_estore (T := 26) ?_); refine Bny.E_putv (T := 26) rfl rfl rfl rfl rfl rfl 1 infoM rfl rfl (by simp [Value.oneCell']) ?_; simp only [Act.put, sia, scs, scz])
   | ((with_reducible refine Bny.at_estore (T := 33) ?_); refine Bny.E_putv (T := 33) rfl rfl rfl rfl rfl rfl 21 infoN rfl rfl (by simp [Value.oneCell']) ?_; simp only [Act.put, sia, scs, scz])
   | (apply Bny.E_pureq rfl rfl rfl
      case h => intro K hK; go_big_quiet_op; (refine hK _ ?_; rfl)
      case hr => exact fun _ => rfl
      simp only [Act.put, sia, scs, scz])
   | (apply Bny.E_val rfl rfl rfl rfl
      case h =>
        intro E' hA K hK
        first
          | ((with_reducible refine Bny.at_qload (T := 26) ?_); refine Bny.q_ldv 1001 hA (by decide) rfl rfl 1 _ Tryz.underlying26 rfl infoM (by decide) rfl ?_; refine hK _ ?_; rfl)
          | ((with_reducible refine Bny.at_qload (T := 33) ?_); refine Bny.q_ldv 1004 hA (by decide) rfl rfl 21 _ Tryz.underlying33 rfl infoN (by decide) rfl ?_; refine hK _ ?_; rfl)
          | (go_big_quiet_op; first
            | (refine hK _ ?_; rfl)
            | (refine ⟨_, fun _ _ => rfl, ?_⟩; refine hK _ ?_; rfl)
            | (apply Exists.intro; refine ⟨fun w1 hw1 => ?_, ?_⟩; · (first
                | fail)
               refine hK _ ?_; rfl))
      case hD => rfl
      simp only [Act.put, sia, scs, scz]))
 try any_goals exact undef
 refine Bny.E_nil ?_
 intro w9 hE9
 replace hv : Mem w0 w9 ([(b_16, #[.int .i64 120, .int .i64 4, .slice fa3 nf1 fc3, .int .u16 av1, .int .u16 tla, .slice ca3 nc1 cc3]), (b_9, #[.slice (some ⟨vb3, 0, none⟩) 1900 vc3]), (b_7, #[.int .i64 0, .int .i64 4, .slice rfa rfn rfc, .int .u16 rav, .int .u16 rla, .slice rca rcn rcc, .int .i64 120, .int .i64 4, .slice fa3 nf1 fc3, .int .u16 av1, .int .u16 tla, .slice ca3 nc1 cc3, .int .i64 300, .int .i64 i0, .int .i64 i1, .int .i64 i2, .int .i64 i3, .int .i64 o0, .int .i64 o1, .int .i64 x1, .int .i64 o3]), (b_6, #[.slice (some ⟨vb3, 0, none⟩) 1900 vc3]), (b_4, #[.int .i64 0, .int .i64 4, .slice rfa rfn rfc, .int .u16 rav, .int .u16 rla, .slice rca rcn rcc, .int .i64 120, .int .i64 4, .slice fa3 nf1 fc3, .int .u16 av1, .int .u16 tla, .slice ca3 nc1 cc3, .int .i64 300, .int .i64 i0, .int .i64 i1, .int .i64 i2, .int .i64 i3, .int .i64 o0, .int .i64 o1, .int .i64 x1, .int .i64 o3]), (b_3, #[.slice (some ⟨vb, 0, none⟩) 1900 vc])] ++ L) R3 := hE9.mem0 [1000, 1001, 1002, 1003, 1004, 1005] (by decide)
 clear hE9
 simp only [List.cons_append, List.nil_append] at hv
 go_wp2
 try simp only [Exit.inBlock, Exit.then]
 refine ret_cct (v := .agg #[.slice (some ⟨vb3, 0, none⟩) 1900 vc3]) (v' := .agg #[.int .i64 0, .int .i64 4, .slice rfa rfn rfc, .int .u16 rav, .int .u16 rla, .slice rca rcn rcc, .int .i64 120, .int .i64 4, .slice fa3 nf1 fc3, .int .u16 av1, .int .u16 tla, .slice ca3 nc1 cc3, .int .i64 300, .int .i64 i0, .int .i64 i1, .int .i64 i2, .int .i64 i3, .int .i64 o0, .int .i64 o1, .int .i64 x1, .int .i64 o3]) (v1 := .int .i64 0) rfl rfl rfl (read_row _ b_6 26 _ (hv.vars.ro (b := b_6)) 1 _ Tryz.underlying26 rfl infoM (by decide) rfl) (read_row _ b_7 33 _ (hv.vars.ro (b := b_7)) 21 _ Tryz.underlying33 rfl infoN (by decide) rfl) rfl rfl ?_
 exact ⟨vb3, vc3, fc3, cc3, fa3, ca3, c3, R3, rfl, hv.keep (by exact List.sublist_append_right [_, _, _, _, _, _] L), HI3.out, HQ3.out, HO3.out, K1.out, K2.out, K3.out, fun x hx => HS3.out x (HS2.out x hx)⟩
theorem built_ns3 (dn : Nat) : Tryz.prog.built 91 [(0, .int .i64 1644), (1, .int .i64 dn)] = some #[.int .i64 1644, .int .i64 dn, .bool false] := by kernel_rfl
theorem Send_3 {w0 w : World} {L : List (Nat × Array Value)} {R : List (Nat × Value × List Value)} (hv : Mem w0 w L R) {rav rla rfn rfc rcn rcc tav tla tfn tfc tcn tcc vb vc dn dc : Nat} {rfa rca tfa tca da : Option Addr} {rfree tfree : List Nat} {rchs tchs : List Chn} {i0 i1 i2 i3 o0 o1 o2 o3 : Nat} {M D : List Nat} {av1 nf1 nc1 hd x1 : Nat} (hn : NetQ R (.slice rfa rfn rfc) (.slice rca rcn rcc) (.slice tfa tfn tfc) (.slice tca tcn tcc) rfree rchs tfree tchs [i0, i1, i2, i3] [o0, o1, o2, o3]) (hm : InM R vb 0 1900 vc M) (hdr : (1, .slice da dn dc, cellsB D) ∈ R) (hgd : goodB D) (hn1 : 1 ≤ dn) (hn2 : dn ≤ 180) (hav : tav < 65535) (hav1 : tav + 1 = av1) (h0 : tfn = nf1 + 1) (h1 : tcn + 1 = nc1) (hh : tfree.getD 0 0 = hd) (hx : hd + 1 = x1) (hx4 : hd < 1000) (hi : idxF (· == 0) [o0, o1, o2, o3] = 3) :
   Calls Tryz.prog 13 #[.agg #[.slice (some ⟨vb, 0, none⟩) 1900 vc], .agg #[.int .i64 0, .int .i64 4, .slice rfa rfn rfc, .int .u16 rav, .int .u16 rla, .slice rca rcn rcc, .int .i64 120, .int .i64 4, .slice tfa tfn tfc, .int .u16 tav, .int .u16 tla, .slice tca tcn tcc, .int .i64 300, .int .i64 i0, .int .i64 i1, .int .i64 i2, .int .i64 i3, .int .i64 o0, .int .i64 o1, .int .i64 o2, .int .i64 o3], .slice da dn dc] w fun e w' => ∃ vb3 vc3 fc3 cc3 fa3 ca3 c3 R3, e = .returned (.tuple #[.agg #[.slice (some ⟨vb3, 0, none⟩) 1900 vc3], .agg #[.int .i64 0, .int .i64 4, .slice rfa rfn rfc, .int .u16 rav, .int .u16 rla, .slice rca rcn rcc, .int .i64 120, .int .i64 4, .slice fa3 nf1 fc3, .int .u16 av1, .int .u16 tla, .slice ca3 nc1 cc3, .int .i64 300, .int .i64 i0, .int .i64 i1, .int .i64 i2, .int .i64 i3, .int .i64 o0, .int .i64 o1, .int .i64 o2, .int .i64 x1], .int .i64 0]) ∧ Mem w0 w' L R3 ∧ InM R3 vb3 0 1900 vc3 (addM (putB M 1644 D) 120 4 tav tfree [(1644, dn, false)]) ∧ InQ R3 (.slice fa3 nf1 fc3) (.slice ca3 nc1 cc3) (tfree.drop 1) (tchs ++ [c3]) ∧ OkQ 4 (tfree.drop 1) (tchs ++ [c3]) ∧ c3.h = hd ∧ c3.ds = [hd] ∧ c3.rm = 0 ∧ ∀ x ∈ R, x ∈ R3 := by
 have hdl : D.length = dn := by
   obtain ⟨_, _, _, e, g, _⟩ := hv.rd hdr
   cases e
   rw [cellsB_len] at g; omega
 have HN := Lib.hid hn
 have HM := Lib.hid hm
 have HDR := Lib.hid hdr
 have HGD := Lib.hid hgd
 have HAV := Lib.hid hav
 have HA1 := Lib.hid hav1
 have H0 := Lib.hid h0
 have H1 := Lib.hid h1
 have HH := Lib.hid hh
 have HI := Lib.hid hi
 have HPL : Hid (1644 + D.length ≤ 1900) := Lib.hid (by omega)
 have HPP : Hid (0 < ((1644, dn, false) : Pt).2.1 ∧ ((1644, dn, false) : Pt).1 + ((1644, dn, false) : Pt).2.1 ≤ 1900) := Lib.hid ⟨by show 0 < dn; omega, by show 1644 + dn ≤ 1900; omega⟩
 have HOL : Hid (∀ y ∈ [o0, o1, o2, o3], y ≤ 1000000) := Lib.hid (fun y hy => Nat.le_trans (hn.ol y hy) (by decide))
 have HLE : Hid ([o0, o1, o2, o3].length ≤ 1000) := Lib.hid (by show 4 ≤ 1000; decide)
 have y1 : decide ((dn : Int) < 1) = false := decide_eq_false (by omega)
 have z1 : decide (dn < 1) = false := decide_eq_false (by omega)
 have y2 : decide ((180 : Int) < (dn : Int)) = false := decide_eq_false (by omega)
 have z2 : decide (180 < dn) = false := decide_eq_false (by omega)
 have q1 : IntKind.i64.wrap ((hd : Int) + 1) = (x1 : Int) := by rw [IntWalk.i64_in _ (by omega)]; omega
 have HKN : Hid (∀ (R2 : List (Nat × Value × List Value)) (w0 : World) (L : List (Nat × Array Value)) (B9 : Nat) {E : Bny.Env} (ks : List Nat), 9 ∈ ks → E 9 = .rds [(3, .slice (some ⟨B9, 0, none⟩) 1 1, cellsPt [(1644, dn, false)])] → ∀ x ∈ (3, Value.slice (some ⟨B9, 0, none⟩) 1 1, cellsPt [(1644, dn, false)]) :: R2, Bny.Known ⟨w0, L, R2⟩ E ks x) := Lib.hid (fun R2 w0 L B9 E ks h1 h2 x hx => by
   rcases List.mem_cons.1 hx with rfl | hx
   · exact .inr ⟨9, h1, by rw [h2]; exact List.mem_singleton_self _⟩
   · exact .inl hx)
 have HSO : Hid (∃ v R', PutNW R (putB M 1644 D) v R') := Lib.hid (Bny.some_of (Put_N hv (fun x hx => hx) hm 1644 1644 rfl hdr hgd HPL.out))
 clear hn hm hdr hgd hn1 hn2 hav hav1 h0 h1 hh hx hx4 hi hdl
 go_enter Tryz.func13, Tryz.ntmps13
 go_wp2_with (first
   | ((with_reducible refine at_box (T := 26) (dst := some 3) ?_); refine wl_newb rfl #[.slice (some ⟨vb, 0, none⟩) 1900 vc] 26 (fun _ => rfl) ?_; intro b_3 w2 hm2; replace hv := hv.madeAt hm2; clear hm2)
   | ((with_reducible refine at_box (T := 33) (dst := some 4) ?_); refine wl_newb rfl #[.int .i64 0, .int .i64 4, .slice rfa rfn rfc, .int .u16 rav, .int .u16 rla, .slice rca rcn rcc, .int .i64 120, .int .i64 4, .slice tfa tfn tfc, .int .u16 tav, .int .u16 tla, .slice tca tcn tcc, .int .i64 300, .int .i64 i0, .int .i64 i1, .int .i64 i2, .int .i64 i3, .int .i64 o0, .int .i64 o1, .int .i64 o2, .int .i64 o3] 33 (fun _ => rfl) ?_; intro b_4 w2 hm2; replace hv := hv.madeAt hm2; clear hm2)
   | ((with_reducible refine at_alloc (T := 26) (dst := some 6) ?_); refine wl_newb rfl #[.slice none 0 0] 26 (fun _ => rfl) ?_; intro b_6 w2 hm2; replace hv := hv.madeAt hm2; clear hm2)
   | ((with_reducible refine at_alloc (T := 33) (dst := some 7) ?_); refine wl_newb rfl #[.int .i64 0, .int .i64 0, .slice none 0 0, .int .u16 0, .int .u16 0, .slice none 0 0, .int .i64 0, .int .i64 0, .slice none 0 0, .int .u16 0, .int .u16 0, .slice none 0 0, .int .i64 0, .int .i64 0, .int .i64 0, .int .i64 0, .int .i64 0, .int .i64 0, .int .i64 0, .int .i64 0, .int .i64 0] 33 (fun _ => rfl) ?_; intro b_7 w2 hm2; replace hv := hv.madeAt hm2; clear hm2)
   | (go_at_call 36; have HRD := rd_four (o := 17) (x0 := o0) (x1 := o1) (x2 := o2) (x3 := o3) (hv.vars.ro (b := b_4)) (hv.vars.so (b := b_4)) rfl rfl rfl rfl; (with_reducible refine (Index_0 _ _ HOL.out HLE.out _ HRD).mono ?_); rw [HI.out]; rintro e w1 ⟨rfl, hn1⟩; replace hv := hv.new hn1; clear hn1 HRD)
   | ((with_reducible refine at_load (T := 33) ?_); refine wl_ldv rfl b_4 rfl _ hv.vars.ro 21 _ Tryz.underlying33 rfl infoN (by decide) rfl ?_)
   | (go_at_call 12; (with_reducible refine (NCheck_ok hv HN.out).mono ?_); rintro e w1 ⟨rfl, hn1⟩; replace hv := hv.new hn1; clear hn1))
 replace hv : Mem w0 _ ([(b_7, _), (b_6, _), (b_4, _), (b_3, _)] ++ L) R := hv
 try simp only [Act.put]
 refine Bny.wp_region_walk _ _ [⟨[1003], none⟩, ⟨[1002], none⟩, ⟨[], none⟩, ⟨[], none⟩, ⟨[], none⟩, ⟨[], some 5⟩, ⟨[], none⟩, ⟨[], none⟩, ⟨[], none⟩, ⟨[], some 9⟩, ⟨[9], some 9⟩, ⟨[], none⟩] [.val, .val, .val, .val, .val, .mem (PutNW R (putB M 1644 D)), .pure, .pure, .pure, .lay #[.slice none 0 0], .put, .pure] (by kernel_rfl) (by kernel_rfl) hv ?_
 simp only [List.length_cons, List.length_nil, Nat.zero_add, Any.someVals]
 iterate 12 apply Exists.intro
 repeat (first
   | (refine Bny.E_off rfl ?_; simp only [Act.put, sia, scs, scz])
   | ((with_reducible refine Bny.at_ealloc ?_); refine Bny.E_lay (t := 26) rfl rfl rfl (fun _ => rfl) ?_; intro b_9; simp only [Act.put, sia, scs, scz])
   | ((with_reducible refine Bny.at_estore (T := 26) ?_); refine Bny.E_putv (T := 26) rfl rfl rfl rfl rfl rfl 1 infoM rfl rfl (by simp [Value.oneCell']) ?_; simp only [Act.put, sia, scs, scz])
   | ((with_reducible refine Bny.at_ecallf (f := 30) ?_); refine Bny.E_callmem rfl rfl rfl (Go.Proofs.enters_of Tryz.func30 (by kernel_rfl) rfl) rfl [.agg #[.slice (some ⟨vb, 0, none⟩) 1900 vc], .int .i64 1644, .slice da dn dc] rfl HSO.out R (fun x hx => .inl hx) (fun w0 w L R' hm hs => Put_N hm hs HM.out 1644 1644 rfl HDR.out HGD.out HPL.out) ?_; rintro v R2 ⟨vb2, vc2, rfl, hi2, hs2⟩; have HI2 := Lib.hid hi2; have HS2 := Lib.hid hs2; clear hi2 hs2; simp only [Act.put, sia, scs, scz])
   | (apply Bny.E_pureq rfl rfl rfl
      case h => intro K hK; go_big_quiet_op; (refine hK _ ?_; rfl)
      case hr => exact fun _ => rfl
      simp only [Act.put, sia, scs, scz])
   | (apply Bny.E_val rfl rfl rfl rfl
      case h =>
        intro E' hA K hK
        first
          | ((with_reducible refine Bny.at_qload (T := 26) ?_); refine Bny.q_ldv 1003 hA (by decide) rfl rfl 1 _ Tryz.underlying26 rfl infoM (by decide) rfl ?_; refine hK _ ?_; rfl)
          | ((with_reducible refine Bny.at_qload (T := 33) ?_); refine Bny.q_ldv 1002 hA (by decide) rfl rfl 21 _ Tryz.underlying33 rfl infoN (by decide) rfl ?_; refine hK _ ?_; rfl)
          | (go_big_quiet_op; first
            | (refine hK _ ?_; rfl)
            | (refine ⟨_, fun _ _ => rfl, ?_⟩; refine hK _ ?_; rfl)
            | (apply Exists.intro; refine ⟨fun w1 hw1 => ?_, ?_⟩; · (first
                | (go_at_call 37; exact Bny.calls_VE (outg_3 _) hw1))
               refine hK _ ?_; rfl))
      case hD => rfl
      simp only [Act.put, sia, scs, scz]))
 try any_goals exact undef
 refine Bny.E_nil ?_
 intro w9 hE9
 replace hv : Mem w0 w9 ([(b_9, #[.slice (some ⟨vb2, 0, none⟩) 1900 vc2]), (b_7, #[.int .i64 0, .int .i64 0, .slice none 0 0, .int .u16 0, .int .u16 0, .slice none 0 0, .int .i64 0, .int .i64 0, .slice none 0 0, .int .u16 0, .int .u16 0, .slice none 0 0, .int .i64 0, .int .i64 0, .int .i64 0, .int .i64 0, .int .i64 0, .int .i64 0, .int .i64 0, .int .i64 0, .int .i64 0]), (b_6, #[.slice none 0 0]), (b_4, #[.int .i64 0, .int .i64 4, .slice rfa rfn rfc, .int .u16 rav, .int .u16 rla, .slice rca rcn rcc, .int .i64 120, .int .i64 4, .slice tfa tfn tfc, .int .u16 tav, .int .u16 tla, .slice tca tcn tcc, .int .i64 300, .int .i64 i0, .int .i64 i1, .int .i64 i2, .int .i64 i3, .int .i64 o0, .int .i64 o1, .int .i64 o2, .int .i64 o3]), (b_3, #[.slice (some ⟨vb, 0, none⟩) 1900 vc])] ++ L) R2 := hE9.mem1 [9, 1000, 1001, 1002, 1003] (by decide) 5 rfl
 clear hE9
 simp only [List.cons_append, List.nil_append] at hv
 have HTQ : Hid (InQ R2 (.slice tfa tfn tfc) (.slice tca tcn tcc) tfree tchs) := Lib.hid (HN.out.tq.mono HS2.out)
 have HTO : Hid (OkQ 4 tfree tchs) := Lib.hid HN.out.to
 have HSP : Hid (∃ v R', AddNW R2 120 120 tav av1 tla nf1 nc1 hd (putB M 1644 D) tfree tchs (1644, dn, false) v R') := Lib.hid (Bny.some_of (Add_N (hv.bsl' (k := 3) (n := 1) (c := cellsPt [(1644, dn, false)]) ⟨rfl, made_alloc _ #[.int .i64 1644, .int .i64 dn, .bool false] 91⟩ rfl rfl (by unfold maxLen; omega)) (fun x hx => Mem.s hx) 120 120 rfl (by decide) HI2.out HTQ.out HTO.out HAV.out HA1.out H0.out H1.out HH.out (1644, dn, false) HPP.out Mem.z))
 replace HKN := Lib.hid (HKN.out R2 w0 L)
 go_wp2_with (first
   | fail)
 replace hv : Mem w0 _ ([(b_9, _), (b_7, _), (b_6, _), (b_4, _), (b_3, _)] ++ L) R2 := hv
 try simp only [Act.put]
 refine Bny.wp_region_walk _ _ [⟨[1000], none⟩, ⟨[], none⟩, ⟨[1003], none⟩, ⟨[1003], none⟩, ⟨[], none⟩, ⟨[], none⟩, ⟨[], none⟩, ⟨[], none⟩, ⟨[], none⟩, ⟨[], some 9⟩, ⟨[9], some 10⟩, ⟨[], none⟩, ⟨[], none⟩, ⟨[], none⟩, ⟨[], none⟩, ⟨[], none⟩, ⟨[], some 16⟩, ⟨[1000], some 1000⟩, ⟨[16], some 16⟩, ⟨[], none⟩, ⟨[], none⟩] [.val, .val, .val, .val, .val, .val, .val, .val, .val, .bslR 3 1 #[.int .i64 1644, .int .i64 dn, .bool false], .mem (AddNW R2 120 120 tav av1 tla nf1 nc1 hd (putB M 1644 D) tfree tchs (1644, dn, false)), .pure, .pure, .pure, .pure, .pure, .lay #[.int .i64 0, .int .i64 0, .slice none 0 0, .int .u16 0, .int .u16 0, .slice none 0 0], .put, .put, .pure, .pure] (by kernel_rfl) (by kernel_rfl) hv ?_
 simp only [List.length_cons, List.length_nil, Nat.zero_add, Any.someVals]
 iterate 21 apply Exists.intro
 repeat (first
   | (refine Bny.E_off rfl ?_; simp only [Act.put, sia, scs, scz])
   | ((with_reducible refine Bny.at_ealloc ?_); refine Bny.E_lay (t := 30) rfl rfl rfl (fun _ => rfl) ?_; intro b_16; simp only [Act.put, sia, scs, scz])
   | ((with_reducible refine Bny.at_estore (T := 26) ?_); refine Bny.E_putv (T := 26) rfl rfl rfl rfl rfl rfl 1 infoM rfl rfl (by simp [Value.oneCell']) ?_; simp only [Act.put, sia, scs, scz])
   | ((with_reducible refine Bny.at_estore (T := 30) ?_); refine Bny.E_putv (T := 30) rfl rfl rfl rfl rfl rfl 6 infoQ rfl rfl (by simp [Value.oneCell']) ?_; simp only [Act.put, sia, scs, scz])
   | ((with_reducible refine Bny.at_ecallf (f := 38) ?_); refine Bny.E_callmem rfl rfl rfl (Go.Proofs.enters_of Tryz.func38 (by kernel_rfl) rfl) rfl [.agg #[.slice (some ⟨vb2, 0, none⟩) 1900 vc2], .agg #[.int .i64 120, .int .i64 4, .slice tfa tfn tfc, .int .u16 tav, .int .u16 tla, .slice tca tcn tcc], .slice (some ⟨B9, 0, none⟩) 1 1] rfl HSP.out ((3, .slice (some ⟨B9, 0, none⟩) 1 1, cellsPt [(1644, dn, false)]) :: R2) (HKN.out B9 _ (by decide) rfl) (fun w0 w L R' hm hs => Add_N hm (fun x hx => hs x (List.mem_cons_of_mem _ hx)) 120 120 rfl (by decide) HI2.out HTQ.out HTO.out HAV.out HA1.out H0.out H1.out HH.out (1644, dn, false) HPP.out (hs _ (List.mem_cons_self ..))) ?_; rintro v R3 ⟨vb3, vc3, fc3, cc3, fa3, ca3, c3, rfl, hi3, hq3, ho3, k1, k2, k3, hs3⟩; have HI3 := Lib.hid hi3; have HQ3 := Lib.hid hq3; have HO3 := Lib.hid ho3; have K1 := Lib.hid k1; have K2 := Lib.hid k2; have K3 := Lib.hid k3; have HS3 := Lib.hid hs3; clear hi3 hq3 ho3 k1 k2 k3 hs3; simp only [Act.put, sia, scs, scz])
   | ((with_reducible refine Bny.at_ebsl ?_); refine Bny.E_bslR (t := 91) rfl rfl rfl (fun w' => (by unfold execOp; go_simp)) rfl (by unfold maxLen; omega) ?_; intro B9; simp only [Act.put, sia, scs, scz])
   | (apply Bny.E_pureq rfl rfl rfl
      case h => intro K hK; go_big_quiet_op; (refine hK _ ?_; rfl)
      case hr => exact fun _ => rfl
      simp only [Act.put, sia, scs, scz])
   | (apply Bny.E_val rfl rfl rfl rfl
      case h =>
        intro E' hA K hK
        first
          | ((with_reducible refine Bny.at_qload (T := 26) ?_); refine Bny.q_ldv 1000 hA (by decide) rfl rfl 1 _ Tryz.underlying26 rfl infoM (by decide) rfl ?_; refine hK _ ?_; rfl)
          | ((with_reducible refine Bny.at_qload (T := 30) ?_); refine Bny.q_ldp 1003 (o := 6) hA (by decide) rfl rfl 6 _ Tryz.underlying30 rfl infoQ (by decide) (by show 6 + 6 ≤ 21; decide) #[.int .i64 120, .int .i64 4, .slice tfa tfn tfc, .int .u16 tav, .int .u16 tla, .slice tca tcn tcc] rfl ?_; refine hK _ ?_; rfl)
          | ((with_reducible refine Bny.at_qload (T := 33) ?_); refine Bny.q_ldv 1003 hA (by decide) rfl rfl 21 _ Tryz.underlying33 rfl infoN (by decide) rfl ?_; refine hK _ ?_; rfl)
          | ((with_reducible refine Any.at_qbuild (T := 91) ?_); refine Any.q_build _ rfl (built_ns3 dn) ?_; refine hK _ ?_; rfl)
          | (go_big_quiet_op; first
            | (refine hK _ ?_; rfl)
            | (refine ⟨_, fun _ _ => rfl, ?_⟩; refine hK _ ?_; rfl)
            | (apply Exists.intro; refine ⟨fun w1 hw1 => ?_, ?_⟩; · (first
                | (go_at_call 37; exact Bny.calls_VE (outg_3 _) hw1))
               refine hK _ ?_; rfl))
      case hD => rfl
      simp only [Act.put, sia, scs, scz]))
 try any_goals exact undef
 refine Bny.E_nil ?_
 intro w9 hE9
 replace hv : Mem w0 w9 ([(b_16, #[.int .i64 120, .int .i64 4, .slice fa3 nf1 fc3, .int .u16 av1, .int .u16 tla, .slice ca3 nc1 cc3]), (b_9, #[.slice (some ⟨vb3, 0, none⟩) 1900 vc3]), (b_7, #[.int .i64 0, .int .i64 0, .slice none 0 0, .int .u16 0, .int .u16 0, .slice none 0 0, .int .i64 0, .int .i64 0, .slice none 0 0, .int .u16 0, .int .u16 0, .slice none 0 0, .int .i64 0, .int .i64 0, .int .i64 0, .int .i64 0, .int .i64 0, .int .i64 0, .int .i64 0, .int .i64 0, .int .i64 0]), (b_6, #[.slice none 0 0]), (b_4, #[.int .i64 0, .int .i64 4, .slice rfa rfn rfc, .int .u16 rav, .int .u16 rla, .slice rca rcn rcc, .int .i64 120, .int .i64 4, .slice tfa tfn tfc, .int .u16 tav, .int .u16 tla, .slice tca tcn tcc, .int .i64 300, .int .i64 i0, .int .i64 i1, .int .i64 i2, .int .i64 i3, .int .i64 o0, .int .i64 o1, .int .i64 o2, .int .i64 o3]), (b_3, #[.slice (some ⟨vb, 0, none⟩) 1900 vc])] ++ L) R3 := hE9.mem1 [16, 1000, 1001, 1002, 1003, 1004] (by decide) 10 rfl
 clear hE9
 simp only [List.cons_append, List.nil_append] at hv
 go_wp2_with (first
   | ((with_reducible refine at_load (T := 30) ?_); refine wl_ldv rfl b_16 rfl _ hv.vars.ro 6 _ Tryz.underlying30 rfl infoQ (by decide) rfl ?_)
   | ((with_reducible refine at_store (T := 30) ?_); refine wl_stp rfl b_4 6 rfl _ rfl _ hv.vars.ro hv.vars.so 6 infoQ rfl (by show 6 + 6 ≤ 21; decide) (by simp [Value.oneCell']) #[.int .i64 0, .int .i64 4, .slice rfa rfn rfc, .int .u16 rav, .int .u16 rla, .slice rca rcn rcc, .int .i64 120, .int .i64 4, .slice fa3 nf1 fc3, .int .u16 av1, .int .u16 tla, .slice ca3 nc1 cc3, .int .i64 300, .int .i64 i0, .int .i64 i1, .int .i64 i2, .int .i64 i3, .int .i64 o0, .int .i64 o1, .int .i64 o2, .int .i64 o3] (splice_21_6_6 _ _ _ _ _ _ _ _ _ _ _ _ _ _ _ _ _ _ _ _ _ _ _ _ _ _ _) ?_; intro w2 hw2; replace hv := hv.sets (by repeat first | exact .z | apply SetM.s) hw2; clear hw2)
   | ((with_reducible refine at_store (T := 3) ?_); refine wl_stc rfl b_4 20 rfl (.int .i64 x1) rfl _ hv.vars.ro hv.vars.so (by kernel_rfl) rfl (by show 20 < 21; decide) ?_; intro w2 hw2; replace hv := hv.sets (by repeat first | exact .z | apply SetM.s) hw2; clear hw2; simp only [sia, scs, scz] at hv))
 replace hv : Mem w0 _ ([(b_16, _), (b_9, _), (b_7, _), (b_6, _), (b_4, _), (b_3, _)] ++ L) R3 := hv
 try simp only [Act.put]
 refine Bny.wp_region_walk _ _ [⟨[1001], none⟩, ⟨[1004], none⟩, ⟨[1003], some 1003⟩, ⟨[1002], some 1002⟩, ⟨[], none⟩] [.val, .val, .put, .put, .val] (by kernel_rfl) (by kernel_rfl) hv ?_
 simp only [List.length_cons, List.length_nil, Nat.zero_add, Any.someVals]
 iterate 5 apply Exists.intro
 repeat (first
   | (refine Bny.E_off rfl ?_; simp only [Act.put, sia, scs, scz])
   | ((with_reducible refine Bny.at_estore (T := 26) ?_); refine Bny.E_putv (T := 26) rfl rfl rfl rfl rfl rfl 1 infoM rfl rfl (by simp [Value.oneCell']) ?_; simp only [Act.put, sia, scs, scz])
   | ((with_reducible refine Bny.at_estore (T := 33) ?_); refine Bny.E_putv (T := 33) rfl rfl rfl rfl rfl rfl 21 infoN rfl rfl (by simp [Value.oneCell']) ?_; simp only [Act.put, sia, scs, scz])
   | (apply Bny.E_pureq rfl rfl rfl
      case h => intro K hK; go_big_quiet_op; (refine hK _ ?_; rfl)
      case hr => exact fun _ => rfl
      simp only [Act.put, sia, scs, scz])
   | (apply Bny.E_val rfl rfl rfl rfl
      case h =>
        intro E' hA K hK
        first
          | ((with_reducible refine Bny.at_qload (T := 26) ?_); refine Bny.q_ldv 1001 hA (by decide) rfl rfl 1 _ Tryz.underlying26 rfl infoM (by decide) rfl ?_; refine hK _ ?_; rfl)
          | ((with_reducible refine Bny.at_qload (T := 33) ?_); refine Bny.q_ldv 1004 hA (by decide) rfl rfl 21 _ Tryz.underlying33 rfl infoN (by decide) rfl ?_; refine hK _ ?_; rfl)
          | (go_big_quiet_op; first
            | (refine hK _ ?_; rfl)
            | (refine ⟨_, fun _ _ => rfl, ?_⟩; refine hK _ ?_; rfl)
            | (apply Exists.intro; refine ⟨fun w1 hw1 => ?_, ?_⟩; · (first
                | fail)
               refine hK _ ?_; rfl))
      case hD => rfl
      simp only [Act.put, sia, scs, scz]))
 try any_goals exact undef
 refine Bny.E_nil ?_
 intro w9 hE9
 replace hv : Mem w0 w9 ([(b_16, #[.int .i64 120, .int .i64 4, .slice fa3 nf1 fc3, .int .u16 av1, .int .u16 tla, .slice ca3 nc1 cc3]), (b_9, #[.slice (some ⟨vb3, 0, none⟩) 1900 vc3]), (b_7, #[.int .i64 0, .int .i64 4, .slice rfa rfn rfc, .int .u16 rav, .int .u16 rla, .slice rca rcn rcc, .int .i64 120, .int .i64 4, .slice fa3 nf1 fc3, .int .u16 av1, .int .u16 tla, .slice ca3 nc1 cc3, .int .i64 300, .int .i64 i0, .int .i64 i1, .int .i64 i2, .int .i64 i3, .int .i64 o0, .int .i64 o1, .int .i64 o2, .int .i64 x1]), (b_6, #[.slice (some ⟨vb3, 0, none⟩) 1900 vc3]), (b_4, #[.int .i64 0, .int .i64 4, .slice rfa rfn rfc, .int .u16 rav, .int .u16 rla, .slice rca rcn rcc, .int .i64 120, .int .i64 4, .slice fa3 nf1 fc3, .int .u16 av1, .int .u16 tla, .slice ca3 nc1 cc3, .int .i64 300, .int .i64 i0, .int .i64 i1, .int .i64 i2, .int .i64 i3, .int .i64 o0, .int .i64 o1, .int .i64 o2, .int .i64 x1]), (b_3, #[.slice (some ⟨vb, 0, none⟩) 1900 vc])] ++ L) R3 := hE9.mem0 [1000, 1001, 1002, 1003, 1004, 1005] (by decide)
 clear hE9
 simp only [List.cons_append, List.nil_append] at hv
 go_wp2
 try simp only [Exit.inBlock, Exit.then]
 refine ret_cct (v := .agg #[.slice (some ⟨vb3, 0, none⟩) 1900 vc3]) (v' := .agg #[.int .i64 0, .int .i64 4, .slice rfa rfn rfc, .int .u16 rav, .int .u16 rla, .slice rca rcn rcc, .int .i64 120, .int .i64 4, .slice fa3 nf1 fc3, .int .u16 av1, .int .u16 tla, .slice ca3 nc1 cc3, .int .i64 300, .int .i64 i0, .int .i64 i1, .int .i64 i2, .int .i64 i3, .int .i64 o0, .int .i64 o1, .int .i64 o2, .int .i64 x1]) (v1 := .int .i64 0) rfl rfl rfl (read_row _ b_6 26 _ (hv.vars.ro (b := b_6)) 1 _ Tryz.underlying26 rfl infoM (by decide) rfl) (read_row _ b_7 33 _ (hv.vars.ro (b := b_7)) 21 _ Tryz.underlying33 rfl infoN (by decide) rfl) rfl rfl ?_
 exact ⟨vb3, vc3, fc3, cc3, fa3, ca3, c3, R3, rfl, hv.keep (by exact List.sublist_append_right [_, _, _, _, _, _] L), HI3.out, HQ3.out, HO3.out, K1.out, K2.out, K3.out, fun x hx => HS3.out x (HS2.out x hx)⟩
end Go.Proofs.YtjmibgomkgkhnaaGreat
end

section
/-
 A card behind two rings (layer 10): the card itself: a frame comes.
-/
namespace Go.Proofs.YtjmibgomkgkhnaaGreat
open Go.Proofs.Qu Go.Proofs.Nm Go.RowKit Go.Proofs
theorem ok4 : okN 4 := by unfold okN; omega
theorem Next_N {w0 w : World} {L : List (Nat × Array Value)} {R : List (Nat × Value × List Value)} (hv : Mem w0 w L R) {vb vc sn sn1 us av hd base : Nat} {bi : Int} {M : List Nat} {p : Pt} (hbi : bi = (base : Nat)) (hb : base + 112 ≤ 1900) (hm : InM R vb 0 1900 vc M) (hsn : sn < 65535) (hsn1 : sn + 1 = sn1) (g1 : getN M (base + (16 * 4 + 2)) 2 = av) (hne : av ≠ sn) (g2 : getN M (base + (16 * 4 + (4 + 2 * (sn % 4)))) 2 = hd) (hc : ChainAt 1900 M base 4 hd [p]) : Calls Tryz.prog 29 #[.agg #[.slice (some ⟨vb, 0, none⟩) 1900 vc], .agg #[.int .i64 bi, .int .i64 4, .int .u16 sn, .int .u16 us]] w fun e w' => ∃ gb go gc R', e = .returned (.tuple #[.agg #[.int .i64 bi, .int .i64 4, .int .u16 sn1, .int .u16 us], .int .i64 hd, .slice (some ⟨gb, go, none⟩) 1 gc, .int .i64 0]) ∧ Mem w0 w' L R' ∧ (3, .slice (some ⟨gb, go, none⟩) 1 gc, cellsPt [p]) ∈ R' ∧ ∀ x ∈ R, x ∈ R' := by
 subst hbi
 refine (Next_M hv hm base 4 sn us ok4 (by rw [sizeN4]; exact hb) (by omega) g1 hne g2 [p] hc (by show 1 ≤ 4; decide)).mono ?_
 rintro e w' ⟨v, R', rfl, hv1, hl, hs⟩
 obtain ⟨gb, go, gn, gc, rfl, hq⟩ := (hv1.rd hl).some (by unfold cellsPt; simp [encP])
 obtain ⟨_, _, _, e0, g, _⟩ := hv1.rd hl
 cases e0
 have hg : gn = 1 := by
   have : (3 : Nat) = gn * 3 := g
   omega
 subst hg
 rw [Nat.mod_eq_of_lt (show sn + 1 < 65536 by omega), hsn1]
 exact ⟨gb, go, gc, R', rfl, hv1, hl, hs⟩
theorem Give_N {w0 w : World} {L : List (Nat × Array Value)} {R : List (Nat × Value × List Value)} (hv : Mem w0 w L R) {vb vc sn us us1 hd n base : Nat} {bi : Int} {M : List Nat} (hbi : bi = (base : Nat)) (hb : base + 112 ≤ 1900) (hm : InM R vb 0 1900 vc M) (hus : us < 65535) (hus1 : us + 1 = us1) (h1 : hd < 4) (h2 : n ≤ 192) : Calls Tryz.prog 31 #[.agg #[.slice (some ⟨vb, 0, none⟩) 1900 vc], .agg #[.int .i64 bi, .int .i64 4, .int .u16 sn, .int .u16 us], .int .i64 hd, .int .i64 n] w fun e w' => ∃ b c R', e = .returned (.tuple #[.agg #[.slice (some ⟨b, 0, none⟩) 1900 c], .agg #[.int .i64 bi, .int .i64 4, .int .u16 sn, .int .u16 us1], .int .i64 0]) ∧ Mem w0 w' L R' ∧ InM R' b 0 1900 c (returnM M base 4 us hd n) ∧ ∀ x ∈ R, x ∈ R' := by
 subst hbi
 refine (Give_M hv hm base 4 sn us hd n ok4 (by rw [sizeN4]; exact hb) (by omega) (by omega) (by omega)).mono ?_
 rintro e w' ⟨b, c, R', rfl, hv1, hi, hs⟩
 rw [Nat.mod_eq_of_lt (show us + 1 < 65536 by omega), hus1]
 exact ⟨b, c, R', rfl, hv1, hi, hs⟩
theorem Bring_yes {w0 w : World} {L : List (Nat × Array Value)} {R : List (Nat × Value × List Value)} (hv : Mem w0 w L R) {vb vc sn sn1 us us1 av hd dn dc a_ : Nat} {da : Option Addr} {M D : List Nat} (hm : InM R vb 0 1900 vc M) (hsn : sn < 65535) (hsn1 : sn + 1 = sn1) (g1 : getN M (0 + (16 * 4 + 2)) 2 = av) (hne : av ≠ sn) (g2 : getN M (0 + (16 * 4 + (4 + 2 * (sn % 4)))) 2 = hd) (hc : ChainAt 1900 M 0 4 hd [(a_, 192, true)]) (hus : us < 65535) (hus1 : us + 1 = us1) (hh4 : hd < 4) (hdr : (1, .slice da dn dc, cellsB D) ∈ R) (hgd : goodB D) (hn : dn ≤ 192) (ha : a_ + 192 ≤ 1900) :
   Calls Tryz.prog 10 #[.agg #[.slice (some ⟨vb, 0, none⟩) 1900 vc], .agg #[.int .i64 0, .int .i64 4, .int .u16 sn, .int .u16 us], .slice da dn dc] w fun e w' => ∃ vb5 vc5 R5, e = .returned (.tuple #[.agg #[.slice (some ⟨vb5, 0, none⟩) 1900 vc5], .agg #[.int .i64 0, .int .i64 4, .int .u16 sn1, .int .u16 us1], .int .i64 0]) ∧ Mem w0 w' L R5 ∧ InM R5 vb5 0 1900 vc5 (returnM (putB M a_ D) 0 4 us hd dn) ∧ ∀ x ∈ R, x ∈ R5 := by
 have hdl : D.length = dn := by
   obtain ⟨_, _, _, e, g, _⟩ := hv.rd hdr
   cases e
   rw [cellsB_len] at g; omega
 have HUS := Lib.hid hus
 have HUS1 := Lib.hid hus1
 have HH4 := Lib.hid hh4
 have HDR := Lib.hid hdr
 have HGD := Lib.hid hgd
 have HN19 := Lib.hid hn
 have HPL : Hid (a_ + D.length ≤ 1900) := Lib.hid (by omega)
 have HB0 : Hid ((0 : Int) = ((0 : Nat) : Int)) := Lib.hid rfl
 have HB1 : Hid (0 + 112 ≤ 1900) := Lib.hid (by decide)
 have HM := Lib.hid hm
 have HSN := Lib.hid hsn
 have HSN1 := Lib.hid hsn1
 have G1 := Lib.hid g1
 have GNE := Lib.hid hne
 have G2 := Lib.hid g2
 have GC := Lib.hid hc
 have y1 : decide ((192 : Int) < (dn : Int)) = false := decide_eq_false (by omega)
 have z1 : decide (192 < dn) = false := decide_eq_false (by omega)
 clear hm hsn hsn1 g1 hne g2 hc hn hus hus1 hh4 hdr hgd ha hdl
 go_enter Tryz.func10, Tryz.ntmps10
 go_wp2_with (first
   | ((with_reducible refine at_box (T := 26) (dst := some 3) ?_); refine wl_newb rfl #[.slice (some ⟨vb, 0, none⟩) 1900 vc] 26 (fun _ => rfl) ?_; intro b_3 w2 hm2; replace hv := hv.madeAt hm2; clear hm2)
   | ((with_reducible refine at_box (T := 38) (dst := some 4) ?_); refine wl_newb rfl #[.int .i64 0, .int .i64 4, .int .u16 sn, .int .u16 us] 38 (fun _ => rfl) ?_; intro b_4 w2 hm2; replace hv := hv.madeAt hm2; clear hm2)
   | ((with_reducible refine at_alloc (T := 26) (dst := some 6) ?_); refine wl_newb rfl #[.slice none 0 0] 26 (fun _ => rfl) ?_; intro b_6 w2 hm2; replace hv := hv.madeAt hm2; clear hm2)
   | ((with_reducible refine at_alloc (T := 38) (dst := some 7) ?_); refine wl_newb rfl #[.int .i64 0, .int .i64 0, .int .u16 0, .int .u16 0] 38 (fun _ => rfl) ?_; intro b_7 w2 hm2; replace hv := hv.madeAt hm2; clear hm2)
   | ((with_reducible refine at_load (T := 26) ?_); refine wl_ldv rfl b_3 rfl _ hv.vars.ro 1 _ Tryz.underlying26 rfl infoM (by decide) rfl ?_)
   | ((with_reducible refine at_load (T := 38) ?_); refine wl_ldv rfl b_4 rfl _ hv.vars.ro 4 _ Tryz.underlying38 rfl infoS4 (by decide) rfl ?_)
   | (go_at_call 29; (with_reducible refine (Next_N (base := 0) hv HB0.out HB1.out HM.out HSN.out HSN1.out G1.out GNE.out G2.out GC.out).mono ?_); rintro e w1 ⟨gb, go_, gc, R3, rfl, hv1, hl1, hs1⟩; replace hv := hv1; have HL3 := Lib.hid hl1; have HS3 := Lib.hid hs1; clear hv1 hl1 hs1)
   | ((with_reducible refine at_store (T := 38) ?_); refine wl_stv rfl b_4 rfl _ rfl _ hv.vars.ro hv.vars.so 4 infoS4 rfl rfl (by simp [Value.oneCell']) ?_; intro w2 hw2; replace hv := hv.sets (by repeat first | exact .z | apply SetM.s) hw2; clear hw2)
   | ((with_reducible refine at_load (T := 4) ?_); refine wl_rd rfl (c := cellsPt [(a_, 192, true)]) (hv.rd HL3.out) 2 rfl _ Tryz.underlying4 rfl (.bool true) rfl ?_)
   | ((with_reducible refine at_load (T := 3) ?_); refine wl_rd rfl (c := cellsPt [(a_, 192, true)]) (hv.rd HL3.out) 1 rfl _ Tryz.underlying3 rfl (.int .i64 192) rfl ?_))
 have HM3 : Hid (InM R3 vb 0 1900 vc M) := Lib.hid (HM.out.mono HS3.out)
 have HD3 : Hid ((1, .slice da dn dc, cellsB D) ∈ R3) := Lib.hid (HS3.out _ HDR.out)
 have HSO : Hid (∃ v R', PutNW R3 (putB M a_ D) v R') := Lib.hid (Bny.some_of (Put_N hv (fun x hx => hx) HM3.out (a_ : Nat) a_ rfl HD3.out HGD.out HPL.out))
 replace hv : Mem w0 _ ([(b_7, _), (b_6, _), (b_4, _), (b_3, _)] ++ L) R3 := hv
 try simp only [Act.put]
 refine Bny.wp_region_walk _ _ [⟨[1003], none⟩, ⟨[], none⟩, ⟨[], none⟩, ⟨[], none⟩, ⟨[], none⟩, ⟨[], none⟩, ⟨[], some 6⟩, ⟨[], none⟩, ⟨[], none⟩, ⟨[], none⟩, ⟨[1003], some 1003⟩] [.val, .val, .val, .val, .val, .val, .mem (PutNW R3 (putB M a_ D)), .pure, .pure, .pure, .put] (by kernel_rfl) (by kernel_rfl) hv ?_
 simp only [List.length_cons, List.length_nil, Nat.zero_add, Any.someVals]
 iterate 11 apply Exists.intro
 repeat (first
   | (refine Bny.E_off rfl ?_; simp only [Act.put, sia, scs, scz])
   | ((with_reducible refine Bny.at_estore (T := 26) ?_); refine Bny.E_putv (T := 26) rfl rfl rfl rfl rfl rfl 1 infoM rfl rfl (by simp [Value.oneCell']) ?_; simp only [Act.put, sia, scs, scz])
   | ((with_reducible refine Bny.at_ecallf (f := 30) ?_); refine Bny.E_callmem rfl rfl rfl (Go.Proofs.enters_of Tryz.func30 (by kernel_rfl) rfl) rfl [.agg #[.slice (some ⟨vb, 0, none⟩) 1900 vc], .int .i64 a_, .slice da dn dc] rfl HSO.out R3 (fun x hx => .inl hx) (fun w0 w L R' hm hs => Put_N hm hs HM3.out (a_ : Nat) a_ rfl HD3.out HGD.out HPL.out) ?_; rintro v R4 ⟨vb4, vc4, rfl, hi4, hs4⟩; have HI4 := Lib.hid hi4; have HS4 := Lib.hid hs4; clear hi4 hs4; simp only [Act.put, sia, scs, scz])
   | (apply Bny.E_pureq rfl rfl rfl
      case h => intro K hK; go_big_quiet_op; (refine hK _ ?_; rfl)
      case hr => exact fun _ => rfl
      simp only [Act.put, sia, scs, scz])
   | (apply Bny.E_val rfl rfl rfl rfl
      case h =>
        intro E' hA K hK
        first
          | ((with_reducible refine Bny.at_qload (T := 26) ?_); refine Bny.q_ldv 1003 hA (by decide) rfl rfl 1 _ Tryz.underlying26 rfl infoM (by decide) rfl ?_; refine hK _ ?_; rfl)
          | ((with_reducible refine Bny.at_qload (T := 3) ?_); refine Bny.q_rd (.inl HL3.out) hA 0 rfl _ Tryz.underlying3 rfl (.int .i64 a_) rfl ?_; refine hK _ ?_; rfl)
          | (go_big_quiet_op; first
            | (refine hK _ ?_; rfl)
            | (refine ⟨_, fun _ _ => rfl, ?_⟩; refine hK _ ?_; rfl)
            | (apply Exists.intro; refine ⟨fun w1 hw1 => ?_, ?_⟩; · (first
                | fail)
               refine hK _ ?_; rfl))
      case hD => rfl
      simp only [Act.put, sia, scs, scz]))
 try any_goals exact undef
 refine Bny.E_nil ?_
 intro w9 hE9
 replace hv : Mem w0 w9 ([(b_7, #[.int .i64 0, .int .i64 0, .int .u16 0, .int .u16 0]), (b_6, #[.slice none 0 0]), (b_4, #[.int .i64 0, .int .i64 4, .int .u16 sn1, .int .u16 us]), (b_3, #[.slice (some ⟨vb4, 0, none⟩) 1900 vc4])] ++ L) R4 := hE9.mem1 [1000, 1001, 1002, 1003] (by decide) 6 rfl
 clear hE9
 simp only [List.cons_append, List.nil_append] at hv
 go_wp2_with (first
   | ((with_reducible refine at_load (T := 26) ?_); refine wl_ldv rfl b_3 rfl _ hv.vars.ro 1 _ Tryz.underlying26 rfl infoM (by decide) rfl ?_)
   | ((with_reducible refine at_load (T := 38) ?_); refine wl_ldv rfl b_4 rfl _ hv.vars.ro 4 _ Tryz.underlying38 rfl infoS4 (by decide) rfl ?_)
   | (go_at_call 31; (with_reducible refine (Give_N (base := 0) hv HB0.out HB1.out HI4.out HUS.out HUS1.out HH4.out HN19.out).mono ?_); rintro e w1 ⟨vb5, vc5, R5, rfl, hv1, hi5, hs1⟩; replace hv := hv1; have HI5 := Lib.hid hi5; have HS5 := Lib.hid hs1; clear hv1 hi5 hs1)
   | ((with_reducible refine at_store (T := 26) ?_); refine wl_stv rfl b_3 rfl _ rfl _ hv.vars.ro hv.vars.so 1 infoM rfl rfl (by simp [Value.oneCell']) ?_; intro w2 hw2; replace hv := hv.sets (by repeat first | exact .z | apply SetM.s) hw2; clear hw2)
   | ((with_reducible refine at_store (T := 38) ?_); refine wl_stv rfl b_4 rfl _ rfl _ hv.vars.ro hv.vars.so 4 infoS4 rfl rfl (by simp [Value.oneCell']) ?_; intro w2 hw2; replace hv := hv.sets (by repeat first | exact .z | apply SetM.s) hw2; clear hw2))
 replace hv : Mem w0 _ ([(b_7, _), (b_6, _), (b_4, _), (b_3, _)] ++ L) R5 := hv
 try simp only [Act.put]
 refine Bny.wp_region_walk _ _ [⟨[1003], none⟩, ⟨[1002], none⟩, ⟨[1001], some 1001⟩, ⟨[1000], some 1000⟩, ⟨[], none⟩] [.val, .val, .put, .put, .val] (by kernel_rfl) (by kernel_rfl) hv ?_
 simp only [List.length_cons, List.length_nil, Nat.zero_add, Any.someVals]
 iterate 5 apply Exists.intro
 repeat (first
   | (refine Bny.E_off rfl ?_; simp only [Act.put, sia, scs, scz])
   | ((with_reducible refine Bny.at_estore (T := 26) ?_); refine Bny.E_putv (T := 26) rfl rfl rfl rfl rfl rfl 1 infoM rfl rfl (by simp [Value.oneCell']) ?_; simp only [Act.put, sia, scs, scz])
   | ((with_reducible refine Bny.at_estore (T := 38) ?_); refine Bny.E_putv (T := 38) rfl rfl rfl rfl rfl rfl 4 infoS4 rfl rfl (by simp [Value.oneCell']) ?_; simp only [Act.put, sia, scs, scz])
   | (apply Bny.E_pureq rfl rfl rfl
      case h => intro K hK; go_big_quiet_op; (refine hK _ ?_; rfl)
      case hr => exact fun _ => rfl
      simp only [Act.put, sia, scs, scz])
   | (apply Bny.E_val rfl rfl rfl rfl
      case h =>
        intro E' hA K hK
        first
          | ((with_reducible refine Bny.at_qload (T := 26) ?_); refine Bny.q_ldv 1003 hA (by decide) rfl rfl 1 _ Tryz.underlying26 rfl infoM (by decide) rfl ?_; refine hK _ ?_; rfl)
          | ((with_reducible refine Bny.at_qload (T := 38) ?_); refine Bny.q_ldv 1002 hA (by decide) rfl rfl 4 _ Tryz.underlying38 rfl infoS4 (by decide) rfl ?_; refine hK _ ?_; rfl)
          | (go_big_quiet_op; first
            | (refine hK _ ?_; rfl)
            | (refine ⟨_, fun _ _ => rfl, ?_⟩; refine hK _ ?_; rfl)
            | (apply Exists.intro; refine ⟨fun w1 hw1 => ?_, ?_⟩; · (first
                | fail)
               refine hK _ ?_; rfl))
      case hD => rfl
      simp only [Act.put, sia, scs, scz]))
 try any_goals exact undef
 refine Bny.E_nil ?_
 intro w9 hE9
 replace hv : Mem w0 w9 ([(b_7, #[.int .i64 0, .int .i64 4, .int .u16 sn1, .int .u16 us1]), (b_6, #[.slice (some ⟨vb5, 0, none⟩) 1900 vc5]), (b_4, #[.int .i64 0, .int .i64 4, .int .u16 sn1, .int .u16 us1]), (b_3, #[.slice (some ⟨vb5, 0, none⟩) 1900 vc5])] ++ L) R5 := hE9.mem0 [1000, 1001, 1002, 1003] (by decide)
 clear hE9
 simp only [List.cons_append, List.nil_append] at hv
 go_wp2
 try simp only [Exit.inBlock, Exit.then]
 refine ret_cct (v := .agg #[.slice (some ⟨vb5, 0, none⟩) 1900 vc5]) (v' := .agg #[.int .i64 0, .int .i64 4, .int .u16 sn1, .int .u16 us1]) (v1 := .int .i64 0) rfl rfl rfl (read_row _ b_6 26 _ (hv.vars.ro (b := b_6)) 1 _ Tryz.underlying26 rfl infoM (by decide) rfl) (read_row _ b_7 38 _ (hv.vars.ro (b := b_7)) 4 _ Tryz.underlying38 rfl infoS4 (by decide) rfl) rfl rfl ?_
 exact ⟨vb5, vc5, R5, rfl, hv.keep (by exact List.sublist_append_right [_, _, _, _] L), HI5.out, fun x hx => HS5.out x (HS4.out x (HS3.out x hx))⟩
theorem Bring_long {w0 w : World} {L : List (Nat × Array Value)} {R : List (Nat × Value × List Value)} (hv : Mem w0 w L R) {vb vc sn sn1 us us1 av hd dn dc a_ : Nat} {da : Option Addr} {M D : List Nat} (hm : InM R vb 0 1900 vc M) (hsn : sn < 65535) (hsn1 : sn + 1 = sn1) (g1 : getN M (0 + (16 * 4 + 2)) 2 = av) (hne : av ≠ sn) (g2 : getN M (0 + (16 * 4 + (4 + 2 * (sn % 4)))) 2 = hd) (hc : ChainAt 1900 M 0 4 hd [(a_, 192, true)]) (hn : 192 < dn) :
   Calls Tryz.prog 10 #[.agg #[.slice (some ⟨vb, 0, none⟩) 1900 vc], .agg #[.int .i64 0, .int .i64 4, .int .u16 sn, .int .u16 us], .slice da dn dc] w fun e w' => ∃ R3, e = .returned (.tuple #[.agg #[.slice (some ⟨vb, 0, none⟩) 1900 vc], .agg #[.int .i64 0, .int .i64 4, .int .u16 sn1, .int .u16 us], .int .i64 70]) ∧ Mem w0 w' L R3 ∧ ∀ x ∈ R, x ∈ R3 := by
 have HB0 : Hid ((0 : Int) = ((0 : Nat) : Int)) := Lib.hid rfl
 have HB1 : Hid (0 + 112 ≤ 1900) := Lib.hid (by decide)
 have HM := Lib.hid hm
 have HSN := Lib.hid hsn
 have HSN1 := Lib.hid hsn1
 have G1 := Lib.hid g1
 have GNE := Lib.hid hne
 have G2 := Lib.hid g2
 have GC := Lib.hid hc
 have y1 : decide ((192 : Int) < (dn : Int)) = true := decide_eq_true (by omega)
 have z1 : decide (192 < dn) = true := decide_eq_true (by omega)
 clear hm hsn hsn1 g1 hne g2 hc hn 
 go_enter Tryz.func10, Tryz.ntmps10
 go_wp2_with (first
   | ((with_reducible refine at_box (T := 26) (dst := some 3) ?_); refine wl_newb rfl #[.slice (some ⟨vb, 0, none⟩) 1900 vc] 26 (fun _ => rfl) ?_; intro b_3 w2 hm2; replace hv := hv.madeAt hm2; clear hm2)
   | ((with_reducible refine at_box (T := 38) (dst := some 4) ?_); refine wl_newb rfl #[.int .i64 0, .int .i64 4, .int .u16 sn, .int .u16 us] 38 (fun _ => rfl) ?_; intro b_4 w2 hm2; replace hv := hv.madeAt hm2; clear hm2)
   | ((with_reducible refine at_alloc (T := 26) (dst := some 6) ?_); refine wl_newb rfl #[.slice none 0 0] 26 (fun _ => rfl) ?_; intro b_6 w2 hm2; replace hv := hv.madeAt hm2; clear hm2)
   | ((with_reducible refine at_alloc (T := 38) (dst := some 7) ?_); refine wl_newb rfl #[.int .i64 0, .int .i64 0, .int .u16 0, .int .u16 0] 38 (fun _ => rfl) ?_; intro b_7 w2 hm2; replace hv := hv.madeAt hm2; clear hm2)
   | ((with_reducible refine at_load (T := 26) ?_); refine wl_ldv rfl b_3 rfl _ hv.vars.ro 1 _ Tryz.underlying26 rfl infoM (by decide) rfl ?_)
   | ((with_reducible refine at_load (T := 38) ?_); refine wl_ldv rfl b_4 rfl _ hv.vars.ro 4 _ Tryz.underlying38 rfl infoS4 (by decide) rfl ?_)
   | (go_at_call 29; (with_reducible refine (Next_N (base := 0) hv HB0.out HB1.out HM.out HSN.out HSN1.out G1.out GNE.out G2.out GC.out).mono ?_); rintro e w1 ⟨gb, go_, gc, R3, rfl, hv1, hl1, hs1⟩; replace hv := hv1; have HL3 := Lib.hid hl1; have HS3 := Lib.hid hs1; clear hv1 hl1 hs1)
   | ((with_reducible refine at_store (T := 38) ?_); refine wl_stv rfl b_4 rfl _ rfl _ hv.vars.ro hv.vars.so 4 infoS4 rfl rfl (by simp [Value.oneCell']) ?_; intro w2 hw2; replace hv := hv.sets (by repeat first | exact .z | apply SetM.s) hw2; clear hw2)
   | ((with_reducible refine at_load (T := 4) ?_); refine wl_rd rfl (c := cellsPt [(a_, 192, true)]) (hv.rd HL3.out) 2 rfl _ Tryz.underlying4 rfl (.bool true) rfl ?_)
   | ((with_reducible refine at_load (T := 3) ?_); refine wl_rd rfl (c := cellsPt [(a_, 192, true)]) (hv.rd HL3.out) 1 rfl _ Tryz.underlying3 rfl (.int .i64 192) rfl ?_))
 replace hv : Mem w0 _ ([(b_7, _), (b_6, _), (b_4, _), (b_3, _)] ++ L) R3 := hv
 try simp only [Act.put]
 refine Bny.wp_region_walk _ _ [⟨[1003], none⟩, ⟨[1002], none⟩, ⟨[1001], some 1001⟩, ⟨[1000], some 1000⟩, ⟨[], none⟩] [.val, .val, .put, .put, .val] (by kernel_rfl) (by kernel_rfl) hv ?_
 simp only [List.length_cons, List.length_nil, Nat.zero_add, Any.someVals]
 iterate 5 apply Exists.intro
 repeat (first
   | (refine Bny.E_off rfl ?_; simp only [Act.put, sia, scs, scz])
   | ((with_reducible refine Bny.at_estore (T := 26) ?_); refine Bny.E_putv (T := 26) rfl rfl rfl rfl rfl rfl 1 infoM rfl rfl (by simp [Value.oneCell']) ?_; simp only [Act.put, sia, scs, scz])
   | ((with_reducible refine Bny.at_estore (T := 38) ?_); refine Bny.E_putv (T := 38) rfl rfl rfl rfl rfl rfl 4 infoS4 rfl rfl (by simp [Value.oneCell']) ?_; simp only [Act.put, sia, scs, scz])
   | (apply Bny.E_pureq rfl rfl rfl
      case h => intro K hK; go_big_quiet_op; (refine hK _ ?_; rfl)
      case hr => exact fun _ => rfl
      simp only [Act.put, sia, scs, scz])
   | (apply Bny.E_val rfl rfl rfl rfl
      case h =>
        intro E' hA K hK
        first
          | ((with_reducible refine Bny.at_qload (T := 26) ?_); refine Bny.q_ldv 1003 hA (by decide) rfl rfl 1 _ Tryz.underlying26 rfl infoM (by decide) rfl ?_; refine hK _ ?_; rfl)
          | ((with_reducible refine Bny.at_qload (T := 38) ?_); refine Bny.q_ldv 1002 hA (by decide) rfl rfl 4 _ Tryz.underlying38 rfl infoS4 (by decide) rfl ?_; refine hK _ ?_; rfl)
          | (go_big_quiet_op; first
            | (refine hK _ ?_; rfl)
            | (refine ⟨_, fun _ _ => rfl, ?_⟩; refine hK _ ?_; rfl)
            | (apply Exists.intro; refine ⟨fun w1 hw1 => ?_, ?_⟩; · (first
                | fail)
               refine hK _ ?_; rfl))
      case hD => rfl
      simp only [Act.put, sia, scs, scz]))
 try any_goals exact undef
 refine Bny.E_nil ?_
 intro w9 hE9
 replace hv : Mem w0 w9 ([(b_7, #[.int .i64 0, .int .i64 4, .int .u16 sn1, .int .u16 us]), (b_6, #[.slice (some ⟨vb, 0, none⟩) 1900 vc]), (b_4, #[.int .i64 0, .int .i64 4, .int .u16 sn1, .int .u16 us]), (b_3, #[.slice (some ⟨vb, 0, none⟩) 1900 vc])] ++ L) R3 := hE9.mem0 [1000, 1001, 1002, 1003] (by decide)
 clear hE9
 simp only [List.cons_append, List.nil_append] at hv
 go_wp2
 try simp only [Exit.inBlock, Exit.then]
 refine ret_cct (v := .agg #[.slice (some ⟨vb, 0, none⟩) 1900 vc]) (v' := .agg #[.int .i64 0, .int .i64 4, .int .u16 sn1, .int .u16 us]) (v1 := .int .i64 70) rfl rfl rfl (read_row _ b_6 26 _ (hv.vars.ro (b := b_6)) 1 _ Tryz.underlying26 rfl infoM (by decide) rfl) (read_row _ b_7 38 _ (hv.vars.ro (b := b_7)) 4 _ Tryz.underlying38 rfl infoS4 (by decide) rfl) rfl rfl ?_
 exact ⟨R3, rfl, hv.keep (by exact List.sublist_append_right [_, _, _, _] L), HS3.out⟩
end Go.Proofs.YtjmibgomkgkhnaaGreat
end
