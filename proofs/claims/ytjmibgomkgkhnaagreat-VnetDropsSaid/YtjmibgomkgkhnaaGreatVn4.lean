/-
 A card behind two rings (layer 10): a buffer handed over.
-/
import Derived.Test.YtjmibgomkgkhnaaGreatVnX
set_option maxRecDepth 100000
set_option maxHeartbeats 16000000
set_option linter.unusedVariables false
set_option linter.unusedSimpArgs false
namespace Go.Proofs.YtjmibgomkgkhnaaGreat
open Go.Proofs.Qu Go.Proofs.Nm Go.RowKit Go.Proofs
theorem splice_21_0_6 (a0 a1 a2 a3 a4 a5 a6 a7 a8 a9 a10 a11 a12 a13 a14 a15 a16 a17 a18 a19 a20 v0 v1 v2 v3 v4 v5 : Value) : splice #[a0, a1, a2, a3, a4, a5, a6, a7, a8, a9, a10, a11, a12, a13, a14, a15, a16, a17, a18, a19, a20] 0 #[v0, v1, v2, v3, v4, v5] = #[v0, v1, v2, v3, v4, v5, a6, a7, a8, a9, a10, a11, a12, a13, a14, a15, a16, a17, a18, a19, a20] := by simp [splice]
theorem splice_21_6_6 (a0 a1 a2 a3 a4 a5 a6 a7 a8 a9 a10 a11 a12 a13 a14 a15 a16 a17 a18 a19 a20 v0 v1 v2 v3 v4 v5 : Value) : splice #[a0, a1, a2, a3, a4, a5, a6, a7, a8, a9, a10, a11, a12, a13, a14, a15, a16, a17, a18, a19, a20] 6 #[v0, v1, v2, v3, v4, v5] = #[a0, a1, a2, a3, a4, a5, v0, v1, v2, v3, v4, v5, a12, a13, a14, a15, a16, a17, a18, a19, a20] := by simp [splice]
theorem built_nb0 : Tryz.prog.built 91 [(0, .int .i64 300), (1, .int .i64 192), (2, .bool true)] = some #[.int .i64 300, .int .i64 192, .bool true] := by kernel_rfl
theorem hand_0 {w0 w : World} {L : List (Nat × Array Value)} {R : List (Nat × Value × List Value)} (hv : Mem w0 w L R) {rav rla tav tla rfn rfc rcn rcc tfn tfc tcn tcc : Nat} {rfa rca tfa tca : Option Addr} {rfree : List Nat} {rchs : List Chn} {i1 i2 i3 o0 o1 o2 o3 vb vc av1 nf1 nc1 hd x1 : Nat} {M : List Nat} (hm : InM R vb 0 1900 vc M) (hq : InQ R (.slice rfa rfn rfc) (.slice rca rcn rcc) rfree rchs) (ho : OkQ 4 rfree rchs) (hav : rav < 65535) (hav1 : rav + 1 = av1) (h0 : rfn = nf1 + 1) (h1 : rcn + 1 = nc1) (hh : rfree.getD 0 0 = hd) (hx : hd + 1 = x1) (hx4 : hd < 1000) :
   Calls Tryz.prog 28 #[.agg #[.slice (some ⟨vb, 0, none⟩) 1900 vc], .agg #[.int .i64 0, .int .i64 4, .slice rfa rfn rfc, .int .u16 rav, .int .u16 rla, .slice rca rcn rcc, .int .i64 120, .int .i64 4, .slice tfa tfn tfc, .int .u16 tav, .int .u16 tla, .slice tca tcn tcc, .int .i64 300, .int .i64 0, .int .i64 i1, .int .i64 i2, .int .i64 i3, .int .i64 o0, .int .i64 o1, .int .i64 o2, .int .i64 o3], .int .i64 0] w fun e w' => ∃ vb2 vc2 fc2 cc2 fa2 ca2 c2 R2, e = .returned (.tuple #[.agg #[.slice (some ⟨vb2, 0, none⟩) 1900 vc2], .agg #[.int .i64 0, .int .i64 4, .slice fa2 nf1 fc2, .int .u16 av1, .int .u16 rla, .slice ca2 nc1 cc2, .int .i64 120, .int .i64 4, .slice tfa tfn tfc, .int .u16 tav, .int .u16 tla, .slice tca tcn tcc, .int .i64 300, .int .i64 x1, .int .i64 i1, .int .i64 i2, .int .i64 i3, .int .i64 o0, .int .i64 o1, .int .i64 o2, .int .i64 o3], .int .i64 0]) ∧ Mem w0 w' L R2 ∧ InM R2 vb2 0 1900 vc2 (addM M 0 4 rav rfree [(300, 192, true)]) ∧ InQ R2 (.slice fa2 nf1 fc2) (.slice ca2 nc1 cc2) (rfree.drop 1) (rchs ++ [c2]) ∧ OkQ 4 (rfree.drop 1) (rchs ++ [c2]) ∧ c2.h = hd ∧ c2.ds = [hd] ∧ c2.rm = 192 ∧ ∀ x ∈ R, x ∈ R2 := by
 have HM := Lib.hid hm
 have HQ := Lib.hid hq
 have HO := Lib.hid ho
 have HAV := Lib.hid hav
 have HA1 := Lib.hid hav1
 have H0 := Lib.hid h0
 have H1 := Lib.hid h1
 have HH := Lib.hid hh
 have q1 : IntKind.i64.wrap ((hd : Int) + 1) = (x1 : Int) := by rw [IntWalk.i64_in _ (by omega)]; omega
 have HSO : Hid (∃ v R', AddNW R 0 0 rav av1 rla nf1 nc1 hd M rfree rchs (300, 192, true) v R') := Lib.hid (Bny.some_of (Add_N (hv.bsl' (k := 3) (n := 1) (c := cellsPt [(300, 192, true)]) ⟨rfl, made_alloc _ #[.int .i64 300, .int .i64 192, .bool true] 91⟩ rfl rfl (by unfold maxLen; omega)) (fun x hx => Mem.s hx) 0 0 rfl (by decide) hm hq ho hav hav1 h0 h1 hh (300, 192, true) ⟨by decide, by decide⟩ Mem.z))
 have HKN : Hid (∀ (B7 : Nat) {E : Bny.Env} (ks : List Nat), 7 ∈ ks → E 7 = .rds [(3, .slice (some ⟨B7, 0, none⟩) 1 1, cellsPt [(300, 192, true)])] → ∀ x ∈ (3, Value.slice (some ⟨B7, 0, none⟩) 1 1, cellsPt [(300, 192, true)]) :: R, Bny.Known ⟨w0, L, R⟩ E ks x) := Lib.hid (fun B7 E ks h1 h2 x hx => by
   rcases List.mem_cons.1 hx with rfl | hx
   · exact .inr ⟨7, h1, by rw [h2]; exact List.mem_singleton_self _⟩
   · exact .inl hx)
 clear hm hq ho hav hav1 h0 h1 hh hx hx4
 go_enter Tryz.func28, Tryz.ntmps28
 go_wp2_with (first
   | ((with_reducible refine at_box (T := 26) (dst := some 3) ?_); refine wl_newb rfl #[.slice (some ⟨vb, 0, none⟩) 1900 vc] 26 (fun _ => rfl) ?_; intro b_3 w2 hm2; replace hv := hv.madeAt hm2; clear hm2)
   | ((with_reducible refine at_box (T := 33) (dst := some 4) ?_); refine wl_newb rfl #[.int .i64 0, .int .i64 4, .slice rfa rfn rfc, .int .u16 rav, .int .u16 rla, .slice rca rcn rcc, .int .i64 120, .int .i64 4, .slice tfa tfn tfc, .int .u16 tav, .int .u16 tla, .slice tca tcn tcc, .int .i64 300, .int .i64 0, .int .i64 i1, .int .i64 i2, .int .i64 i3, .int .i64 o0, .int .i64 o1, .int .i64 o2, .int .i64 o3] 33 (fun _ => rfl) ?_; intro b_4 w2 hm2; replace hv := hv.madeAt hm2; clear hm2)
   | ((with_reducible refine at_alloc (T := 26) (dst := some 6) ?_); refine wl_newb rfl #[.slice none 0 0] 26 (fun _ => rfl) ?_; intro b_6 w2 hm2; replace hv := hv.madeAt hm2; clear hm2)
   | ((with_reducible refine at_alloc (T := 33) (dst := some 7) ?_); refine wl_newb rfl #[.int .i64 0, .int .i64 0, .slice none 0 0, .int .u16 0, .int .u16 0, .slice none 0 0, .int .i64 0, .int .i64 0, .slice none 0 0, .int .u16 0, .int .u16 0, .slice none 0 0, .int .i64 0, .int .i64 0, .int .i64 0, .int .i64 0, .int .i64 0, .int .i64 0, .int .i64 0, .int .i64 0, .int .i64 0] 33 (fun _ => rfl) ?_; intro b_7 w2 hm2; replace hv := hv.madeAt hm2; clear hm2))
 replace hv : Mem w0 _ ([(b_7, _), (b_6, _), (b_4, _), (b_3, _)] ++ L) R := hv
 try simp only [Act.put]
 refine Bny.wp_region_walk _ _ [⟨[1003], none⟩, ⟨[], none⟩, ⟨[1002], none⟩, ⟨[1002], none⟩, ⟨[], none⟩, ⟨[], none⟩, ⟨[], none⟩, ⟨[], some 7⟩, ⟨[7], some 8⟩, ⟨[], none⟩, ⟨[], none⟩, ⟨[], none⟩, ⟨[], none⟩, ⟨[], none⟩, ⟨[], some 14⟩, ⟨[1003], some 1003⟩, ⟨[14], some 14⟩, ⟨[], none⟩, ⟨[], none⟩] [.val, .val, .val, .val, .val, .val, .val, .bslR 3 1 #[.int .i64 300, .int .i64 192, .bool true], .mem (AddNW R 0 0 rav av1 rla nf1 nc1 hd M rfree rchs (300, 192, true)), .pure, .pure, .pure, .pure, .pure, .lay #[.int .i64 0, .int .i64 0, .slice none 0 0, .int .u16 0, .int .u16 0, .slice none 0 0], .put, .put, .pure, .pure] (by kernel_rfl) (by kernel_rfl) hv ?_
 simp only [List.length_cons, List.length_nil, Nat.zero_add, Any.someVals]
 iterate 19 apply Exists.intro
 repeat (first
   | (refine Bny.E_off rfl ?_; simp only [Act.put, sia, scs, scz])
   | ((with_reducible refine Bny.at_ealloc ?_); refine Bny.E_lay (t := 30) rfl rfl rfl (fun _ => rfl) ?_; intro b_9; simp only [Act.put, sia, scs, scz])
   | ((with_reducible refine Bny.at_estore (T := 26) ?_); refine Bny.E_putv (T := 26) rfl rfl rfl rfl rfl rfl 1 infoM rfl rfl (by simp [Value.oneCell']) ?_; simp only [Act.put, sia, scs, scz])
   | ((with_reducible refine Bny.at_estore (T := 30) ?_); refine Bny.E_putv (T := 30) rfl rfl rfl rfl rfl rfl 6 infoQ rfl rfl (by simp [Value.oneCell']) ?_; simp only [Act.put, sia, scs, scz])
   | ((with_reducible refine Bny.at_ecallf (f := 38) ?_); refine Bny.E_callmem rfl rfl rfl (Go.Proofs.enters_of Tryz.func38 (by kernel_rfl) rfl) rfl [.agg #[.slice (some ⟨vb, 0, none⟩) 1900 vc], .agg #[.int .i64 0, .int .i64 4, .slice rfa rfn rfc, .int .u16 rav, .int .u16 rla, .slice rca rcn rcc], .slice (some ⟨B7, 0, none⟩) 1 1] rfl HSO.out ((3, .slice (some ⟨B7, 0, none⟩) 1 1, cellsPt [(300, 192, true)]) :: R) (HKN.out B7 _ (by decide) rfl) (fun w0 w L R' hm hs => Add_N hm (fun x hx => hs x (List.mem_cons_of_mem _ hx)) 0 0 rfl (by decide) HM.out HQ.out HO.out HAV.out HA1.out H0.out H1.out HH.out (300, 192, true) ⟨by decide, by decide⟩ (hs _ (List.mem_cons_self ..))) ?_; rintro v R2 ⟨vb2, vc2, fc2, cc2, fa2, ca2, c2, rfl, hi2, hq2, ho2, k1, k2, k3, hs2⟩; have HI2 := Lib.hid hi2; have HQ2 := Lib.hid hq2; have HO2 := Lib.hid ho2; have K1 := Lib.hid k1; have K2 := Lib.hid k2; have K3 := Lib.hid k3; have HS2 := Lib.hid hs2; clear hi2 hq2 ho2 k1 k2 k3 hs2; simp only [Act.put, sia, scs, scz])
   | ((with_reducible refine Bny.at_ebsl ?_); refine Bny.E_bslR (t := 91) rfl rfl rfl (fun w' => (by unfold execOp; go_simp)) rfl (by unfold maxLen; omega) ?_; intro B7; simp only [Act.put, sia, scs, scz])
   | (apply Bny.E_pureq rfl rfl rfl
      case h => intro K hK; go_big_quiet_op; (refine hK _ ?_; rfl)
      case hr => exact fun _ => rfl
      simp only [Act.put, sia, scs, scz])
   | (apply Bny.E_val rfl rfl rfl rfl
      case h =>
        intro E' hA K hK
        first
          | ((with_reducible refine Bny.at_qload (T := 26) ?_); refine Bny.q_ldv 1003 hA (by decide) rfl rfl 1 _ Tryz.underlying26 rfl infoM (by decide) rfl ?_; refine hK _ ?_; rfl)
          | ((with_reducible refine Bny.at_qload (T := 30) ?_); refine Bny.q_ldp 1002 (o := 0) hA (by decide) rfl rfl 6 _ Tryz.underlying30 rfl infoQ (by decide) (by show 0 + 6 ≤ 21; decide) #[.int .i64 0, .int .i64 4, .slice rfa rfn rfc, .int .u16 rav, .int .u16 rla, .slice rca rcn rcc] rfl ?_; refine hK _ ?_; rfl)
          | ((with_reducible refine Bny.at_qload (T := 33) ?_); refine Bny.q_ldv 1002 hA (by decide) rfl rfl 21 _ Tryz.underlying33 rfl infoN (by decide) rfl ?_; refine hK _ ?_; rfl)
          | ((with_reducible refine Any.at_qbuild (T := 91) ?_); refine Any.q_build _ rfl (built_nb0) ?_; refine hK _ ?_; rfl)
          | (go_big_quiet_op; first
            | (refine hK _ ?_; rfl)
            | (refine ⟨_, fun _ _ => rfl, ?_⟩; refine hK _ ?_; rfl)
            | (apply Exists.intro; refine ⟨fun w1 hw1 => ?_, ?_⟩; · (first
                | (go_at_call 34; exact Bny.calls_VE (inc_0 _) hw1))
               refine hK _ ?_; rfl))
      case hD => rfl
      simp only [Act.put, sia, scs, scz]))
 try any_goals exact undef
 refine Bny.E_nil ?_
 intro w9 hE9
 replace hv : Mem w0 w9 ([(b_9, #[.int .i64 0, .int .i64 4, .slice fa2 nf1 fc2, .int .u16 av1, .int .u16 rla, .slice ca2 nc1 cc2]), (b_7, #[.int .i64 0, .int .i64 0, .slice none 0 0, .int .u16 0, .int .u16 0, .slice none 0 0, .int .i64 0, .int .i64 0, .slice none 0 0, .int .u16 0, .int .u16 0, .slice none 0 0, .int .i64 0, .int .i64 0, .int .i64 0, .int .i64 0, .int .i64 0, .int .i64 0, .int .i64 0, .int .i64 0, .int .i64 0]), (b_6, #[.slice none 0 0]), (b_4, #[.int .i64 0, .int .i64 4, .slice rfa rfn rfc, .int .u16 rav, .int .u16 rla, .slice rca rcn rcc, .int .i64 120, .int .i64 4, .slice tfa tfn tfc, .int .u16 tav, .int .u16 tla, .slice tca tcn tcc, .int .i64 300, .int .i64 0, .int .i64 i1, .int .i64 i2, .int .i64 i3, .int .i64 o0, .int .i64 o1, .int .i64 o2, .int .i64 o3]), (b_3, #[.slice (some ⟨vb2, 0, none⟩) 1900 vc2])] ++ L) R2 := hE9.mem1 [14, 1000, 1001, 1002, 1003] (by decide) 8 rfl
 clear hE9
 simp only [List.cons_append, List.nil_append] at hv
 go_wp2_with (first
   | ((with_reducible refine at_load (T := 30) ?_); refine wl_ldv rfl b_9 rfl _ hv.vars.ro 6 _ Tryz.underlying30 rfl infoQ (by decide) rfl ?_)
   | ((with_reducible refine at_store (T := 30) ?_); refine wl_stp rfl b_4 0 rfl _ rfl _ hv.vars.ro hv.vars.so 6 infoQ rfl (by show 0 + 6 ≤ 21; decide) (by simp [Value.oneCell']) #[.int .i64 0, .int .i64 4, .slice fa2 nf1 fc2, .int .u16 av1, .int .u16 rla, .slice ca2 nc1 cc2, .int .i64 120, .int .i64 4, .slice tfa tfn tfc, .int .u16 tav, .int .u16 tla, .slice tca tcn tcc, .int .i64 300, .int .i64 0, .int .i64 i1, .int .i64 i2, .int .i64 i3, .int .i64 o0, .int .i64 o1, .int .i64 o2, .int .i64 o3] (splice_21_0_6 _ _ _ _ _ _ _ _ _ _ _ _ _ _ _ _ _ _ _ _ _ _ _ _ _ _ _) ?_; intro w2 hw2; replace hv := hv.sets (by repeat first | exact .z | apply SetM.s) hw2; clear hw2)
   | ((with_reducible refine at_store (T := 3) ?_); refine wl_stc rfl b_4 13 rfl (.int .i64 x1) rfl _ hv.vars.ro hv.vars.so (by kernel_rfl) rfl (by show 13 < 21; decide) ?_; intro w2 hw2; replace hv := hv.sets (by repeat first | exact .z | apply SetM.s) hw2; clear hw2; simp only [sia, scs, scz] at hv))
 replace hv : Mem w0 _ ([(b_9, _), (b_7, _), (b_6, _), (b_4, _), (b_3, _)] ++ L) R2 := hv
 try simp only [Act.put]
 refine Bny.wp_region_walk _ _ [⟨[1004], none⟩, ⟨[1003], none⟩, ⟨[], none⟩, ⟨[1002], some 1002⟩, ⟨[1001], some 1001⟩, ⟨[], none⟩] [.val, .val, .val, .put, .put, .val] (by kernel_rfl) (by kernel_rfl) hv ?_
 simp only [List.length_cons, List.length_nil, Nat.zero_add, Any.someVals]
 iterate 6 apply Exists.intro
 repeat (first
   | (refine Bny.E_off rfl ?_; simp only [Act.put, sia, scs, scz])
   | ((with_reducible refine Bny.at_estore (T := 26) ?_); refine Bny.E_putv (T := 26) rfl rfl rfl rfl rfl rfl 1 infoM rfl rfl (by simp [Value.oneCell']) ?_; simp only [Act.put, sia, scs, scz])
   | ((with_reducible refine Bny.at_estore (T := 33) ?_); refine Bny.E_putv (T := 33) rfl rfl rfl rfl rfl rfl 21 infoN rfl rfl (by simp [Value.oneCell']) ?_; simp only [Act.put, sia, scs, scz])
   | (apply Bny.E_pureq rfl rfl rfl
      case h => intro K hK; go_big_quiet_op; (refine hK _ ?_; rfl)
      case hr => exact fun _ => rfl
      simp only [Act.put, sia, scs, scz])
   | (apply Bny.E_val rfl rfl rfl rfl
      case h =>
        intro E' hA K hK
        first
          | ((with_reducible refine Bny.at_qload (T := 26) ?_); refine Bny.q_ldv 1004 hA (by decide) rfl rfl 1 _ Tryz.underlying26 rfl infoM (by decide) rfl ?_; refine hK _ ?_; rfl)
          | ((with_reducible refine Bny.at_qload (T := 33) ?_); refine Bny.q_ldv 1003 hA (by decide) rfl rfl 21 _ Tryz.underlying33 rfl infoN (by decide) rfl ?_; refine hK _ ?_; rfl)
          | (go_big_quiet_op; first
            | (refine hK _ ?_; rfl)
            | (refine ⟨_, fun _ _ => rfl, ?_⟩; refine hK _ ?_; rfl)
            | (apply Exists.intro; refine ⟨fun w1 hw1 => ?_, ?_⟩; · (first
                | fail)
               refine hK _ ?_; rfl))
      case hD => rfl
      simp only [Act.put, sia, scs, scz]))
 try any_goals exact undef
 refine Bny.E_nil ?_
 intro w9 hE9
 replace hv : Mem w0 w9 ([(b_9, #[.int .i64 0, .int .i64 4, .slice fa2 nf1 fc2, .int .u16 av1, .int .u16 rla, .slice ca2 nc1 cc2]), (b_7, #[.int .i64 0, .int .i64 4, .slice fa2 nf1 fc2, .int .u16 av1, .int .u16 rla, .slice ca2 nc1 cc2, .int .i64 120, .int .i64 4, .slice tfa tfn tfc, .int .u16 tav, .int .u16 tla, .slice tca tcn tcc, .int .i64 300, .int .i64 x1, .int .i64 i1, .int .i64 i2, .int .i64 i3, .int .i64 o0, .int .i64 o1, .int .i64 o2, .int .i64 o3]), (b_6, #[.slice (some ⟨vb2, 0, none⟩) 1900 vc2]), (b_4, #[.int .i64 0, .int .i64 4, .slice fa2 nf1 fc2, .int .u16 av1, .int .u16 rla, .slice ca2 nc1 cc2, .int .i64 120, .int .i64 4, .slice tfa tfn tfc, .int .u16 tav, .int .u16 tla, .slice tca tcn tcc, .int .i64 300, .int .i64 x1, .int .i64 i1, .int .i64 i2, .int .i64 i3, .int .i64 o0, .int .i64 o1, .int .i64 o2, .int .i64 o3]), (b_3, #[.slice (some ⟨vb2, 0, none⟩) 1900 vc2])] ++ L) R2 := hE9.mem0 [1000, 1001, 1002, 1003, 1004] (by decide)
 clear hE9
 simp only [List.cons_append, List.nil_append] at hv
 go_wp2
 try simp only [Exit.inBlock, Exit.then]
 refine ret_cct (v := .agg #[.slice (some ⟨vb2, 0, none⟩) 1900 vc2]) (v' := .agg #[.int .i64 0, .int .i64 4, .slice fa2 nf1 fc2, .int .u16 av1, .int .u16 rla, .slice ca2 nc1 cc2, .int .i64 120, .int .i64 4, .slice tfa tfn tfc, .int .u16 tav, .int .u16 tla, .slice tca tcn tcc, .int .i64 300, .int .i64 x1, .int .i64 i1, .int .i64 i2, .int .i64 i3, .int .i64 o0, .int .i64 o1, .int .i64 o2, .int .i64 o3]) (v1 := .int .i64 0) rfl rfl rfl (read_row _ b_6 26 _ (hv.vars.ro (b := b_6)) 1 _ Tryz.underlying26 rfl infoM (by decide) rfl) (read_row _ b_7 33 _ (hv.vars.ro (b := b_7)) 21 _ Tryz.underlying33 rfl infoN (by decide) rfl) rfl rfl ?_
 exact ⟨vb2, vc2, fc2, cc2, fa2, ca2, c2, R2, rfl, hv.keep (by exact List.sublist_append_right [_, _, _, _, _] L), HI2.out, HQ2.out, HO2.out, K1.out, K2.out, K3.out, HS2.out⟩
theorem built_nb1 : Tryz.prog.built 91 [(0, .int .i64 492), (1, .int .i64 192), (2, .bool true)] = some #[.int .i64 492, .int .i64 192, .bool true] := by kernel_rfl
theorem hand_1 {w0 w : World} {L : List (Nat × Array Value)} {R : List (Nat × Value × List Value)} (hv : Mem w0 w L R) {rav rla tav tla rfn rfc rcn rcc tfn tfc tcn tcc : Nat} {rfa rca tfa tca : Option Addr} {rfree : List Nat} {rchs : List Chn} {i0 i2 i3 o0 o1 o2 o3 vb vc av1 nf1 nc1 hd x1 : Nat} {M : List Nat} (hm : InM R vb 0 1900 vc M) (hq : InQ R (.slice rfa rfn rfc) (.slice rca rcn rcc) rfree rchs) (ho : OkQ 4 rfree rchs) (hav : rav < 65535) (hav1 : rav + 1 = av1) (h0 : rfn = nf1 + 1) (h1 : rcn + 1 = nc1) (hh : rfree.getD 0 0 = hd) (hx : hd + 1 = x1) (hx4 : hd < 1000) :
   Calls Tryz.prog 28 #[.agg #[.slice (some ⟨vb, 0, none⟩) 1900 vc], .agg #[.int .i64 0, .int .i64 4, .slice rfa rfn rfc, .int .u16 rav, .int .u16 rla, .slice rca rcn rcc, .int .i64 120, .int .i64 4, .slice tfa tfn tfc, .int .u16 tav, .int .u16 tla, .slice tca tcn tcc, .int .i64 300, .int .i64 i0, .int .i64 0, .int .i64 i2, .int .i64 i3, .int .i64 o0, .int .i64 o1, .int .i64 o2, .int .i64 o3], .int .i64 1] w fun e w' => ∃ vb2 vc2 fc2 cc2 fa2 ca2 c2 R2, e = .returned (.tuple #[.agg #[.slice (some ⟨vb2, 0, none⟩) 1900 vc2], .agg #[.int .i64 0, .int .i64 4, .slice fa2 nf1 fc2, .int .u16 av1, .int .u16 rla, .slice ca2 nc1 cc2, .int .i64 120, .int .i64 4, .slice tfa tfn tfc, .int .u16 tav, .int .u16 tla, .slice tca tcn tcc, .int .i64 300, .int .i64 i0, .int .i64 x1, .int .i64 i2, .int .i64 i3, .int .i64 o0, .int .i64 o1, .int .i64 o2, .int .i64 o3], .int .i64 0]) ∧ Mem w0 w' L R2 ∧ InM R2 vb2 0 1900 vc2 (addM M 0 4 rav rfree [(492, 192, true)]) ∧ InQ R2 (.slice fa2 nf1 fc2) (.slice ca2 nc1 cc2) (rfree.drop 1) (rchs ++ [c2]) ∧ OkQ 4 (rfree.drop 1) (rchs ++ [c2]) ∧ c2.h = hd ∧ c2.ds = [hd] ∧ c2.rm = 192 ∧ ∀ x ∈ R, x ∈ R2 := by
 have HM := Lib.hid hm
 have HQ := Lib.hid hq
 have HO := Lib.hid ho
 have HAV := Lib.hid hav
 have HA1 := Lib.hid hav1
 have H0 := Lib.hid h0
 have H1 := Lib.hid h1
 have HH := Lib.hid hh
 have q1 : IntKind.i64.wrap ((hd : Int) + 1) = (x1 : Int) := by rw [IntWalk.i64_in _ (by omega)]; omega
 have HSO : Hid (∃ v R', AddNW R 0 0 rav av1 rla nf1 nc1 hd M rfree rchs (492, 192, true) v R') := Lib.hid (Bny.some_of (Add_N (hv.bsl' (k := 3) (n := 1) (c := cellsPt [(492, 192, true)]) ⟨rfl, made_alloc _ #[.int .i64 492, .int .i64 192, .bool true] 91⟩ rfl rfl (by unfold maxLen; omega)) (fun x hx => Mem.s hx) 0 0 rfl (by decide) hm hq ho hav hav1 h0 h1 hh (492, 192, true) ⟨by decide, by decide⟩ Mem.z))
 have HKN : Hid (∀ (B7 : Nat) {E : Bny.Env} (ks : List Nat), 7 ∈ ks → E 7 = .rds [(3, .slice (some ⟨B7, 0, none⟩) 1 1, cellsPt [(492, 192, true)])] → ∀ x ∈ (3, Value.slice (some ⟨B7, 0, none⟩) 1 1, cellsPt [(492, 192, true)]) :: R, Bny.Known ⟨w0, L, R⟩ E ks x) := Lib.hid (fun B7 E ks h1 h2 x hx => by
   rcases List.mem_cons.1 hx with rfl | hx
   · exact .inr ⟨7, h1, by rw [h2]; exact List.mem_singleton_self _⟩
   · exact .inl hx)
 clear hm hq ho hav hav1 h0 h1 hh hx hx4
 go_enter Tryz.func28, Tryz.ntmps28
 go_wp2_with (first
   | ((with_reducible refine at_box (T := 26) (dst := some 3) ?_); refine wl_newb rfl #[.slice (some ⟨vb, 0, none⟩) 1900 vc] 26 (fun _ => rfl) ?_; intro b_3 w2 hm2; replace hv := hv.madeAt hm2; clear hm2)
   | ((with_reducible refine at_box (T := 33) (dst := some 4) ?_); refine wl_newb rfl #[.int .i64 0, .int .i64 4, .slice rfa rfn rfc, .int .u16 rav, .int .u16 rla, .slice rca rcn rcc, .int .i64 120, .int .i64 4, .slice tfa tfn tfc, .int .u16 tav, .int .u16 tla, .slice tca tcn tcc, .int .i64 300, .int .i64 i0, .int .i64 0, .int .i64 i2, .int .i64 i3, .int .i64 o0, .int .i64 o1, .int .i64 o2, .int .i64 o3] 33 (fun _ => rfl) ?_; intro b_4 w2 hm2; replace hv := hv.madeAt hm2; clear hm2)
   | ((with_reducible refine at_alloc (T := 26) (dst := some 6) ?_); refine wl_newb rfl #[.slice none 0 0] 26 (fun _ => rfl) ?_; intro b_6 w2 hm2; replace hv := hv.madeAt hm2; clear hm2)
   | ((with_reducible refine at_alloc (T := 33) (dst := some 7) ?_); refine wl_newb rfl #[.int .i64 0, .int .i64 0, .slice none 0 0, .int .u16 0, .int .u16 0, .slice none 0 0, .int .i64 0, .int .i64 0, .slice none 0 0, .int .u16 0, .int .u16 0, .slice none 0 0, .int .i64 0, .int .i64 0, .int .i64 0, .int .i64 0, .int .i64 0, .int .i64 0, .int .i64 0, .int .i64 0, .int .i64 0] 33 (fun _ => rfl) ?_; intro b_7 w2 hm2; replace hv := hv.madeAt hm2; clear hm2))
 replace hv : Mem w0 _ ([(b_7, _), (b_6, _), (b_4, _), (b_3, _)] ++ L) R := hv
 try simp only [Act.put]
 refine Bny.wp_region_walk _ _ [⟨[1003], none⟩, ⟨[], none⟩, ⟨[1002], none⟩, ⟨[1002], none⟩, ⟨[], none⟩, ⟨[], none⟩, ⟨[], none⟩, ⟨[], some 7⟩, ⟨[7], some 8⟩, ⟨[], none⟩, ⟨[], none⟩, ⟨[], none⟩, ⟨[], none⟩, ⟨[], none⟩, ⟨[], some 14⟩, ⟨[1003], some 1003⟩, ⟨[14], some 14⟩, ⟨[], none⟩, ⟨[], none⟩] [.val, .val, .val, .val, .val, .val, .val, .bslR 3 1 #[.int .i64 492, .int .i64 192, .bool true], .mem (AddNW R 0 0 rav av1 rla nf1 nc1 hd M rfree rchs (492, 192, true)), .pure, .pure, .pure, .pure, .pure, .lay #[.int .i64 0, .int .i64 0, .slice none 0 0, .int .u16 0, .int .u16 0, .slice none 0 0], .put, .put, .pure, .pure] (by kernel_rfl) (by kernel_rfl) hv ?_
 simp only [List.length_cons, List.length_nil, Nat.zero_add, Any.someVals]
 iterate 19 apply Exists.intro
 repeat (first
   | (refine Bny.E_off rfl ?_; simp only [Act.put, sia, scs, scz])
   | ((with_reducible refine Bny.at_ealloc ?_); refine Bny.E_lay (t := 30) rfl rfl rfl (fun _ => rfl) ?_; intro b_9; simp only [Act.put, sia, scs, scz])
   | ((with_reducible refine Bny.at_estore (T := 26) ?_); refine Bny.E_putv (T := 26) rfl rfl rfl rfl rfl rfl 1 infoM rfl rfl (by simp [Value.oneCell']) ?_; simp only [Act.put, sia, scs, scz])
   | ((with_reducible refine Bny.at_estore (T := 30) ?_); refine Bny.E_putv (T := 30) rfl rfl rfl rfl rfl rfl 6 infoQ rfl rfl (by simp [Value.oneCell']) ?_; simp only [Act.put, sia, scs, scz])
   | ((with_reducible refine Bny.at_ecallf (f := 38) ?_); refine Bny.E_callmem rfl rfl rfl (Go.Proofs.enters_of Tryz.func38 (by kernel_rfl) rfl) rfl [.agg #[.slice (some ⟨vb, 0, none⟩) 1900 vc], .agg #[.int .i64 0, .int .i64 4, .slice rfa rfn rfc, .int .u16 rav, .int .u16 rla, .slice rca rcn rcc], .slice (some ⟨B7, 0, none⟩) 1 1] rfl HSO.out ((3, .slice (some ⟨B7, 0, none⟩) 1 1, cellsPt [(492, 192, true)]) :: R) (HKN.out B7 _ (by decide) rfl) (fun w0 w L R' hm hs => Add_N hm (fun x hx => hs x (List.mem_cons_of_mem _ hx)) 0 0 rfl (by decide) HM.out HQ.out HO.out HAV.out HA1.out H0.out H1.out HH.out (492, 192, true) ⟨by decide, by decide⟩ (hs _ (List.mem_cons_self ..))) ?_; rintro v R2 ⟨vb2, vc2, fc2, cc2, fa2, ca2, c2, rfl, hi2, hq2, ho2, k1, k2, k3, hs2⟩; have HI2 := Lib.hid hi2; have HQ2 := Lib.hid hq2; have HO2 := Lib.hid ho2; have K1 := Lib.hid k1; have K2 := Lib.hid k2; have K3 := Lib.hid k3; have HS2 := Lib.hid hs2; clear hi2 hq2 ho2 k1 k2 k3 hs2; simp only [Act.put, sia, scs, scz])
   | ((with_reducible refine Bny.at_ebsl ?_); refine Bny.E_bslR (t := 91) rfl rfl rfl (fun w' => (by unfold execOp; go_simp)) rfl (by unfold maxLen; omega) ?_; intro B7; simp only [Act.put, sia, scs, scz])
   | (apply Bny.E_pureq rfl rfl rfl
      case h => intro K hK; go_big_quiet_op; (refine hK _ ?_; rfl)
      case hr => exact fun _ => rfl
      simp only [Act.put, sia, scs, scz])
   | (apply Bny.E_val rfl rfl rfl rfl
      case h =>
        intro E' hA K hK
        first
          | ((with_reducible refine Bny.at_qload (T := 26) ?_); refine Bny.q_ldv 1003 hA (by decide) rfl rfl 1 _ Tryz.underlying26 rfl infoM (by decide) rfl ?_; refine hK _ ?_; rfl)
          | ((with_reducible refine Bny.at_qload (T := 30) ?_); refine Bny.q_ldp 1002 (o := 0) hA (by decide) rfl rfl 6 _ Tryz.underlying30 rfl infoQ (by decide) (by show 0 + 6 ≤ 21; decide) #[.int .i64 0, .int .i64 4, .slice rfa rfn rfc, .int .u16 rav, .int .u16 rla, .slice rca rcn rcc] rfl ?_; refine hK _ ?_; rfl)
          | ((with_reducible refine Bny.at_qload (T := 33) ?_); refine Bny.q_ldv 1002 hA (by decide) rfl rfl 21 _ Tryz.underlying33 rfl infoN (by decide) rfl ?_; refine hK _ ?_; rfl)
          | ((with_reducible refine Any.at_qbuild (T := 91) ?_); refine Any.q_build _ rfl (built_nb1) ?_; refine hK _ ?_; rfl)
          | (go_big_quiet_op; first
            | (refine hK _ ?_; rfl)
            | (refine ⟨_, fun _ _ => rfl, ?_⟩; refine hK _ ?_; rfl)
            | (apply Exists.intro; refine ⟨fun w1 hw1 => ?_, ?_⟩; · (first
                | (go_at_call 34; exact Bny.calls_VE (inc_1 _) hw1))
               refine hK _ ?_; rfl))
      case hD => rfl
      simp only [Act.put, sia, scs, scz]))
 try any_goals exact undef
 refine Bny.E_nil ?_
 intro w9 hE9
 replace hv : Mem w0 w9 ([(b_9, #[.int .i64 0, .int .i64 4, .slice fa2 nf1 fc2, .int .u16 av1, .int .u16 rla, .slice ca2 nc1 cc2]), (b_7, #[.int .i64 0, .int .i64 0, .slice none 0 0, .int .u16 0, .int .u16 0, .slice none 0 0, .int .i64 0, .int .i64 0, .slice none 0 0, .int .u16 0, .int .u16 0, .slice none 0 0, .int .i64 0, .int .i64 0, .int .i64 0, .int .i64 0, .int .i64 0, .int .i64 0, .int .i64 0, .int .i64 0, .int .i64 0]), (b_6, #[.slice none 0 0]), (b_4, #[.int .i64 0, .int .i64 4, .slice rfa rfn rfc, .int .u16 rav, .int .u16 rla, .slice rca rcn rcc, .int .i64 120, .int .i64 4, .slice tfa tfn tfc, .int .u16 tav, .int .u16 tla, .slice tca tcn tcc, .int .i64 300, .int .i64 i0, .int .i64 0, .int .i64 i2, .int .i64 i3, .int .i64 o0, .int .i64 o1, .int .i64 o2, .int .i64 o3]), (b_3, #[.slice (some ⟨vb2, 0, none⟩) 1900 vc2])] ++ L) R2 := hE9.mem1 [14, 1000, 1001, 1002, 1003] (by decide) 8 rfl
 clear hE9
 simp only [List.cons_append, List.nil_append] at hv
 go_wp2_with (first
   | ((with_reducible refine at_load (T := 30) ?_); refine wl_ldv rfl b_9 rfl _ hv.vars.ro 6 _ Tryz.underlying30 rfl infoQ (by decide) rfl ?_)
   | ((with_reducible refine at_store (T := 30) ?_); refine wl_stp rfl b_4 0 rfl _ rfl _ hv.vars.ro hv.vars.so 6 infoQ rfl (by show 0 + 6 ≤ 21; decide) (by simp [Value.oneCell']) #[.int .i64 0, .int .i64 4, .slice fa2 nf1 fc2, .int .u16 av1, .int .u16 rla, .slice ca2 nc1 cc2, .int .i64 120, .int .i64 4, .slice tfa tfn tfc, .int .u16 tav, .int .u16 tla, .slice tca tcn tcc, .int .i64 300, .int .i64 i0, .int .i64 0, .int .i64 i2, .int .i64 i3, .int .i64 o0, .int .i64 o1, .int .i64 o2, .int .i64 o3] (splice_21_0_6 _ _ _ _ _ _ _ _ _ _ _ _ _ _ _ _ _ _ _ _ _ _ _ _ _ _ _) ?_; intro w2 hw2; replace hv := hv.sets (by repeat first | exact .z | apply SetM.s) hw2; clear hw2)
   | ((with_reducible refine at_store (T := 3) ?_); refine wl_stc rfl b_4 14 rfl (.int .i64 x1) rfl _ hv.vars.ro hv.vars.so (by kernel_rfl) rfl (by show 14 < 21; decide) ?_; intro w2 hw2; replace hv := hv.sets (by repeat first | exact .z | apply SetM.s) hw2; clear hw2; simp only [sia, scs, scz] at hv))
 replace hv : Mem w0 _ ([(b_9, _), (b_7, _), (b_6, _), (b_4, _), (b_3, _)] ++ L) R2 := hv
 try simp only [Act.put]
 refine Bny.wp_region_walk _ _ [⟨[1004], none⟩, ⟨[1003], none⟩, ⟨[], none⟩, ⟨[1002], some 1002⟩, ⟨[1001], some 1001⟩, ⟨[], none⟩] [.val, .val, .val, .put, .put, .val] (by kernel_rfl) (by kernel_rfl) hv ?_
 simp only [List.length_cons, List.length_nil, Nat.zero_add, Any.someVals]
 iterate 6 apply Exists.intro
 repeat (first
   | (refine Bny.E_off rfl ?_; simp only [Act.put, sia, scs, scz])
   | ((with_reducible refine Bny.at_estore (T := 26) ?_); refine Bny.E_putv (T := 26) rfl rfl rfl rfl rfl rfl 1 infoM rfl rfl (by simp [Value.oneCell']) ?_; simp only [Act.put, sia, scs, scz])
   | ((with_reducible refine Bny.at_estore (T := 33) ?_); refine Bny.E_putv (T := 33) rfl rfl rfl rfl rfl rfl 21 infoN rfl rfl (by simp [Value.oneCell']) ?_; simp only [Act.put, sia, scs, scz])
   | (apply Bny.E_pureq rfl rfl rfl
      case h => intro K hK; go_big_quiet_op; (refine hK _ ?_; rfl)
      case hr => exact fun _ => rfl
      simp only [Act.put, sia, scs, scz])
   | (apply Bny.E_val rfl rfl rfl rfl
      case h =>
        intro E' hA K hK
        first
          | ((with_reducible refine Bny.at_qload (T := 26) ?_); refine Bny.q_ldv 1004 hA (by decide) rfl rfl 1 _ Tryz.underlying26 rfl infoM (by decide) rfl ?_; refine hK _ ?_; rfl)
          | ((with_reducible refine Bny.at_qload (T := 33) ?_); refine Bny.q_ldv 1003 hA (by decide) rfl rfl 21 _ Tryz.underlying33 rfl infoN (by decide) rfl ?_; refine hK _ ?_; rfl)
          | (go_big_quiet_op; first
            | (refine hK _ ?_; rfl)
            | (refine ⟨_, fun _ _ => rfl, ?_⟩; refine hK _ ?_; rfl)
            | (apply Exists.intro; refine ⟨fun w1 hw1 => ?_, ?_⟩; · (first
                | fail)
               refine hK _ ?_; rfl))
      case hD => rfl
      simp only [Act.put, sia, scs, scz]))
 try any_goals exact undef
 refine Bny.E_nil ?_
 intro w9 hE9
 replace hv : Mem w0 w9 ([(b_9, #[.int .i64 0, .int .i64 4, .slice fa2 nf1 fc2, .int .u16 av1, .int .u16 rla, .slice ca2 nc1 cc2]), (b_7, #[.int .i64 0, .int .i64 4, .slice fa2 nf1 fc2, .int .u16 av1, .int .u16 rla, .slice ca2 nc1 cc2, .int .i64 120, .int .i64 4, .slice tfa tfn tfc, .int .u16 tav, .int .u16 tla, .slice tca tcn tcc, .int .i64 300, .int .i64 i0, .int .i64 x1, .int .i64 i2, .int .i64 i3, .int .i64 o0, .int .i64 o1, .int .i64 o2, .int .i64 o3]), (b_6, #[.slice (some ⟨vb2, 0, none⟩) 1900 vc2]), (b_4, #[.int .i64 0, .int .i64 4, .slice fa2 nf1 fc2, .int .u16 av1, .int .u16 rla, .slice ca2 nc1 cc2, .int .i64 120, .int .i64 4, .slice tfa tfn tfc, .int .u16 tav, .int .u16 tla, .slice tca tcn tcc, .int .i64 300, .int .i64 i0, .int .i64 x1, .int .i64 i2, .int .i64 i3, .int .i64 o0, .int .i64 o1, .int .i64 o2, .int .i64 o3]), (b_3, #[.slice (some ⟨vb2, 0, none⟩) 1900 vc2])] ++ L) R2 := hE9.mem0 [1000, 1001, 1002, 1003, 1004] (by decide)
 clear hE9
 simp only [List.cons_append, List.nil_append] at hv
 go_wp2
 try simp only [Exit.inBlock, Exit.then]
 refine ret_cct (v := .agg #[.slice (some ⟨vb2, 0, none⟩) 1900 vc2]) (v' := .agg #[.int .i64 0, .int .i64 4, .slice fa2 nf1 fc2, .int .u16 av1, .int .u16 rla, .slice ca2 nc1 cc2, .int .i64 120, .int .i64 4, .slice tfa tfn tfc, .int .u16 tav, .int .u16 tla, .slice tca tcn tcc, .int .i64 300, .int .i64 i0, .int .i64 x1, .int .i64 i2, .int .i64 i3, .int .i64 o0, .int .i64 o1, .int .i64 o2, .int .i64 o3]) (v1 := .int .i64 0) rfl rfl rfl (read_row _ b_6 26 _ (hv.vars.ro (b := b_6)) 1 _ Tryz.underlying26 rfl infoM (by decide) rfl) (read_row _ b_7 33 _ (hv.vars.ro (b := b_7)) 21 _ Tryz.underlying33 rfl infoN (by decide) rfl) rfl rfl ?_
 exact ⟨vb2, vc2, fc2, cc2, fa2, ca2, c2, R2, rfl, hv.keep (by exact List.sublist_append_right [_, _, _, _, _] L), HI2.out, HQ2.out, HO2.out, K1.out, K2.out, K3.out, HS2.out⟩
theorem built_nb2 : Tryz.prog.built 91 [(0, .int .i64 684), (1, .int .i64 192), (2, .bool true)] = some #[.int .i64 684, .int .i64 192, .bool true] := by kernel_rfl
theorem hand_2 {w0 w : World} {L : List (Nat × Array Value)} {R : List (Nat × Value × List Value)} (hv : Mem w0 w L R) {rav rla tav tla rfn rfc rcn rcc tfn tfc tcn tcc : Nat} {rfa rca tfa tca : Option Addr} {rfree : List Nat} {rchs : List Chn} {i0 i1 i3 o0 o1 o2 o3 vb vc av1 nf1 nc1 hd x1 : Nat} {M : List Nat} (hm : InM R vb 0 1900 vc M) (hq : InQ R (.slice rfa rfn rfc) (.slice rca rcn rcc) rfree rchs) (ho : OkQ 4 rfree rchs) (hav : rav < 65535) (hav1 : rav + 1 = av1) (h0 : rfn = nf1 + 1) (h1 : rcn + 1 = nc1) (hh : rfree.getD 0 0 = hd) (hx : hd + 1 = x1) (hx4 : hd < 1000) :
   Calls Tryz.prog 28 #[.agg #[.slice (some ⟨vb, 0, none⟩) 1900 vc], .agg #[.int .i64 0, .int .i64 4, .slice rfa rfn rfc, .int .u16 rav, .int .u16 rla, .slice rca rcn rcc, .int .i64 120, .int .i64 4, .slice tfa tfn tfc, .int .u16 tav, .int .u16 tla, .slice tca tcn tcc, .int .i64 300, .int .i64 i0, .int .i64 i1, .int .i64 0, .int .i64 i3, .int .i64 o0, .int .i64 o1, .int .i64 o2, .int .i64 o3], .int .i64 2] w fun e w' => ∃ vb2 vc2 fc2 cc2 fa2 ca2 c2 R2, e = .returned (.tuple #[.agg #[.slice (some ⟨vb2, 0, none⟩) 1900 vc2], .agg #[.int .i64 0, .int .i64 4, .slice fa2 nf1 fc2, .int .u16 av1, .int .u16 rla, .slice ca2 nc1 cc2, .int .i64 120, .int .i64 4, .slice tfa tfn tfc, .int .u16 tav, .int .u16 tla, .slice tca tcn tcc, .int .i64 300, .int .i64 i0, .int .i64 i1, .int .i64 x1, .int .i64 i3, .int .i64 o0, .int .i64 o1, .int .i64 o2, .int .i64 o3], .int .i64 0]) ∧ Mem w0 w' L R2 ∧ InM R2 vb2 0 1900 vc2 (addM M 0 4 rav rfree [(684, 192, true)]) ∧ InQ R2 (.slice fa2 nf1 fc2) (.slice ca2 nc1 cc2) (rfree.drop 1) (rchs ++ [c2]) ∧ OkQ 4 (rfree.drop 1) (rchs ++ [c2]) ∧ c2.h = hd ∧ c2.ds = [hd] ∧ c2.rm = 192 ∧ ∀ x ∈ R, x ∈ R2 := by
 have HM := Lib.hid hm
 have HQ := Lib.hid hq
 have HO := Lib.hid ho
 have HAV := Lib.hid hav
 have HA1 := Lib.hid hav1
 have H0 := Lib.hid h0
 have H1 := Lib.hid h1
 have HH := Lib.hid hh
 have q1 : IntKind.i64.wrap ((hd : Int) + 1) = (x1 : Int) := by rw [IntWalk.i64_in _ (by omega)]; omega
 have HSO : Hid (∃ v R', AddNW R 0 0 rav av1 rla nf1 nc1 hd M rfree rchs (684, 192, true) v R') := Lib.hid (Bny.some_of (Add_N (hv.bsl' (k := 3) (n := 1) (c := cellsPt [(684, 192, true)]) ⟨rfl, made_alloc _ #[.int .i64 684, .int .i64 192, .bool true] 91⟩ rfl rfl (by unfold maxLen; omega)) (fun x hx => Mem.s hx) 0 0 rfl (by decide) hm hq ho hav hav1 h0 h1 hh (684, 192, true) ⟨by decide, by decide⟩ Mem.z))
 have HKN : Hid (∀ (B7 : Nat) {E : Bny.Env} (ks : List Nat), 7 ∈ ks → E 7 = .rds [(3, .slice (some ⟨B7, 0, none⟩) 1 1, cellsPt [(684, 192, true)])] → ∀ x ∈ (3, Value.slice (some ⟨B7, 0, none⟩) 1 1, cellsPt [(684, 192, true)]) :: R, Bny.Known ⟨w0, L, R⟩ E ks x) := Lib.hid (fun B7 E ks h1 h2 x hx => by
   rcases List.mem_cons.1 hx with rfl | hx
   · exact .inr ⟨7, h1, by rw [h2]; exact List.mem_singleton_self _⟩
   · exact .inl hx)
 clear hm hq ho hav hav1 h0 h1 hh hx hx4
 go_enter Tryz.func28, Tryz.ntmps28
 go_wp2_with (first
   | ((with_reducible refine at_box (T := 26) (dst := some 3) ?_); refine wl_newb rfl #[.slice (some ⟨vb, 0, none⟩) 1900 vc] 26 (fun _ => rfl) ?_; intro b_3 w2 hm2; replace hv := hv.madeAt hm2; clear hm2)
   | ((with_reducible refine at_box (T := 33) (dst := some 4) ?_); refine wl_newb rfl #[.int .i64 0, .int .i64 4, .slice rfa rfn rfc, .int .u16 rav, .int .u16 rla, .slice rca rcn rcc, .int .i64 120, .int .i64 4, .slice tfa tfn tfc, .int .u16 tav, .int .u16 tla, .slice tca tcn tcc, .int .i64 300, .int .i64 i0, .int .i64 i1, .int .i64 0, .int .i64 i3, .int .i64 o0, .int .i64 o1, .int .i64 o2, .int .i64 o3] 33 (fun _ => rfl) ?_; intro b_4 w2 hm2; replace hv := hv.madeAt hm2; clear hm2)
   | ((with_reducible refine at_alloc (T := 26) (dst := some 6) ?_); refine wl_newb rfl #[.slice none 0 0] 26 (fun _ => rfl) ?_; intro b_6 w2 hm2; replace hv := hv.madeAt hm2; clear hm2)
   | ((with_reducible refine at_alloc (T := 33) (dst := some 7) ?_); refine wl_newb rfl #[.int .i64 0, .int .i64 0, .slice none 0 0, .int .u16 0, .int .u16 0, .slice none 0 0, .int .i64 0, .int .i64 0, .slice none 0 0, .int .u16 0, .int .u16 0, .slice none 0 0, .int .i64 0, .int .i64 0, .int .i64 0, .int .i64 0, .int .i64 0, .int .i64 0, .int .i64 0, .int .i64 0, .int .i64 0] 33 (fun _ => rfl) ?_; intro b_7 w2 hm2; replace hv := hv.madeAt hm2; clear hm2))
 replace hv : Mem w0 _ ([(b_7, _), (b_6, _), (b_4, _), (b_3, _)] ++ L) R := hv
 try simp only [Act.put]
 refine Bny.wp_region_walk _ _ [⟨[1003], none⟩, ⟨[], none⟩, ⟨[1002], none⟩, ⟨[1002], none⟩, ⟨[], none⟩, ⟨[], none⟩, ⟨[], none⟩, ⟨[], some 7⟩, ⟨[7], some 8⟩, ⟨[], none⟩, ⟨[], none⟩, ⟨[], none⟩, ⟨[], none⟩, ⟨[], none⟩, ⟨[], some 14⟩, ⟨[1003], some 1003⟩, ⟨[14], some 14⟩, ⟨[], none⟩, ⟨[], none⟩] [.val, .val, .val, .val, .val, .val, .val, .bslR 3 1 #[.int .i64 684, .int .i64 192, .bool true], .mem (AddNW R 0 0 rav av1 rla nf1 nc1 hd M rfree rchs (684, 192, true)), .pure, .pure, .pure, .pure, .pure, .lay #[.int .i64 0, .int .i64 0, .slice none 0 0, .int .u16 0, .int .u16 0, .slice none 0 0], .put, .put, .pure, .pure] (by kernel_rfl) (by kernel_rfl) hv ?_
 simp only [List.length_cons, List.length_nil, Nat.zero_add, Any.someVals]
 iterate 19 apply Exists.intro
 repeat (first
   | (refine Bny.E_off rfl ?_; simp only [Act.put, sia, scs, scz])
   | ((with_reducible refine Bny.at_ealloc ?_); refine Bny.E_lay (t := 30) rfl rfl rfl (fun _ => rfl) ?_; intro b_9; simp only [Act.put, sia, scs, scz])
   | ((with_reducible refine Bny.at_estore (T := 26) ?_); refine Bny.E_putv (T := 26) rfl rfl rfl rfl rfl rfl 1 infoM rfl rfl (by simp [Value.oneCell']) ?_; simp only [Act.put, sia, scs, scz])
   | ((with_reducible refine Bny.at_estore (T := 30) ?_); refine Bny.E_putv (T := 30) rfl rfl rfl rfl rfl rfl 6 infoQ rfl rfl (by simp [Value.oneCell']) ?_; simp only [Act.put, sia, scs, scz])
   | ((with_reducible refine Bny.at_ecallf (f := 38) ?_); refine Bny.E_callmem rfl rfl rfl (Go.Proofs.enters_of Tryz.func38 (by kernel_rfl) rfl) rfl [.agg #[.slice (some ⟨vb, 0, none⟩) 1900 vc], .agg #[.int .i64 0, .int .i64 4, .slice rfa rfn rfc, .int .u16 rav, .int .u16 rla, .slice rca rcn rcc], .slice (some ⟨B7, 0, none⟩) 1 1] rfl HSO.out ((3, .slice (some ⟨B7, 0, none⟩) 1 1, cellsPt [(684, 192, true)]) :: R) (HKN.out B7 _ (by decide) rfl) (fun w0 w L R' hm hs => Add_N hm (fun x hx => hs x (List.mem_cons_of_mem _ hx)) 0 0 rfl (by decide) HM.out HQ.out HO.out HAV.out HA1.out H0.out H1.out HH.out (684, 192, true) ⟨by decide, by decide⟩ (hs _ (List.mem_cons_self ..))) ?_; rintro v R2 ⟨vb2, vc2, fc2, cc2, fa2, ca2, c2, rfl, hi2, hq2, ho2, k1, k2, k3, hs2⟩; have HI2 := Lib.hid hi2; have HQ2 := Lib.hid hq2; have HO2 := Lib.hid ho2; have K1 := Lib.hid k1; have K2 := Lib.hid k2; have K3 := Lib.hid k3; have HS2 := Lib.hid hs2; clear hi2 hq2 ho2 k1 k2 k3 hs2; simp only [Act.put, sia, scs, scz])
   | ((with_reducible refine Bny.at_ebsl ?_); refine Bny.E_bslR (t := 91) rfl rfl rfl (fun w' => (by unfold execOp; go_simp)) rfl (by unfold maxLen; omega) ?_; intro B7; simp only [Act.put, sia, scs, scz])
   | (apply Bny.E_pureq rfl rfl rfl
      case h => intro K hK; go_big_quiet_op; (refine hK _ ?_; rfl)
      case hr => exact fun _ => rfl
      simp only [Act.put, sia, scs, scz])
   | (apply Bny.E_val rfl rfl rfl rfl
      case h =>
        intro E' hA K hK
        first
          | ((with_reducible refine Bny.at_qload (T := 26) ?_); refine Bny.q_ldv 1003 hA (by decide) rfl rfl 1 _ Tryz.underlying26 rfl infoM (by decide) rfl ?_; refine hK _ ?_; rfl)
          | ((with_reducible refine Bny.at_qload (T := 30) ?_); refine Bny.q_ldp 1002 (o := 0) hA (by decide) rfl rfl 6 _ Tryz.underlying30 rfl infoQ (by decide) (by show 0 + 6 ≤ 21; decide) #[.int .i64 0, .int .i64 4, .slice rfa rfn rfc, .int .u16 rav, .int .u16 rla, .slice rca rcn rcc] rfl ?_; refine hK _ ?_; rfl)
          | ((with_reducible refine Bny.at_qload (T := 33) ?_); refine Bny.q_ldv 1002 hA (by decide) rfl rfl 21 _ Tryz.underlying33 rfl infoN (by decide) rfl ?_; refine hK _ ?_; rfl)
          | ((with_reducible refine Any.at_qbuild (T := 91) ?_); refine Any.q_build _ rfl (built_nb2) ?_; refine hK _ ?_; rfl)
          | (go_big_quiet_op; first
            | (refine hK _ ?_; rfl)
            | (refine ⟨_, fun _ _ => rfl, ?_⟩; refine hK _ ?_; rfl)
            | (apply Exists.intro; refine ⟨fun w1 hw1 => ?_, ?_⟩; · (first
                | (go_at_call 34; exact Bny.calls_VE (inc_2 _) hw1))
               refine hK _ ?_; rfl))
      case hD => rfl
      simp only [Act.put, sia, scs, scz]))
 try any_goals exact undef
 refine Bny.E_nil ?_
 intro w9 hE9
 replace hv : Mem w0 w9 ([(b_9, #[.int .i64 0, .int .i64 4, .slice fa2 nf1 fc2, .int .u16 av1, .int .u16 rla, .slice ca2 nc1 cc2]), (b_7, #[.int .i64 0, .int .i64 0, .slice none 0 0, .int .u16 0, .int .u16 0, .slice none 0 0, .int .i64 0, .int .i64 0, .slice none 0 0, .int .u16 0, .int .u16 0, .slice none 0 0, .int .i64 0, .int .i64 0, .int .i64 0, .int .i64 0, .int .i64 0, .int .i64 0, .int .i64 0, .int .i64 0, .int .i64 0]), (b_6, #[.slice none 0 0]), (b_4, #[.int .i64 0, .int .i64 4, .slice rfa rfn rfc, .int .u16 rav, .int .u16 rla, .slice rca rcn rcc, .int .i64 120, .int .i64 4, .slice tfa tfn tfc, .int .u16 tav, .int .u16 tla, .slice tca tcn tcc, .int .i64 300, .int .i64 i0, .int .i64 i1, .int .i64 0, .int .i64 i3, .int .i64 o0, .int .i64 o1, .int .i64 o2, .int .i64 o3]), (b_3, #[.slice (some ⟨vb2, 0, none⟩) 1900 vc2])] ++ L) R2 := hE9.mem1 [14, 1000, 1001, 1002, 1003] (by decide) 8 rfl
 clear hE9
 simp only [List.cons_append, List.nil_append] at hv
 go_wp2_with (first
   | ((with_reducible refine at_load (T := 30) ?_); refine wl_ldv rfl b_9 rfl _ hv.vars.ro 6 _ Tryz.underlying30 rfl infoQ (by decide) rfl ?_)
   | ((with_reducible refine at_store (T := 30) ?_); refine wl_stp rfl b_4 0 rfl _ rfl _ hv.vars.ro hv.vars.so 6 infoQ rfl (by show 0 + 6 ≤ 21; decide) (by simp [Value.oneCell']) #[.int .i64 0, .int .i64 4, .slice fa2 nf1 fc2, .int .u16 av1, .int .u16 rla, .slice ca2 nc1 cc2, .int .i64 120, .int .i64 4, .slice tfa tfn tfc, .int .u16 tav, .int .u16 tla, .slice tca tcn tcc, .int .i64 300, .int .i64 i0, .int .i64 i1, .int .i64 0, .int .i64 i3, .int .i64 o0, .int .i64 o1, .int .i64 o2, .int .i64 o3] (splice_21_0_6 _ _ _ _ _ _ _ _ _ _ _ _ _ _ _ _ _ _ _ _ _ _ _ _ _ _ _) ?_; intro w2 hw2; replace hv := hv.sets (by repeat first | exact .z | apply SetM.s) hw2; clear hw2)
   | ((with_reducible refine at_store (T := 3) ?_); refine wl_stc rfl b_4 15 rfl (.int .i64 x1) rfl _ hv.vars.ro hv.vars.so (by kernel_rfl) rfl (by show 15 < 21; decide) ?_; intro w2 hw2; replace hv := hv.sets (by repeat first | exact .z | apply SetM.s) hw2; clear hw2; simp only [sia, scs, scz] at hv))
 replace hv : Mem w0 _ ([(b_9, _), (b_7, _), (b_6, _), (b_4, _), (b_3, _)] ++ L) R2 := hv
 try simp only [Act.put]
 refine Bny.wp_region_walk _ _ [⟨[1004], none⟩, ⟨[1003], none⟩, ⟨[], none⟩, ⟨[1002], some 1002⟩, ⟨[1001], some 1001⟩, ⟨[], none⟩] [.val, .val, .val, .put, .put, .val] (by kernel_rfl) (by kernel_rfl) hv ?_
 simp only [List.length_cons, List.length_nil, Nat.zero_add, Any.someVals]
 iterate 6 apply Exists.intro
 repeat (first
   | (refine Bny.E_off rfl ?_; simp only [Act.put, sia, scs, scz])
   | ((with_reducible refine Bny.at_estore (T := 26) ?_); refine Bny.E_putv (T := 26) rfl rfl rfl rfl rfl rfl 1 infoM rfl rfl (by simp [Value.oneCell']) ?_; simp only [Act.put, sia, scs, scz])
   | ((with_reducible refine Bny.at_estore (T := 33) ?_); refine Bny.E_putv (T := 33) rfl rfl rfl rfl rfl rfl 21 infoN rfl rfl (by simp [Value.oneCell']) ?_; simp only [Act.put, sia, scs, scz])
   | (apply Bny.E_pureq rfl rfl rfl
      case h => intro K hK; go_big_quiet_op; (refine hK _ ?_; rfl)
      case hr => exact fun _ => rfl
      simp only [Act.put, sia, scs, scz])
   | (apply Bny.E_val rfl rfl rfl rfl
      case h =>
        intro E' hA K hK
        first
          | ((with_reducible refine Bny.at_qload (T := 26) ?_); refine Bny.q_ldv 1004 hA (by decide) rfl rfl 1 _ Tryz.underlying26 rfl infoM (by decide) rfl ?_; refine hK _ ?_; rfl)
          | ((with_reducible refine Bny.at_qload (T := 33) ?_); refine Bny.q_ldv 1003 hA (by decide) rfl rfl 21 _ Tryz.underlying33 rfl infoN (by decide) rfl ?_; refine hK _ ?_; rfl)
          | (go_big_quiet_op; first
            | (refine hK _ ?_; rfl)
            | (refine ⟨_, fun _ _ => rfl, ?_⟩; refine hK _ ?_; rfl)
            | (apply Exists.intro; refine ⟨fun w1 hw1 => ?_, ?_⟩; · (first
                | fail)
               refine hK _ ?_; rfl))
      case hD => rfl
      simp only [Act.put, sia, scs, scz]))
 try any_goals exact undef
 refine Bny.E_nil ?_
 intro w9 hE9
 replace hv : Mem w0 w9 ([(b_9, #[.int .i64 0, .int .i64 4, .slice fa2 nf1 fc2, .int .u16 av1, .int .u16 rla, .slice ca2 nc1 cc2]), (b_7, #[.int .i64 0, .int .i64 4, .slice fa2 nf1 fc2, .int .u16 av1, .int .u16 rla, .slice ca2 nc1 cc2, .int .i64 120, .int .i64 4, .slice tfa tfn tfc, .int .u16 tav, .int .u16 tla, .slice tca tcn tcc, .int .i64 300, .int .i64 i0, .int .i64 i1, .int .i64 x1, .int .i64 i3, .int .i64 o0, .int .i64 o1, .int .i64 o2, .int .i64 o3]), (b_6, #[.slice (some ⟨vb2, 0, none⟩) 1900 vc2]), (b_4, #[.int .i64 0, .int .i64 4, .slice fa2 nf1 fc2, .int .u16 av1, .int .u16 rla, .slice ca2 nc1 cc2, .int .i64 120, .int .i64 4, .slice tfa tfn tfc, .int .u16 tav, .int .u16 tla, .slice tca tcn tcc, .int .i64 300, .int .i64 i0, .int .i64 i1, .int .i64 x1, .int .i64 i3, .int .i64 o0, .int .i64 o1, .int .i64 o2, .int .i64 o3]), (b_3, #[.slice (some ⟨vb2, 0, none⟩) 1900 vc2])] ++ L) R2 := hE9.mem0 [1000, 1001, 1002, 1003, 1004] (by decide)
 clear hE9
 simp only [List.cons_append, List.nil_append] at hv
 go_wp2
 try simp only [Exit.inBlock, Exit.then]
 refine ret_cct (v := .agg #[.slice (some ⟨vb2, 0, none⟩) 1900 vc2]) (v' := .agg #[.int .i64 0, .int .i64 4, .slice fa2 nf1 fc2, .int .u16 av1, .int .u16 rla, .slice ca2 nc1 cc2, .int .i64 120, .int .i64 4, .slice tfa tfn tfc, .int .u16 tav, .int .u16 tla, .slice tca tcn tcc, .int .i64 300, .int .i64 i0, .int .i64 i1, .int .i64 x1, .int .i64 i3, .int .i64 o0, .int .i64 o1, .int .i64 o2, .int .i64 o3]) (v1 := .int .i64 0) rfl rfl rfl (read_row _ b_6 26 _ (hv.vars.ro (b := b_6)) 1 _ Tryz.underlying26 rfl infoM (by decide) rfl) (read_row _ b_7 33 _ (hv.vars.ro (b := b_7)) 21 _ Tryz.underlying33 rfl infoN (by decide) rfl) rfl rfl ?_
 exact ⟨vb2, vc2, fc2, cc2, fa2, ca2, c2, R2, rfl, hv.keep (by exact List.sublist_append_right [_, _, _, _, _] L), HI2.out, HQ2.out, HO2.out, K1.out, K2.out, K3.out, HS2.out⟩
theorem built_nb3 : Tryz.prog.built 91 [(0, .int .i64 876), (1, .int .i64 192), (2, .bool true)] = some #[.int .i64 876, .int .i64 192, .bool true] := by kernel_rfl
theorem hand_3 {w0 w : World} {L : List (Nat × Array Value)} {R : List (Nat × Value × List Value)} (hv : Mem w0 w L R) {rav rla tav tla rfn rfc rcn rcc tfn tfc tcn tcc : Nat} {rfa rca tfa tca : Option Addr} {rfree : List Nat} {rchs : List Chn} {i0 i1 i2 o0 o1 o2 o3 vb vc av1 nf1 nc1 hd x1 : Nat} {M : List Nat} (hm : InM R vb 0 1900 vc M) (hq : InQ R (.slice rfa rfn rfc) (.slice rca rcn rcc) rfree rchs) (ho : OkQ 4 rfree rchs) (hav : rav < 65535) (hav1 : rav + 1 = av1) (h0 : rfn = nf1 + 1) (h1 : rcn + 1 = nc1) (hh : rfree.getD 0 0 = hd) (hx : hd + 1 = x1) (hx4 : hd < 1000) :
   Calls Tryz.prog 28 #[.agg #[.slice (some ⟨vb, 0, none⟩) 1900 vc], .agg #[.int .i64 0, .int .i64 4, .slice rfa rfn rfc, .int .u16 rav, .int .u16 rla, .slice rca rcn rcc, .int .i64 120, .int .i64 4, .slice tfa tfn tfc, .int .u16 tav, .int .u16 tla, .slice tca tcn tcc, .int .i64 300, .int .i64 i0, .int .i64 i1, .int .i64 i2, .int .i64 0, .int .i64 o0, .int .i64 o1, .int .i64 o2, .int .i64 o3], .int .i64 3] w fun e w' => ∃ vb2 vc2 fc2 cc2 fa2 ca2 c2 R2, e = .returned (.tuple #[.agg #[.slice (some ⟨vb2, 0, none⟩) 1900 vc2], .agg #[.int .i64 0, .int .i64 4, .slice fa2 nf1 fc2, .int .u16 av1, .int .u16 rla, .slice ca2 nc1 cc2, .int .i64 120, .int .i64 4, .slice tfa tfn tfc, .int .u16 tav, .int .u16 tla, .slice tca tcn tcc, .int .i64 300, .int .i64 i0, .int .i64 i1, .int .i64 i2, .int .i64 x1, .int .i64 o0, .int .i64 o1, .int .i64 o2, .int .i64 o3], .int .i64 0]) ∧ Mem w0 w' L R2 ∧ InM R2 vb2 0 1900 vc2 (addM M 0 4 rav rfree [(876, 192, true)]) ∧ InQ R2 (.slice fa2 nf1 fc2) (.slice ca2 nc1 cc2) (rfree.drop 1) (rchs ++ [c2]) ∧ OkQ 4 (rfree.drop 1) (rchs ++ [c2]) ∧ c2.h = hd ∧ c2.ds = [hd] ∧ c2.rm = 192 ∧ ∀ x ∈ R, x ∈ R2 := by
 have HM := Lib.hid hm
 have HQ := Lib.hid hq
 have HO := Lib.hid ho
 have HAV := Lib.hid hav
 have HA1 := Lib.hid hav1
 have H0 := Lib.hid h0
 have H1 := Lib.hid h1
 have HH := Lib.hid hh
 have q1 : IntKind.i64.wrap ((hd : Int) + 1) = (x1 : Int) := by rw [IntWalk.i64_in _ (by omega)]; omega
 have HSO : Hid (∃ v R', AddNW R 0 0 rav av1 rla nf1 nc1 hd M rfree rchs (876, 192, true) v R') := Lib.hid (Bny.some_of (Add_N (hv.bsl' (k := 3) (n := 1) (c := cellsPt [(876, 192, true)]) ⟨rfl, made_alloc _ #[.int .i64 876, .int .i64 192, .bool true] 91⟩ rfl rfl (by unfold maxLen; omega)) (fun x hx => Mem.s hx) 0 0 rfl (by decide) hm hq ho hav hav1 h0 h1 hh (876, 192, true) ⟨by decide, by decide⟩ Mem.z))
 have HKN : Hid (∀ (B7 : Nat) {E : Bny.Env} (ks : List Nat), 7 ∈ ks → E 7 = .rds [(3, .slice (some ⟨B7, 0, none⟩) 1 1, cellsPt [(876, 192, true)])] → ∀ x ∈ (3, Value.slice (some ⟨B7, 0, none⟩) 1 1, cellsPt [(876, 192, true)]) :: R, Bny.Known ⟨w0, L, R⟩ E ks x) := Lib.hid (fun B7 E ks h1 h2 x hx => by
   rcases List.mem_cons.1 hx with rfl | hx
   · exact .inr ⟨7, h1, by rw [h2]; exact List.mem_singleton_self _⟩
   · exact .inl hx)
 clear hm hq ho hav hav1 h0 h1 hh hx hx4
 go_enter Tryz.func28, Tryz.ntmps28
 go_wp2_with (first
   | ((with_reducible refine at_box (T := 26) (dst := some 3) ?_); refine wl_newb rfl #[.slice (some ⟨vb, 0, none⟩) 1900 vc] 26 (fun _ => rfl) ?_; intro b_3 w2 hm2; replace hv := hv.madeAt hm2; clear hm2)
   | ((with_reducible refine at_box (T := 33) (dst := some 4) ?_); refine wl_newb rfl #[.int .i64 0, .int .i64 4, .slice rfa rfn rfc, .int .u16 rav, .int .u16 rla, .slice rca rcn rcc, .int .i64 120, .int .i64 4, .slice tfa tfn tfc, .int .u16 tav, .int .u16 tla, .slice tca tcn tcc, .int .i64 300, .int .i64 i0, .int .i64 i1, .int .i64 i2, .int .i64 0, .int .i64 o0, .int .i64 o1, .int .i64 o2, .int .i64 o3] 33 (fun _ => rfl) ?_; intro b_4 w2 hm2; replace hv := hv.madeAt hm2; clear hm2)
   | ((with_reducible refine at_alloc (T := 26) (dst := some 6) ?_); refine wl_newb rfl #[.slice none 0 0] 26 (fun _ => rfl) ?_; intro b_6 w2 hm2; replace hv := hv.madeAt hm2; clear hm2)
   | ((with_reducible refine at_alloc (T := 33) (dst := some 7) ?_); refine wl_newb rfl #[.int .i64 0, .int .i64 0, .slice none 0 0, .int .u16 0, .int .u16 0, .slice none 0 0, .int .i64 0, .int .i64 0, .slice none 0 0, .int .u16 0, .int .u16 0, .slice none 0 0, .int .i64 0, .int .i64 0, .int .i64 0, .int .i64 0, .int .i64 0, .int .i64 0, .int .i64 0, .int .i64 0, .int .i64 0] 33 (fun _ => rfl) ?_; intro b_7 w2 hm2; replace hv := hv.madeAt hm2; clear hm2))
 replace hv : Mem w0 _ ([(b_7, _), (b_6, _), (b_4, _), (b_3, _)] ++ L) R := hv
 try simp only [Act.put]
 refine Bny.wp_region_walk _ _ [⟨[1003], none⟩, ⟨[], none⟩, ⟨[1002], none⟩, ⟨[1002], none⟩, ⟨[], none⟩, ⟨[], none⟩, ⟨[], none⟩, ⟨[], some 7⟩, ⟨[7], some 8⟩, ⟨[], none⟩, ⟨[], none⟩, ⟨[], none⟩, ⟨[], none⟩, ⟨[], none⟩, ⟨[], some 14⟩, ⟨[1003], some 1003⟩, ⟨[14], some 14⟩, ⟨[], none⟩, ⟨[], none⟩] [.val, .val, .val, .val, .val, .val, .val, .bslR 3 1 #[.int .i64 876, .int .i64 192, .bool true], .mem (AddNW R 0 0 rav av1 rla nf1 nc1 hd M rfree rchs (876, 192, true)), .pure, .pure, .pure, .pure, .pure, .lay #[.int .i64 0, .int .i64 0, .slice none 0 0, .int .u16 0, .int .u16 0, .slice none 0 0], .put, .put, .pure, .pure] (by kernel_rfl) (by kernel_rfl) hv ?_
 simp only [List.length_cons, List.length_nil, Nat.zero_add, Any.someVals]
 iterate 19 apply Exists.intro
 repeat (first
   | (refine Bny.E_off rfl ?_; simp only [Act.put, sia, scs, scz])
   | ((with_reducible refine Bny.at_ealloc ?_); refine Bny.E_lay (t := 30) rfl rfl rfl (fun _ => rfl) ?_; intro b_9; simp only [Act.put, sia, scs, scz])
   | ((with_reducible refine Bny.at_estore (T := 26) ?_); refine Bny.E_putv (T := 26) rfl rfl rfl rfl rfl rfl 1 infoM rfl rfl (by simp [Value.oneCell']) ?_; simp only [Act.put, sia, scs, scz])
   | ((with_reducible refine Bny.at_estore (T := 30) ?_); refine Bny.E_putv (T := 30) rfl rfl rfl rfl rfl rfl 6 infoQ rfl rfl (by simp [Value.oneCell']) ?_; simp only [Act.put, sia, scs, scz])
   | ((with_reducible refine Bny.at_ecallf (f := 38) ?_); refine Bny.E_callmem rfl rfl rfl (Go.Proofs.enters_of Tryz.func38 (by kernel_rfl) rfl) rfl [.agg #[.slice (some ⟨vb, 0, none⟩) 1900 vc], .agg #[.int .i64 0, .int .i64 4, .slice rfa rfn rfc, .int .u16 rav, .int .u16 rla, .slice rca rcn rcc], .slice (some ⟨B7, 0, none⟩) 1 1] rfl HSO.out ((3, .slice (some ⟨B7, 0, none⟩) 1 1, cellsPt [(876, 192, true)]) :: R) (HKN.out B7 _ (by decide) rfl) (fun w0 w L R' hm hs => Add_N hm (fun x hx => hs x (List.mem_cons_of_mem _ hx)) 0 0 rfl (by decide) HM.out HQ.out HO.out HAV.out HA1.out H0.out H1.out HH.out (876, 192, true) ⟨by decide, by decide⟩ (hs _ (List.mem_cons_self ..))) ?_; rintro v R2 ⟨vb2, vc2, fc2, cc2, fa2, ca2, c2, rfl, hi2, hq2, ho2, k1, k2, k3, hs2⟩; have HI2 := Lib.hid hi2; have HQ2 := Lib.hid hq2; have HO2 := Lib.hid ho2; have K1 := Lib.hid k1; have K2 := Lib.hid k2; have K3 := Lib.hid k3; have HS2 := Lib.hid hs2; clear hi2 hq2 ho2 k1 k2 k3 hs2; simp only [Act.put, sia, scs, scz])
   | ((with_reducible refine Bny.at_ebsl ?_); refine Bny.E_bslR (t := 91) rfl rfl rfl (fun w' => (by unfold execOp; go_simp)) rfl (by unfold maxLen; omega) ?_; intro B7; simp only [Act.put, sia, scs, scz])
   | (apply Bny.E_pureq rfl rfl rfl
      case h => intro K hK; go_big_quiet_op; (refine hK _ ?_; rfl)
      case hr => exact fun _ => rfl
      simp only [Act.put, sia, scs, scz])
   | (apply Bny.E_val rfl rfl rfl rfl
      case h =>
        intro E' hA K hK
        first
          | ((with_reducible refine Bny.at_qload (T := 26) ?_); refine Bny.q_ldv 1003 hA (by decide) rfl rfl 1 _ Tryz.underlying26 rfl infoM (by decide) rfl ?_; refine hK _ ?_; rfl)
          | ((with_reducible refine Bny.at_qload (T := 30) ?_); refine Bny.q_ldp 1002 (o := 0) hA (by decide) rfl rfl 6 _ Tryz.underlying30 rfl infoQ (by decide) (by show 0 + 6 ≤ 21; decide) #[.int .i64 0, .int .i64 4, .slice rfa rfn rfc, .int .u16 rav, .int .u16 rla, .slice rca rcn rcc] rfl ?_; refine hK _ ?_; rfl)
          | ((with_reducible refine Bny.at_qload (T := 33) ?_); refine Bny.q_ldv 1002 hA (by decide) rfl rfl 21 _ Tryz.underlying33 rfl infoN (by decide) rfl ?_; refine hK _ ?_; rfl)
          | ((with_reducible refine Any.at_qbuild (T := 91) ?_); refine Any.q_build _ rfl (built_nb3) ?_; refine hK _ ?_; rfl)
          | (go_big_quiet_op; first
            | (refine hK _ ?_; rfl)
            | (refine ⟨_, fun _ _ => rfl, ?_⟩; refine hK _ ?_; rfl)
            | (apply Exists.intro; refine ⟨fun w1 hw1 => ?_, ?_⟩; · (first
                | (go_at_call 34; exact Bny.calls_VE (inc_3 _) hw1))
               refine hK _ ?_; rfl))
      case hD => rfl
      simp only [Act.put, sia, scs, scz]))
 try any_goals exact undef
 refine Bny.E_nil ?_
 intro w9 hE9
 replace hv : Mem w0 w9 ([(b_9, #[.int .i64 0, .int .i64 4, .slice fa2 nf1 fc2, .int .u16 av1, .int .u16 rla, .slice ca2 nc1 cc2]), (b_7, #[.int .i64 0, .int .i64 0, .slice none 0 0, .int .u16 0, .int .u16 0, .slice none 0 0, .int .i64 0, .int .i64 0, .slice none 0 0, .int .u16 0, .int .u16 0, .slice none 0 0, .int .i64 0, .int .i64 0, .int .i64 0, .int .i64 0, .int .i64 0, .int .i64 0, .int .i64 0, .int .i64 0, .int .i64 0]), (b_6, #[.slice none 0 0]), (b_4, #[.int .i64 0, .int .i64 4, .slice rfa rfn rfc, .int .u16 rav, .int .u16 rla, .slice rca rcn rcc, .int .i64 120, .int .i64 4, .slice tfa tfn tfc, .int .u16 tav, .int .u16 tla, .slice tca tcn tcc, .int .i64 300, .int .i64 i0, .int .i64 i1, .int .i64 i2, .int .i64 0, .int .i64 o0, .int .i64 o1, .int .i64 o2, .int .i64 o3]), (b_3, #[.slice (some ⟨vb2, 0, none⟩) 1900 vc2])] ++ L) R2 := hE9.mem1 [14, 1000, 1001, 1002, 1003] (by decide) 8 rfl
 clear hE9
 simp only [List.cons_append, List.nil_append] at hv
 go_wp2_with (first
   | ((with_reducible refine at_load (T := 30) ?_); refine wl_ldv rfl b_9 rfl _ hv.vars.ro 6 _ Tryz.underlying30 rfl infoQ (by decide) rfl ?_)
   | ((with_reducible refine at_store (T := 30) ?_); refine wl_stp rfl b_4 0 rfl _ rfl _ hv.vars.ro hv.vars.so 6 infoQ rfl (by show 0 + 6 ≤ 21; decide) (by simp [Value.oneCell']) #[.int .i64 0, .int .i64 4, .slice fa2 nf1 fc2, .int .u16 av1, .int .u16 rla, .slice ca2 nc1 cc2, .int .i64 120, .int .i64 4, .slice tfa tfn tfc, .int .u16 tav, .int .u16 tla, .slice tca tcn tcc, .int .i64 300, .int .i64 i0, .int .i64 i1, .int .i64 i2, .int .i64 0, .int .i64 o0, .int .i64 o1, .int .i64 o2, .int .i64 o3] (splice_21_0_6 _ _ _ _ _ _ _ _ _ _ _ _ _ _ _ _ _ _ _ _ _ _ _ _ _ _ _) ?_; intro w2 hw2; replace hv := hv.sets (by repeat first | exact .z | apply SetM.s) hw2; clear hw2)
   | ((with_reducible refine at_store (T := 3) ?_); refine wl_stc rfl b_4 16 rfl (.int .i64 x1) rfl _ hv.vars.ro hv.vars.so (by kernel_rfl) rfl (by show 16 < 21; decide) ?_; intro w2 hw2; replace hv := hv.sets (by repeat first | exact .z | apply SetM.s) hw2; clear hw2; simp only [sia, scs, scz] at hv))
 replace hv : Mem w0 _ ([(b_9, _), (b_7, _), (b_6, _), (b_4, _), (b_3, _)] ++ L) R2 := hv
 try simp only [Act.put]
 refine Bny.wp_region_walk _ _ [⟨[1004], none⟩, ⟨[1003], none⟩, ⟨[], none⟩, ⟨[1002], some 1002⟩, ⟨[1001], some 1001⟩, ⟨[], none⟩] [.val, .val, .val, .put, .put, .val] (by kernel_rfl) (by kernel_rfl) hv ?_
 simp only [List.length_cons, List.length_nil, Nat.zero_add, Any.someVals]
 iterate 6 apply Exists.intro
 repeat (first
   | (refine Bny.E_off rfl ?_; simp only [Act.put, sia, scs, scz])
   | ((with_reducible refine Bny.at_estore (T := 26) ?_); refine Bny.E_putv (T := 26) rfl rfl rfl rfl rfl rfl 1 infoM rfl rfl (by simp [Value.oneCell']) ?_; simp only [Act.put, sia, scs, scz])
   | ((with_reducible refine Bny.at_estore (T := 33) ?_); refine Bny.E_putv (T := 33) rfl rfl rfl rfl rfl rfl 21 infoN rfl rfl (by simp [Value.oneCell']) ?_; simp only [Act.put, sia, scs, scz])
   | (apply Bny.E_pureq rfl rfl rfl
      case h => intro K hK; go_big_quiet_op; (refine hK _ ?_; rfl)
      case hr => exact fun _ => rfl
      simp only [Act.put, sia, scs, scz])
   | (apply Bny.E_val rfl rfl rfl rfl
      case h =>
        intro E' hA K hK
        first
          | ((with_reducible refine Bny.at_qload (T := 26) ?_); refine Bny.q_ldv 1004 hA (by decide) rfl rfl 1 _ Tryz.underlying26 rfl infoM (by decide) rfl ?_; refine hK _ ?_; rfl)
          | ((with_reducible refine Bny.at_qload (T := 33) ?_); refine Bny.q_ldv 1003 hA (by decide) rfl rfl 21 _ Tryz.underlying33 rfl infoN (by decide) rfl ?_; refine hK _ ?_; rfl)
          | (go_big_quiet_op; first
            | (refine hK _ ?_; rfl)
            | (refine ⟨_, fun _ _ => rfl, ?_⟩; refine hK _ ?_; rfl)
            | (apply Exists.intro; refine ⟨fun w1 hw1 => ?_, ?_⟩; · (first
                | fail)
               refine hK _ ?_; rfl))
      case hD => rfl
      simp only [Act.put, sia, scs, scz]))
 try any_goals exact undef
 refine Bny.E_nil ?_
 intro w9 hE9
 replace hv : Mem w0 w9 ([(b_9, #[.int .i64 0, .int .i64 4, .slice fa2 nf1 fc2, .int .u16 av1, .int .u16 rla, .slice ca2 nc1 cc2]), (b_7, #[.int .i64 0, .int .i64 4, .slice fa2 nf1 fc2, .int .u16 av1, .int .u16 rla, .slice ca2 nc1 cc2, .int .i64 120, .int .i64 4, .slice tfa tfn tfc, .int .u16 tav, .int .u16 tla, .slice tca tcn tcc, .int .i64 300, .int .i64 i0, .int .i64 i1, .int .i64 i2, .int .i64 x1, .int .i64 o0, .int .i64 o1, .int .i64 o2, .int .i64 o3]), (b_6, #[.slice (some ⟨vb2, 0, none⟩) 1900 vc2]), (b_4, #[.int .i64 0, .int .i64 4, .slice fa2 nf1 fc2, .int .u16 av1, .int .u16 rla, .slice ca2 nc1 cc2, .int .i64 120, .int .i64 4, .slice tfa tfn tfc, .int .u16 tav, .int .u16 tla, .slice tca tcn tcc, .int .i64 300, .int .i64 i0, .int .i64 i1, .int .i64 i2, .int .i64 x1, .int .i64 o0, .int .i64 o1, .int .i64 o2, .int .i64 o3]), (b_3, #[.slice (some ⟨vb2, 0, none⟩) 1900 vc2])] ++ L) R2 := hE9.mem0 [1000, 1001, 1002, 1003, 1004] (by decide)
 clear hE9
 simp only [List.cons_append, List.nil_append] at hv
 go_wp2
 try simp only [Exit.inBlock, Exit.then]
 refine ret_cct (v := .agg #[.slice (some ⟨vb2, 0, none⟩) 1900 vc2]) (v' := .agg #[.int .i64 0, .int .i64 4, .slice fa2 nf1 fc2, .int .u16 av1, .int .u16 rla, .slice ca2 nc1 cc2, .int .i64 120, .int .i64 4, .slice tfa tfn tfc, .int .u16 tav, .int .u16 tla, .slice tca tcn tcc, .int .i64 300, .int .i64 i0, .int .i64 i1, .int .i64 i2, .int .i64 x1, .int .i64 o0, .int .i64 o1, .int .i64 o2, .int .i64 o3]) (v1 := .int .i64 0) rfl rfl rfl (read_row _ b_6 26 _ (hv.vars.ro (b := b_6)) 1 _ Tryz.underlying26 rfl infoM (by decide) rfl) (read_row _ b_7 33 _ (hv.vars.ro (b := b_7)) 21 _ Tryz.underlying33 rfl infoN (by decide) rfl) rfl rfl ?_
 exact ⟨vb2, vc2, fc2, cc2, fa2, ca2, c2, R2, rfl, hv.keep (by exact List.sublist_append_right [_, _, _, _, _] L), HI2.out, HQ2.out, HO2.out, K1.out, K2.out, K3.out, HS2.out⟩
end Go.Proofs.YtjmibgomkgkhnaaGreat
