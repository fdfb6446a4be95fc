/-
 TcpEnds: two ends that were established come apart, each told of the other one's end.
-/
import Derived.Test.YthenepdbgeafkaaTcPb
import Derived.Test.YthenepdbgeafkaaTpE6
set_option maxRecDepth 100000
set_option maxHeartbeats 60000000
set_option linter.unusedVariables false
set_option linter.unusedSimpArgs false
namespace Go.Proofs.Tp
open Go
def JS (S0 S2 S4 : Se) (jv : Value) (S : Se) : Prop := ((jv = .int .i64 0 ∧ S = S0) ∨ (jv = .int .i64 1 ∧ S = S2)) ∨ (jv = .int .i64 2 ∧ S = S4)
end Go.Proofs.Tp
namespace Go.Proofs.Ythenepdbgeafkaa
open Go.Proofs.Wi Go.RowKit Go.Proofs Go.Proofs.Tp
variable {t : T} {da ba pa : Option Addr} {dn dk bn bk pn pk : Nat}
theorem Close_Q1 {w0 w : World} {L : LV} {R : LR} (hv : Mem w0 w L R) {l : List PcV} (hI : InC R t da dn dk ba bn bk pa pn pk l) (hck : chkT t = true) : Calls Try.prog 12 #[.agg (rowT t (.slice da dn dk) (.slice ba bn bk) (.slice pa pn pk)), .int .u64 1] w (QP (fun a b => .tuple #[a, b]) w0 L R (close 1 ⟨t, []⟩)) := Close_Q hv hI hck (nw := 1)
theorem Write_Q1 {w0 w : World} {L : LV} {R : LR} (hv : Mem w0 w L R) {l : List PcV} (hI : InC R t da dn dk ba bn bk pa pn pk l) (hck : chkT t = true) {b : List Nat} {xa : Option Addr} {xn xk : Nat} (hb : (1, .slice xa xn xk, cellsB b) ∈ R) (hbl : b.length ≤ 1000) (hs : t.st = 3 ∨ t.st = 6) {n : Nat} (hn : min b.length (256 - t.data.length) = n) : Calls Try.prog 11 #[.agg (rowT t (.slice da dn dk) (.slice ba bn bk) (.slice pa pn pk)), .slice xa xn xk, .int .u64 1] w (QPO (fun a b => .tuple #[a, .int .i64 n, b, .int .i64 0]) w0 L R (write b 1 t)) := Write_Q hv hI hck (nw := 1) hb hbl hs hn
theorem over_any (h : t.st = 9 ∨ t.st = 0) (w : World) : Calls Try.prog 15 #[.agg (rowT t (.slice da dn dk) (.slice ba bn bk) (.slice pa pn pk))] w fun e w' => e = .returned (.bool true) ∧ New w w' := by
 have hv := Mem.nil w
 have er : (rowT t (.slice da dn dk) (.slice ba bn bk) (.slice pa pn pk)) = #[.int .i64 t.st, .int .i64 t.lo, .int .u32 t.ip, .int .i64 t.po, .int .u32 t.iss, .int .u32 t.una, .int .u32 t.nx, .slice da dn dk, .int .i64 t.wnd, .bool t.en, .bool t.se, .int .u32 t.inn.next, .slice ba bn bk, .slice pa pn pk, .bool t.ed, .int .u64 t.tm, .int .i64 t.rto, .int .i64 t.tr, .int .i64 t.er] := rfl
 rw [er]
 clear er
 rcases h with h | h
 all_goals first
   | (have y1 : ((t.st : Int) == 9) = true := by rw [h]; rfl)
   | (have y1 : ((t.st : Int) == 9) = false := by rw [h]; rfl)
 all_goals try (have y2 : ((t.st : Int) == 0) = true := by rw [h]; rfl)
 all_goals clear h
 all_goals
   go_enter Try.func15, Try.ntmps15
   go_wp2_with (first
     | ((with_reducible refine gBx 31 1 ?_); refine nwB hv #[.int .i64 t.st, .int .i64 t.lo, .int .u32 t.ip, .int .i64 t.po, .int .u32 t.iss, .int .u32 t.una, .int .u32 t.nx, .slice da dn dk, .int .i64 t.wnd, .bool t.en, .bool t.se, .int .u32 t.inn.next, .slice ba bn bk, .slice pa pn pk, .bool t.ed, .int .u64 t.tm, .int .i64 t.rto, .int .i64 t.tr, .int .i64 t.er] 31 ?_; clear hv; intro b_1 w2 hv)
     | ((with_reducible refine gLd 3 ?_); refine ldC hv b_1 0 (.int .i64 t.st) Try.underlying3 ?_))
   go_ret
   exact ⟨rfl, hv.below⟩
theorem Ends_a (aa ma : Option Addr) (an ac mn mc iss irs : Nat) (data more : List Nat) (f : Bool) (w : World) (R : LR) (hv : Mem w w [] R) (ha : (1, .slice aa an ac, cellsB data) ∈ R) (hm : (1, .slice ma mn mc, cellsB more) ∈ R) (h0 : 100 < an) : Calls Try.prog 3 #[.int .u32 iss, .int .u32 irs, .slice aa an ac, .slice ma mn mc, .bool f] w (fun e w' => e = .returned (.bool true) ∧ New w w') := by
 have y0 : decide ((100 : Int) < (an : Int)) = true := decide_eq_true (by omega)
 have z0 : decide (100 < an) = true := decide_eq_true h0
 clear h0
 go_enter Try.func3, Try.ntmps3
 go_wp2_with (first
   | (go_at_call 9; (with_reducible refine (heads26 _).mono ?_); rintro e w1 ⟨rfl, hn1⟩; replace hv := hv.new hn1; clear hn1))
 go_ret
 exact ⟨rfl, hv.below⟩
theorem Ends_b (aa ma : Option Addr) (an ac mn mc iss irs : Nat) (data more : List Nat) (f : Bool) (w : World) (R : LR) (hv : Mem w w [] R) (ha : (1, .slice aa an ac, cellsB data) ∈ R) (hm : (1, .slice ma mn mc, cellsB more) ∈ R) (h0 : ¬ 100 < an) (h1 : 100 < mn) : Calls Try.prog 3 #[.int .u32 iss, .int .u32 irs, .slice aa an ac, .slice ma mn mc, .bool f] w (fun e w' => e = .returned (.bool true) ∧ New w w') := by
 have y0 : decide ((100 : Int) < (an : Int)) = false := decide_eq_false (by omega)
 have z0 : decide (100 < an) = false := decide_eq_false h0
 have y1 : decide ((100 : Int) < (mn : Int)) = true := decide_eq_true (by omega)
 have z1 : decide (100 < mn) = true := decide_eq_true h1
 clear h0 h1
 go_enter Try.func3, Try.ntmps3
 go_wp2_with (first
   | (go_at_call 9; (with_reducible refine (heads26 _).mono ?_); rintro e w1 ⟨rfl, hn1⟩; replace hv := hv.new hn1; clear hn1))
 go_ret
 exact ⟨rfl, hv.below⟩
theorem Ends_c (aa ma : Option Addr) (an ac mn mc iss irs : Nat) (data more : List Nat) (f : Bool) (w : World) (R : LR) (hv : Mem w w [] R) (ha : (1, .slice aa an ac, cellsB data) ∈ R) (hm : (1, .slice ma mn mc, cellsB more) ∈ R) (hga : goodB data) (hgm : goodB more) (his : iss < 4294967296) (hir : irs < 4294967296) (h0 : ¬ 100 < an) (h1 : ¬ 100 < mn) : Calls Try.prog 3 #[.int .u32 iss, .int .u32 irs, .slice aa an ac, .slice ma mn mc, .bool f] w (fun e w' => e = .returned (.bool true) ∧ New w w') := by
 have y0 : decide ((100 : Int) < (an : Int)) = false := decide_eq_false (by omega)
 have z0 : decide (100 < an) = false := decide_eq_false h0
 have y1 : decide ((100 : Int) < (mn : Int)) = false := decide_eq_false (by omega)
 have z1 : decide (100 < mn) = false := decide_eq_false h1
 have hal : data.length = an := len_rd1 (hv.rd ha)
 have hml : more.length = mn := len_rd1 (hv.rd hm)
 have hd : data.length ≤ 100 := by omega
 have HMR := Lib.hid hm
 clear hm
 have hm : more.length ≤ 100 := by omega
 have hv2 := (hv.add (k := 2) (v := .slice none 0 0) (c := cellsP []) (Rd.nil _ _) (fun h => absurd rfl h)).add (k := 1) (v := .slice none 0 0) (c := cellsB []) (Rd.nil _ _) (fun h => absurd rfl h)
 obtain ⟨R2, hR2⟩ : ∃ R2, R2 = (1, Value.slice none 0 0, cellsB []) :: (2, Value.slice none 0 0, cellsP []) :: R := ⟨_, rfl⟩
 rw [← hR2] at hv2
 clear hv
 have hv := hv2
 clear hv2
 have HI0 : Hid (InC R2 (pT iss irs 7 80) none 0 0 none 0 0 none 0 0 []) := Lib.hid (by rw [hR2]; exact ⟨Mem.z, ⟨Mem.z, Mem.s Mem.z, fun p hp => (List.not_mem_nil hp).elim, rfl⟩, rfl, ⟨Tp.u32_lt _, Tp.u32_lt _, his, Tp.u32_lt _, by show 0 < 4294967296; decide⟩⟩)
 have HJ0 : Hid (InC R2 (pT irs iss 80 7) none 0 0 none 0 0 none 0 0 []) := Lib.hid (by rw [hR2]; exact ⟨Mem.z, ⟨Mem.z, Mem.s Mem.z, fun p hp => (List.not_mem_nil hp).elim, rfl⟩, rfl, ⟨Tp.u32_lt _, Tp.u32_lt _, hir, Tp.u32_lt _, by show 0 < 4294967296; decide⟩⟩)
 have HAM : Hid ((1, .slice aa an ac, cellsB data) ∈ R2) := Lib.hid (by rw [hR2]; exact Mem.s (Mem.s ha))
 have HMM : Hid ((1, .slice ma mn mc, cellsB more) ∈ R2) := Lib.hid (by rw [hR2]; exact Mem.s (Mem.s HMR.out))
 have hst := EnI.start (iss := iss) (irs := irs) hd hm
 obtain ⟨c1, hc1⟩ : ∃ c, write data 1 (pT iss irs 7 80) = c := ⟨_, rfl⟩
 obtain ⟨c2, hc2⟩ : ∃ c, write more 1 (pT irs iss 80 7) = c := ⟨_, rfl⟩
 rw [hc1, hc2] at hst
 have HCP : Hid (chkT (pT iss irs 7 80) = true) := Lib.hid (pT_chk iss irs (by decide) (by decide))
 have HCQ : Hid (chkT (pT irs iss 80 7) = true) := Lib.hid (pT_chk irs iss (by decide) (by decide))
 have HDL : Hid (data.length ≤ 1000) := Lib.hid (by omega)
 have HEL : Hid (more.length ≤ 1000) := Lib.hid (by omega)
 have HMN : Hid (min data.length (256 - (pT iss irs 7 80).data.length) = an) := Lib.hid (by show min data.length (256 - 0) = an; omega)
 have HMN2 : Hid (min more.length (256 - (pT irs iss 80 7).data.length) = mn) := Lib.hid (by show min more.length (256 - 0) = mn; omega)
 have HST3 : Hid ((pT iss irs 7 80).st = 3 ∨ (pT iss irs 7 80).st = 6) := Lib.hid (.inl rfl)
 have HST4 : Hid ((pT irs iss 80 7).st = 3 ∨ (pT irs iss 80 7).st = 6) := Lib.hid (.inl rfl)
 have HC1 := Lib.hid hc1
 have HC2 := Lib.hid hc2
 have HST := Lib.hid hst
 have HIS := Lib.hid his
 have HIR := Lib.hid hir
 have HGA := Lib.hid hga
 have HGM := Lib.hid hgm
 obtain ⟨S1, S2, S3, S4, hx1, hx2, hx3, hx4, hx5⟩ := ends_chain hd hm f
 have HX1 := Lib.hid hx1
 have HX2 := Lib.hid hx2
 have HX3 := Lib.hid hx3
 have HX4 := Lib.hid hx4
 have HC5 := Lib.hid hx5
 clear ha hga hgm his hir h0 h1 hal hml hc1 hc2 hst hR2 hx1 hx2 hx3 hx4 hx5 HMR
 cases f
 all_goals
   go_enter Try.func3, Try.ntmps3
   try simp only [List.append_eq, List.cons_append, List.nil_append]
   go_wp2_with (first
     | (go_at_call 10; (with_reducible refine (pair_any _ HIS.out HIR.out).mono ?_); rintro e w1 ⟨rfl, hn1⟩; replace hv := hv.new hn1; clear hn1)
     | ((with_reducible refine gAl 35 11 ?_); refine nwB hv #[.int .i64 0, .int .i64 0, .int .u32 0, .int .i64 0, .int .u32 0, .int .u32 0, .int .u32 0, .slice none 0 0, .int .i64 0, .bool false, .bool false, .int .u32 0, .slice none 0 0, .slice none 0 0, .bool false, .int .u64 0, .int .i64 0, .int .i64 0, .int .i64 0, .slice none 0 0, .int .i64 0, .slice none 0 0, .int .i64 0, .int .i64 0, .int .u32 0, .int .i64 0, .int .u32 0, .int .u32 0, .int .u32 0, .slice none 0 0, .int .i64 0, .bool false, .bool false, .int .u32 0, .slice none 0 0, .slice none 0 0, .bool false, .int .u64 0, .int .i64 0, .int .i64 0, .int .i64 0, .slice none 0 0, .int .i64 0, .slice none 0 0] 35 ?_; clear hv; intro b_11 w2 hv)
     | ((with_reducible refine gSt 35 ?_); refine stV hv b_11 44 infoP44 ?_ (hc := rowP_size (rowT_size _ _ _ _) (rowT_size _ _ _ _)) (h1 := rowP_one (rowT_one _ none none none 0 0 0 0 0 0) (rowT_one _ none none none 0 0 0 0 0 0) rfl rfl rfl rfl); clear hv; intro w2 hv)
     | ((with_reducible refine at_load (T := 31) ?_); refine wl_ldp rfl b_11 0 rfl _ hv.vars.ro 19 _ Try.underlying31 rfl infoT19 (by decide) (by rw [rowP_size (rowT_size _ _ _ _) (rowT_size _ _ _ _)]; decide) (rowT (pT iss irs 7 80) (.slice none 0 0) (.slice none 0 0) (.slice none 0 0)) (rowP_t0 (rowT_size _ _ _ _) (rowT_size _ _ _ _)) ?_)
     | ((with_reducible refine at_load (T := 31) ?_); refine wl_ldp rfl b_11 22 rfl _ hv.vars.ro 19 _ Try.underlying31 rfl infoT19 (by decide) (by rw [rowP_size (rowT_size _ _ _ _) (rowT_size _ _ _ _)]; decide) (rowT (pT irs iss 80 7) (.slice none 0 0) (.slice none 0 0) (.slice none 0 0)) (rowP_t1 (rowT_size _ _ _ _) (rowT_size _ _ _ _)) ?_)
     | (go_at_call 11; (with_reducible refine (Write_Q1 hv HI0.out HCP.out HAM.out HDL.out HST3.out HMN.out).mono ?_); rintro e w1 ⟨R3, da1, dn1, dk1, ba1, bn1, bk1, pa1, pn1, pk1, l1, oa1, on1, ok1, sl1, rfl, hm4, hs3, hi3, hq3⟩; clear hv; have hv := hm4; clear hm4; have HS3 := Lib.hid hs3; have HI3 := Lib.hid hi3; have HQ3 := Lib.hid hq3; clear hs3 hi3 hq3; simp only [List.append_assoc, List.cons_append, List.nil_append] at hv)
     | (go_at_call 11; (with_reducible refine (Write_Q1 hv (HJ0.out.mono HS3.out) HCQ.out (HS3.out _ HMM.out) HEL.out HST4.out HMN2.out).mono ?_); rintro e w1 ⟨R4, da2, dn2, dk2, ba2, bn2, bk2, pa2, pn2, pk2, l2, oa2, on2, ok2, sl2, rfl, hm4, hs3, hi3, hq3⟩; clear hv; have hv := hm4; clear hm4; have HS4 := Lib.hid hs3; have HI4 := Lib.hid hi3; have HQ4 := Lib.hid hq3; clear hs3 hi3 hq3; simp only [List.append_assoc, List.cons_append, List.nil_append] at hv)
     | ((with_reducible refine gAl 31 13 ?_); refine nwB hv #[.int .i64 0, .int .i64 0, .int .u32 0, .int .i64 0, .int .u32 0, .int .u32 0, .int .u32 0, .slice none 0 0, .int .i64 0, .bool false, .bool false, .int .u32 0, .slice none 0 0, .slice none 0 0, .bool false, .int .u64 0, .int .i64 0, .int .i64 0, .int .i64 0] 31 ?_; clear hv; intro b_13 w2 hv)
     | ((with_reducible refine gSt 31 ?_); refine stV hv b_13 19 infoT19 ?_ (h1 := (rowT_one _ _ _ _ _ _ _ _ _ _)); clear hv; intro w2 hv)
     | ((with_reducible refine gAl 31 17 ?_); refine nwB hv #[.int .i64 0, .int .i64 0, .int .u32 0, .int .i64 0, .int .u32 0, .int .u32 0, .int .u32 0, .slice none 0 0, .int .i64 0, .bool false, .bool false, .int .u32 0, .slice none 0 0, .slice none 0 0, .bool false, .int .u64 0, .int .i64 0, .int .i64 0, .int .i64 0] 31 ?_; clear hv; intro b_17 w2 hv)
     | ((with_reducible refine gSt 31 ?_); refine stV hv b_17 19 infoT19 ?_ (h1 := (rowT_one _ _ _ _ _ _ _ _ _ _)); clear hv; intro w2 hv))
   rw [HC1.out] at *
   rw [HC2.out] at *
   replace hv : Mem w _ ([(b_17, (rowT c2.t (.slice da2 dn2 dk2) (.slice ba2 bn2 bk2) (.slice pa2 pn2 pk2))), (b_13, (rowT c1.t (.slice da1 dn1 dk1) (.slice ba1 bn1 bk1) (.slice pa1 pn1 pk1))), (b_11, (rowP (rowT (pT iss irs 7 80) (.slice none 0 0) (.slice none 0 0) (.slice none 0 0)) (.slice none 0 0) 0 (.slice none 0 0) (rowT (pT irs iss 80 7) (.slice none 0 0) (.slice none 0 0) (.slice none 0 0)) (.slice none 0 0) 0 (.slice none 0 0)))] ++ (sl1.rows ++ sl2.rows)) _ := hv
   try simp only [Act.put]
   refine Bny.wp_region_walk _ _ [⟨[1001], none⟩, ⟨[1000], none⟩, ⟨[], none⟩, ⟨[], none⟩, ⟨[], none⟩, ⟨[], none⟩, ⟨[1002], some 1002⟩, ⟨[], none⟩, ⟨[], none⟩, ⟨[1002], some 1002⟩, ⟨[], none⟩, ⟨[], none⟩, ⟨[1002], some 1002⟩, ⟨[], none⟩, ⟨[], none⟩, ⟨[1002], some 1002⟩] [.val, .val, .val, .val, .val, .val, .put, .val, .val, .put, .val, .val, .put, .val, .val, .put] (by kernel_rfl) (by kernel_rfl) hv ?_
   simp only [List.length_cons, List.length_nil, Nat.zero_add, Any.someVals]
   iterate 16 apply Exists.intro
   repeat (first
     | (refine Bny.E_off rfl ?_; simp only [Act.put, sia, scs, scz])
     | ((with_reducible refine Bny.at_estore (T := 31) ?_); refine Bny.E_putp (T := 31) (off := 0) rfl rfl rfl rfl rfl rfl 19 infoT19 rfl (by rw [rowP_size (rowT_size _ _ _ _) (rowT_size _ _ _ _)]; decide) (rowT_one _ _ _ _ _ _ _ _ _ _) (rowP_s0 (rowT_size _ _ _ _) (rowT_size _ _ _ _) (rowT_size _ _ _ _)) ?_; simp only [Act.put, sia, scs, scz])
     | ((with_reducible refine Bny.at_estore (T := 31) ?_); refine Bny.E_putp (T := 31) (off := 22) rfl rfl rfl rfl rfl rfl 19 infoT19 rfl (by rw [rowP_size (rowT_size _ _ _ _) (rowT_size _ _ _ _)]; decide) (rowT_one _ _ _ _ _ _ _ _ _ _) (rowP_s1 (rowT_size _ _ _ _) (rowT_size _ _ _ _) (rowT_size _ _ _ _)) ?_; simp only [Act.put, sia, scs, scz])
     | ((with_reducible refine Bny.at_estore (T := 32) ?_); refine Bny.eP 41 (rowP_set41 (rowT_size _ _ _ _) (rowT_size _ _ _ _)) (Nat.lt_of_lt_of_eq (by decide : 41 < 44) (rowP_size (rowT_size _ _ _ _) (rowT_size _ _ _ _)).symm) (by kernel_rfl) ?_; simp only [Act.put, sia, scs, scz])
     | ((with_reducible refine Bny.at_estore (T := 32) ?_); refine Bny.eP 19 (rowP_set19 (rowT_size _ _ _ _) (rowT_size _ _ _ _)) (Nat.lt_of_lt_of_eq (by decide : 19 < 44) (rowP_size (rowT_size _ _ _ _) (rowT_size _ _ _ _)).symm) (by kernel_rfl) ?_; simp only [Act.put, sia, scs, scz])
     | (apply Bny.E_pureq rfl rfl rfl
        case h => intro K hK; go_big_quiet_op; (refine hK _ ?_; rfl)
        case hr => exact fun _ => rfl
        simp only [Act.put, sia, scs, scz])
     | (apply Bny.E_val rfl rfl rfl rfl
        case h =>
          intro E' hA K hK
          first
            | ((with_reducible refine Bny.at_qload (T := 31) ?_); refine Bny.q_ldv 1001 hA (by decide) rfl rfl 19 _ Try.underlying31 rfl infoT19 (by decide) rfl ?_; refine hK _ ?_; rfl)
            | ((with_reducible refine Bny.at_qload (T := 31) ?_); refine Bny.q_ldv 1000 hA (by decide) rfl rfl 19 _ Try.underlying31 rfl infoT19 (by decide) rfl ?_; refine hK _ ?_; rfl)
            | (go_big_quiet_op; first
              | (refine hK _ ?_; rfl)
              | (refine ⟨_, fun _ _ => rfl, ?_⟩; refine hK _ ?_; rfl)
              | (apply Exists.intro; refine ⟨fun w1 hw1 => ?_, ?_⟩; · (first
                  | fail)
                 refine hK _ ?_; rfl))
        case hD => rfl
        simp only [Act.put, sia, scs, scz]))
   try any_goals exact undef
   refine Bny.E_nil ?_
   intro w9 hE9
   replace hv : Mem w w9 ([(b_17, (rowT c2.t (.slice da2 dn2 dk2) (.slice ba2 bn2 bk2) (.slice pa2 pn2 pk2))), (b_13, (rowT c1.t (.slice da1 dn1 dk1) (.slice ba1 bn1 bk1) (.slice pa1 pn1 pk1))), (b_11, (rowP (rowT c1.t (.slice da1 dn1 dk1) (.slice ba1 bn1 bk1) (.slice pa1 pn1 pk1)) (.slice oa2 on2 ok2) 0 (.slice none 0 0) (rowT c2.t (.slice da2 dn2 dk2) (.slice ba2 bn2 bk2) (.slice pa2 pn2 pk2)) (.slice oa1 on1 ok1) 0 (.slice none 0 0)))] ++ (sl1.rows ++ sl2.rows)) R4 := hE9.mem0 [1000, 1001, 1002] (by decide)
   clear hE9
   simp only [List.cons_append, List.nil_append] at hv
   replace hv : Mem w w9 ((b_17, (rowT c2.t (.slice da2 dn2 dk2) (.slice ba2 bn2 bk2) (.slice pa2 pn2 pk2))) :: (b_13, (rowT c1.t (.slice da1 dn1 dk1) (.slice ba1 bn1 bk1) (.slice pa1 pn1 pk1))) :: (b_11, (rowP (rowT c1.t (.slice da1 dn1 dk1) (.slice ba1 bn1 bk1) (.slice pa1 pn1 pk1)) (.slice oa2 on2 ok2) 0 (.slice none 0 0) (rowT c2.t (.slice da2 dn2 dk2) (.slice ba2 bn2 bk2) (.slice pa2 pn2 pk2)) (.slice oa1 on1 ok1) 0 (.slice none 0 0))) :: (sl1.rows ++ sl2.rows)) R4 := hv
   go_wp2
   go_loopw [22] (fun jv wr => ∃ (S : Se) (ta tb : T) (qa qb : List G) (ga gb : List Nat) (R5 : LR), PM w wr b_11 ta tb qa qb 0 0 ga gb R5 ∧ Hid (EnI iss irs data more S ta tb qa qb ga gb) ∧ JS (startE (npE data.length) (npE more.length)) S2 S4 jv S ∧ Hid (∀ x ∈ R2, x ∈ R5)) (fun jv _ => 2 - (intOf jv).toNat)
   case atStart =>
     exact ⟨_, c1.t, c2.t, c2.out, c1.out, [], [], R4, ⟨da1, dn1, dk1, ba1, bn1, bk1, pa1, pn1, pk1, l1, da2, dn2, dk2, ba2, bn2, bk2, pa2, pn2, pk2, l2, _, _, _, _, sl2, sl1, .none, .none, (hv.drop.drop.perm (List.Perm.cons _ List.perm_append_comm)).castL (by simp [Bny.Slot.rows]), HI3.out.mono HS4.out, HI4.out, HQ4.out, HQ3.out.mono HS4.out, .inl ⟨none, rfl, rfl, rfl⟩, .inl ⟨none, rfl, rfl, rfl⟩⟩, HST, .inl (.inl ⟨rfl, rfl⟩), Lib.hid (fun x hx => HS4.out x (HS3.out x hx))⟩
   case round =>
     clear hv
     obtain ⟨S, ta, tb, qa, qb, ga, gb, R5, hpm, HK, hJ, HS⟩ := hrel
     obtain ⟨da1, dn1, dk1, ba1, bn1, bk1, pa1, pn1, pk1, l1, da2, dn2, dk2, ba2, bn2, bk2, pa2, pn2, pk2, l2, x1, x2, y1, y2, s1, s2, t1, t2, hv, hI1, hI2, hQ1, hQ2, hG1, hG2⟩ := hpm
     have HI1 := Lib.hid hI1
     have HI2 := Lib.hid hI2
     obtain ⟨ya1, yn1, yk1, rfl, _⟩ := hG1.own.slice
     obtain ⟨ya2, yn2, yk2, rfl, _⟩ := hG2.own.slice
     clear hI1 hI2
     rcases hJ with hJ | ⟨rfl, rfl⟩
     · rcases hJ with ⟨rfl, hS⟩ | ⟨rfl, hS⟩
       all_goals first
         | (first
             | have hpk : ∃ S' F, Hid (F = S2) ∧ closeA (npE data.length) S = some S' ∧ EnRun data more 200 S' F := ⟨S1, S2, Lib.hid rfl, (congrArg (closeA _) hS).trans HX1.out, HX2.out⟩
             | have hpk : ∃ S' F, Hid (F = S4) ∧ closeA (npE data.length) S = some S' ∧ EnRun data more 200 S' F := ⟨S3, S4, Lib.hid rfl, (congrArg (closeA _) hS).trans HX3.out, HX4.out⟩
            obtain ⟨S', F, HF, hc, hrun⟩ := hpk
            clear hS
            obtain ⟨xa1, n1, xk1, rfl, hn1⟩ := hQ1.slice'
            obtain ⟨xa2, n2, xk2, rfl, hn2⟩ := hQ2.slice'
            have HCX := Lib.hid (HK.out.chkA hd)
            have hk5 := HK.out.closeA hd (now := 1) hc
            have HK5 := Lib.hid hk5
            have HRN := Lib.hid hrun
            have HLQ : Hid (qb.length ≤ 200) := Lib.hid (by
              have h1 := EnRun.bound _ hrun
              have h2 := closeA_len hc
              have h3 := HK.out.lenB
              omega)
            clear hk5 hrun hc hn1 hn2
            go_wp2_with (first
              | ((with_reducible refine at_load (T := 31) ?_); refine wl_ldp rfl b_11 0 rfl _ hv.vars.ro 19 _ Try.underlying31 rfl infoT19 (by decide) (by rw [rowP_size (rowT_size _ _ _ _) (rowT_size _ _ _ _)]; decide) (rowT ta (.slice da1 dn1 dk1) (.slice ba1 bn1 bk1) (.slice pa1 pn1 pk1)) (rowP_t0 (rowT_size _ _ _ _) (rowT_size _ _ _ _)) ?_)
              | (go_at_call 12; (with_reducible refine (Close_Q1 hv HI1.out HCX.out).mono ?_); rintro e w1 ⟨R6, da5, dn5, dk5, ba5, bn5, bk5, pa5, pn5, pk5, l5, ov5, rfl, hm4, hs5, hi5, ho5⟩; clear hv; have hv := hm4; clear hm4; have HS5 := Lib.hid hs5; have HI5 := Lib.hid hi5; have HO5 := Lib.hid ho5; clear hs5 hi5 ho5)
              | ((with_reducible refine gAl 31 24 ?_); refine nwB hv #[.int .i64 0, .int .i64 0, .int .u32 0, .int .i64 0, .int .u32 0, .int .u32 0, .int .u32 0, .slice none 0 0, .int .i64 0, .bool false, .bool false, .int .u32 0, .slice none 0 0, .slice none 0 0, .bool false, .int .u64 0, .int .i64 0, .int .i64 0, .int .i64 0] 31 ?_; clear hv; intro b_24 w2 hv)
              | ((with_reducible refine gSt 31 ?_); refine stV hv b_24 19 infoT19 ?_ (h1 := (rowT_one _ _ _ _ _ _ _ _ _ _)); clear hv; intro w2 hv))
            obtain ⟨gs2, hq2, ha2, he2⟩ := hQ2
            obtain ⟨g5, ho5, ha5, he5⟩ := HO5.out
            obtain ⟨o5, m5, k5, rfl, _⟩ := hv.rd ho5
            have HQS := Lib.hid hq2
            have HOM := Lib.hid ho5
            have HLG : Hid (∃ m, (cellsG g5).length = m * 7) := Lib.hid ⟨_, cellsG_len _⟩
            have HOC := Lib.hid (cellsG_oneQ ha5 hv)
            have HBG : Hid (gs2.length + g5.length ≤ 100000) := Lib.hid (by
              have h1 := congrArg List.length he2
              have h2 := congrArg List.length he5
              have h3 := close_len 1 ta
              have h4 := HLQ.out
              rw [List.length_map] at h1 h2
              omega)
            have HR2 := Lib.hid hq2.reads
            have HR1 := Lib.hid hQ1.reads
            have HR3 := Lib.hid hG1.reads
            have HR4 := Lib.hid hG2.reads
            have HA2 := Lib.hid ha2
            have HE2 := Lib.hid he2
            have HA5 := Lib.hid ha5
            have HE5 := Lib.hid he5
            have HQO := Lib.hid hQ1
            have HG1 := Lib.hid hG1
            have HG2 := Lib.hid hG2
            clear hq2 ha2 he2 ho5 ha5 he5 hQ1 hG1 hG2
            have hv0 := Mem.cast hv (show _ = (([.row b_24 (rowT (Tp.close 1 ⟨ta, []⟩).t (.slice da5 dn5 dk5) (.slice ba5 bn5 bk5) (.slice pa5 pn5 pk5)), .row b_11 (rowP (rowT ta (.slice da1 dn1 dk1) (.slice ba1 bn1 bk1) (.slice pa1 pn1 pk1)) (.slice xa1 n1 xk1) 0 (.slice ya1 yn1 yk1) (rowT tb (.slice da2 dn2 dk2) (.slice ba2 bn2 bk2) (.slice pa2 pn2 pk2)) (.slice xa2 n2 xk2) 0 (.slice ya2 yn2 yk2)), s1, s2, t1, t2] : List Bny.Slot).flatMap Bny.Slot.rows ++ []) from by simp [Bny.Slot.rows])
            clear hv
            try simp only [Act.put]
            refine Bny.wp_region_walkS [.row b_24 (rowT (Tp.close 1 ⟨ta, []⟩).t (.slice da5 dn5 dk5) (.slice ba5 bn5 bk5) (.slice pa5 pn5 pk5)), .row b_11 (rowP (rowT ta (.slice da1 dn1 dk1) (.slice ba1 bn1 bk1) (.slice pa1 pn1 pk1)) (.slice xa1 n1 xk1) 0 (.slice ya1 yn1 yk1) (rowT tb (.slice da2 dn2 dk2) (.slice ba2 bn2 bk2) (.slice pa2 pn2 pk2)) (.slice xa2 n2 xk2) 0 (.slice ya2 yn2 yk2)), s1, s2, t1, t2] [] [⟨[], none⟩, ⟨[], none⟩, ⟨[], none⟩, ⟨[1000], none⟩, ⟨[], none⟩, ⟨[], none⟩, ⟨[], none⟩, ⟨[], none⟩, ⟨[1001], none⟩, ⟨[], none⟩, ⟨[], some 1003⟩, ⟨[], none⟩, ⟨[], none⟩, ⟨[1001], some 1001⟩, ⟨[], none⟩, ⟨[], none⟩, ⟨[1001], some 1001⟩] [.val, .val, .val, .val, .val, .val, .val, .val, .val, .val, .slot (Bny.QS 7 (cellsG gs2 ++ cellsG g5)), .val, .val, .put, .val, .val, .put] (by kernel_rfl) (by kernel_rfl) hv0 (by exact slots6 HR1.out HR2.out HR3.out HR4.out) ?_
            clear hv0
            simp only [List.length_cons, List.length_nil, Nat.zero_add, Any.someVals]
            iterate 17 apply Exists.intro
            repeat (first
              | (refine Bny.E_off rfl ?_; simp only [Act.put, sia, scs, scz])
              | ((with_reducible refine Bny.gE 32 ?_); refine Bny.eC 1001 (.slice xa2 n2 xk2) Try.underlying32 ?_ (hc := rowP_i1 (rowT_size _ _ _ _) (rowT_size _ _ _ _)); simp only [Act.put, sia, scs, scz])
              | ((with_reducible refine Bny.at_eappQ (t := 32) ?_); refine Bny.E_appQ rfl rfl rfl rfl rfl HQS.out rfl (Or.inl HOM.out) (.agg #[.int .i64 0, .int .i64 0, .int .u32 0, .int .u32 0, .int .i64 0, .int .i64 0, .slice none 0 0]) 64 Try.underlying32 infoGz rfl (by decide) HLG.out HOC.out (app_bq HBG.out).1 (app_bq HBG.out).2 ?_; intro v9 sl9 hq9; obtain ⟨x9, n9, k9, rfl, hn9⟩ := hq9.own.slice; clear hn9; have HQ9 := Lib.hid hq9; clear hq9; simp only [Act.put, sia, scs, scz])
              | ((with_reducible refine Bny.at_estore (T := 31) ?_); refine Bny.E_putp (T := 31) (off := 0) rfl rfl rfl rfl rfl rfl 19 infoT19 rfl (by rw [rowP_size (rowT_size _ _ _ _) (rowT_size _ _ _ _)]; decide) (rowT_one _ _ _ _ _ _ _ _ _ _) (rowP_s0 (rowT_size _ _ _ _) (rowT_size _ _ _ _) (rowT_size _ _ _ _)) ?_; simp only [Act.put, sia, scs, scz])
              | ((with_reducible refine Bny.at_estore (T := 32) ?_); refine Bny.eP 41 (rowP_set41 (rowT_size _ _ _ _) (rowT_size _ _ _ _)) (Nat.lt_of_lt_of_eq (by decide : 41 < 44) (rowP_size (rowT_size _ _ _ _) (rowT_size _ _ _ _)).symm) (by kernel_rfl) ?_; simp only [Act.put, sia, scs, scz])
              | (apply Bny.E_pureq rfl rfl rfl
                 case h => intro K hK; go_big_quiet_op; (refine hK _ ?_; rfl)
                 case hr => exact fun _ => rfl
                 simp only [Act.put, sia, scs, scz])
              | (apply Bny.E_val rfl rfl rfl rfl
                 case h =>
                   intro E' hA K hK
                   first
                     | ((with_reducible refine Bny.at_qload (T := 31) ?_); refine Bny.q_ldv 1000 hA (by decide) rfl rfl 19 _ Try.underlying31 rfl infoT19 (by decide) rfl ?_; refine hK _ ?_; rfl)
                     | (go_big_quiet_op; first
                       | (refine hK _ ?_; rfl)
                       | (refine ⟨_, fun _ _ => rfl, ?_⟩; refine hK _ ?_; rfl)
                       | (apply Exists.intro; refine ⟨fun w1 hw1 => ?_, ?_⟩; · (first
                           | fail)
                          refine hK _ ?_; rfl))
                 case hD => rfl
                 simp only [Act.put, sia, scs, scz]))
            try any_goals exact undef
            refine Bny.E_nil ?_
            intro w9 hE9
            have hv : Mem w w9 (((b_11, (rowP (rowT (Tp.close 1 ⟨ta, []⟩).t (.slice da5 dn5 dk5) (.slice ba5 bn5 bk5) (.slice pa5 pn5 pk5)) (.slice xa1 n1 xk1) 0 (.slice ya1 yn1 yk1) (rowT tb (.slice da2 dn2 dk2) (.slice ba2 bn2 bk2) (.slice pa2 pn2 pk2)) (.slice x9 n9 k9) 0 (.slice ya2 yn2 yk2))) :: (s1.rows ++ (sl9.rows ++ (t1.rows ++ (t2.rows ++ []))))) ++ []) R6 := hE9.mem0 [1001, 1002, 1003, 1004, 1005] (by decide)
            clear hE9
            simp only [List.cons_append, List.nil_append, List.append_nil] at hv
            have hpm : PM w w9 b_11 (Tp.close 1 ⟨ta, []⟩).t tb qa (qb ++ (Tp.close 1 ⟨ta, []⟩).out) 0 0 ga gb R6 := ⟨da5, dn5, dk5, ba5, bn5, bk5, pa5, pn5, pk5, l5, da2, dn2, dk2, ba2, bn2, bk2, pa2, pn2, pk2, l2, _, _, _, _, s1, sl9, t1, t2, hv, HI5.out, HI2.out.mono HS5.out, HQO.out.mono HS5.out, ⟨gs2 ++ g5, by rw [cellsG_app]; exact HQ9.out, fun y hy => by
                rcases List.mem_append.1 hy with hy | hy
                · exact HS5.out _ (HA2.out y hy)
                · exact HA5.out y hy, by rw [List.map_append, HE2.out, HE5.out]⟩, HG1.out, HG2.out⟩
            have HPM := Lib.hid hpm
            have HS6 : Hid (∀ x ∈ R2, x ∈ R6) := Lib.hid (fun x hx => HS5.out x (HS.out x hx))
            clear hpm
            go_wp2
            go_loopw [26] (fun nv wr => ∃ (n : Nat) (S : Se) (ta tb : T) (qa qb : List G) (ga gb : List Nat) (R5 : LR), nv = .int .i64 n ∧ n ≤ 200 ∧ PM w wr b_11 ta tb qa qb 0 0 ga gb R5 ∧ Hid (EnI iss irs data more S ta tb qa qb ga gb) ∧ Hid (EnRun data more (200 - n) S F) ∧ Hid (∀ x ∈ R2, x ∈ R5)) (fun nv _ => 200 - (intOf nv).toNat)
            case atStart => exact ⟨0, S', _, _, _, _, ga, gb, R6, rfl, Nat.zero_le _, HPM.out, HK5, HRN, HS6⟩
            case round =>
              clear hv
              obtain ⟨n, S, ta, tb, qa, qb, ga, gb, R5, rfl, hn200, hpm, HK, HRN, HS⟩ := hrel
              obtain ⟨da1, dn1, dk1, ba1, bn1, bk1, pa1, pn1, pk1, l1, da2, dn2, dk2, ba2, bn2, bk2, pa2, pn2, pk2, l2, x1, x2, y1, y2, s1, s2, t1, t2, hv, hI1, hI2, hQ1, hQ2, hG1, hG2⟩ := hpm
              have HI1 := Lib.hid hI1
              have HI2 := Lib.hid hI2
              obtain ⟨ya1, yn1, yk1, rfl, _⟩ := hG1.own.slice
              obtain ⟨ya2, yn2, yk2, rfl, _⟩ := hG2.own.slice
              clear hI1 hI2
              by_cases hn : n < 200
              · have y7 : decide ((n : Int) < 200) = true := decide_eq_true (by omega)
                have z7 : decide (n < 200) = true := decide_eq_true hn
                rcases qb with _ | ⟨g, r⟩
                · rcases qa with _ | ⟨g, r⟩
                  · as_aux_lemma =>
                    obtain ⟨xa1, n1, xk1, rfl, hn1⟩ := hQ1.slice'
                    obtain ⟨xa2, n2, xk2, rfl, hn2⟩ := hQ2.slice'
                    have q12 : IntKind.i64.wrap ((n1 : Int) + (n2 : Int)) = 0 := by rw [← hn1, ← hn2]; rfl
                    have hSF : S = F := EnRun.stop HRN.out (by rw [HK.out.lenA, HK.out.lenB]; rfl)
                    clear hn1 hn2
                    go_wp2_with (first
                      | ((with_reducible refine gLd 32 ?_); refine ldC hv b_11 41 (.slice xa2 n2 xk2) Try.underlying32 ?_ (hc := rowP_i1 (rowT_size _ _ _ _) (rowT_size _ _ _ _)))
                      | ((with_reducible refine gLd 32 ?_); refine ldC hv b_11 19 (.slice xa1 n1 xk1) Try.underlying32 ?_ (hc := rowP_i0 (rowT_size _ _ _ _))))
                    refine ⟨?rel, ?measure⟩
                    case rel =>
                      first
                        | exact ⟨S, ta, tb, _, _, ga, gb, R5, ⟨da1, dn1, dk1, ba1, bn1, bk1, pa1, pn1, pk1, l1, da2, dn2, dk2, ba2, bn2, bk2, pa2, pn2, pk2, l2, _, _, _, _, s1, s2, t1, t2, hv, HI1.out, HI2.out, hQ1, hQ2, hG1, hG2⟩, HK, .inl (.inr ⟨rfl, hSF.trans HF.out⟩), HS⟩
                        | exact ⟨S, ta, tb, _, _, ga, gb, R5, ⟨da1, dn1, dk1, ba1, bn1, bk1, pa1, pn1, pk1, l1, da2, dn2, dk2, ba2, bn2, bk2, pa2, pn2, pk2, l2, _, _, _, _, s1, s2, t1, t2, hv, HI1.out, HI2.out, hQ1, hQ2, hG1, hG2⟩, HK, .inr ⟨rfl, hSF.trans HF.out⟩, HS⟩
                        | (repeat apply Exists.intro
                           refine ⟨?r2, rfl⟩
                           first
                             | exact ⟨S, ta, tb, _, _, ga, gb, R5, ⟨da1, dn1, dk1, ba1, bn1, bk1, pa1, pn1, pk1, l1, da2, dn2, dk2, ba2, bn2, bk2, pa2, pn2, pk2, l2, _, _, _, _, s1, s2, t1, t2, hv, HI1.out, HI2.out, hQ1, hQ2, hG1, hG2⟩, HK, .inl (.inr ⟨rfl, hSF.trans HF.out⟩), HS⟩
                             | exact ⟨S, ta, tb, _, _, ga, gb, R5, ⟨da1, dn1, dk1, ba1, bn1, bk1, pa1, pn1, pk1, l1, da2, dn2, dk2, ba2, bn2, bk2, pa2, pn2, pk2, l2, _, _, _, _, s1, s2, t1, t2, hv, HI1.out, HI2.out, hQ1, hQ2, hG1, hG2⟩, HK, .inr ⟨rfl, hSF.trans HF.out⟩, HS⟩)
                    case measure =>
                      first
                        | (show 2 - (1 : Int).toNat < 2 - (0 : Int).toNat; decide)
                        | (show 2 - (2 : Int).toNat < 2 - (1 : Int).toNat; decide)

                  · as_aux_lemma =>
                    obtain ⟨xa2, n2, xk2, rfl, hn2⟩ := hQ2.slice'
                    obtain ⟨xb, xo, xk, sa, sn, sk, gr, e, hqs, hgd, hga, hgr⟩ := hQ1.head hv.q1
                    subst e
                    obtain ⟨n1, hn1⟩ : ∃ n, r.length + 1 = n := ⟨_, rfl⟩
                    rw [hn1] at hv hqs hQ1
                    have y2 : decide ((0 : Int) < (n2 : Int)) = false := decide_eq_false (by rw [← hn2]; decide)
                    have z2 : decide (0 < n2) = false := decide_eq_false (by rw [← hn2]; decide)
                    have hn20 : n2 = 0 := hn2.symm
                    obtain ⟨n12, hn12⟩ : ∃ n, n1 + n2 = n := ⟨_, rfl⟩
                    have hlen := EnRun.bound _ HRN.out
                    have hlA := HK.out.lenA
                    have hlB := HK.out.lenB
                    simp only [List.length_cons, List.length_nil] at hlA hlB
                    have q12 : IntKind.i64.wrap ((n1 : Int) + (n2 : Int)) = (n12 : Int) := by rw [IntWalk.i64_in _ (by omega)]; omega
                    have y12 : decide ((0 : Int) < (n12 : Int)) = true := decide_eq_true (by omega)
                    have z12 : decide (0 < n12) = true := decide_eq_true (by omega)
                    have hix : (0 : Int) < (n1 : Int) := by omega
                    have hiy : 0 < n1 := by omega
                    have HXV : Hid (((cellsG ((g, Value.slice sa sn sk) :: gr)).drop 0).take 7 = (#[.int .i64 g.src, .int .i64 g.dst, .int .u32 g.seq, .int .u32 g.ack, .int .i64 g.fl, .int .i64 g.wnd, .slice sa sn sk] : Array Value).toList) := Lib.hid rfl
                    have hrk : EnRun data more ((199 - n) + 1) S F := by
                      have h := HRN.out
                      rwa [show 200 - n = 199 - n + 1 from by omega] at h
                    have HRK := Lib.hid hrk
                    have hseg : InG R5 g sa sn sk := by
                      obtain ⟨h1, h2, h3⟩ := HK.out.segA hrk
                      exact ⟨hgd, h1, h2, h3⟩
                    have HGG := Lib.hid hseg
                    have HCK := Lib.hid (HK.out.chkA hd)
                    have q7 : IntKind.i64.wrap ((n : Int) + 1) = ((n + 1 : Nat) : Int) := by rw [IntWalk.i64_in _ (by omega)]; omega
                    have HQS := Lib.hid hqs
                    have HQX := Lib.hid hQ1
                    have HQO := Lib.hid hQ2
                    have HG1 := Lib.hid hG1
                    have HG2 := Lib.hid hG2
                    clear hqs hgd hga hgr hQ1 hQ2 hG1 hG2 hn1 hn2 hrk hseg hlen hlA hlB hn12 hn20
                    go_wp2_with (first
                      | ((with_reducible refine gLd 32 ?_); refine ldC hv b_11 41 (.slice xa2 n2 xk2) Try.underlying32 ?_ (hc := rowP_i1 (rowT_size _ _ _ _) (rowT_size _ _ _ _)))
                      | ((with_reducible refine gLd 32 ?_); refine ldC hv b_11 19 (.slice (some ⟨xb, xo, none⟩) n1 xk) Try.underlying32 ?_ (hc := rowP_i0 (rowT_size _ _ _ _)))
                      | ((with_reducible refine at_load (T := 42) ?_); refine wl_rdv rfl (kk := 7) (b := xb) (o := xo) (n := n1) (cap := xk) (c := cellsG ((g, Value.slice sa sn sk) :: gr)) (HQS.out.own.rd hv.q1) 0 rfl 7 _ Try.underlying42 rfl infoG7 (by decide) #[.int .i64 g.src, .int .i64 g.dst, .int .u32 g.seq, .int .u32 g.ack, .int .i64 g.fl, .int .i64 g.wnd, .slice sa sn sk] HXV.out rfl ?_)
                      | ((with_reducible refine gAl 42 28 ?_); refine nwB hv #[.int .i64 0, .int .i64 0, .int .u32 0, .int .u32 0, .int .i64 0, .int .i64 0, .slice none 0 0] 42 ?_; clear hv; intro b_28 w2 hv)
                      | ((with_reducible refine gSt 42 ?_); refine stV hv b_28 7 infoG7 ?_; clear hv; intro w2 hv)
                      | ((with_reducible refine at_slice (T := 32) ?_); refine wl_tailG rfl rfl rfl HQX.out hv.q2 Try.underlying32 infoG7 ?_; intro xa7 n7 xk7 s7 hn7 hq7 hv7; clear hv; have hv := hv7; clear hv7; simp only [List.append_assoc, List.cons_append, List.nil_append] at hv; have HN7 := Lib.hid hn7; have HQ7 := Lib.hid hq7; clear hn7 hq7)
                      | ((with_reducible refine gSt 32 ?_); refine stC hv b_11 19 (.slice xa7 n7 xk7) ?_ (hs := ⟨(SetM.s SetM.z), rowP_set19 (rowT_size _ _ _ _) (rowT_size _ _ _ _)⟩) (h0 := by rw [rowP_size (rowT_size _ _ _ _) (rowT_size _ _ _ _)]; decide); clear hv; intro w2 hv))
                    have HSC : Hid (∃ v R', TkQ R5 1 g ta v R') := Lib.hid (Bny.some_of (Take_Q hv (fun x hx => hx) HI1.out HCK.out (nw := 1) HGG.out))
                    have HR1 := Lib.hid HQ7.out.reads
                    have HR2 := Lib.hid HQO.out.reads
                    have HR3 := Lib.hid HG1.out.reads
                    have HR4 := Lib.hid HG2.out.reads
                    have hv0 := Mem.cast hv (show _ = (([.row b_28 #[.int .i64 g.src, .int .i64 g.dst, .int .u32 g.seq, .int .u32 g.ack, .int .i64 g.fl, .int .i64 g.wnd, .slice sa sn sk], .row b_11 (rowP (rowT ta (.slice da1 dn1 dk1) (.slice ba1 bn1 bk1) (.slice pa1 pn1 pk1)) (.slice xa7 n7 xk7) 0 (.slice ya1 yn1 yk1) (rowT tb (.slice da2 dn2 dk2) (.slice ba2 bn2 bk2) (.slice pa2 pn2 pk2)) (.slice xa2 n2 xk2) 0 (.slice ya2 yn2 yk2)), s7, s2, t1, t2] : List Bny.Slot).flatMap Bny.Slot.rows ++ []) from by simp [Bny.Slot.rows])
                    clear hv
                    try simp only [Act.put]
                    refine Bny.wp_region_walkS [.row b_28 #[.int .i64 g.src, .int .i64 g.dst, .int .u32 g.seq, .int .u32 g.ack, .int .i64 g.fl, .int .i64 g.wnd, .slice sa sn sk], .row b_11 (rowP (rowT ta (.slice da1 dn1 dk1) (.slice ba1 bn1 bk1) (.slice pa1 pn1 pk1)) (.slice xa7 n7 xk7) 0 (.slice ya1 yn1 yk1) (rowT tb (.slice da2 dn2 dk2) (.slice ba2 bn2 bk2) (.slice pa2 pn2 pk2)) (.slice xa2 n2 xk2) 0 (.slice ya2 yn2 yk2)), s7, s2, t1, t2] [] [⟨[], none⟩, ⟨[], none⟩, ⟨[], none⟩, ⟨[1001], none⟩, ⟨[1000], none⟩, ⟨[], none⟩, ⟨[], some 6⟩, ⟨[], none⟩, ⟨[], none⟩, ⟨[], none⟩, ⟨[], some 10⟩, ⟨[10], some 10⟩] [.val, .val, .val, .val, .val, .val, .mem (TkQ R5 1 g ta), .pure, .pure, .pure, .lay #[.int .i64 0, .int .i64 0, .int .u32 0, .int .i64 0, .int .u32 0, .int .u32 0, .int .u32 0, .slice none 0 0, .int .i64 0, .bool false, .bool false, .int .u32 0, .slice none 0 0, .slice none 0 0, .bool false, .int .u64 0, .int .i64 0, .int .i64 0, .int .i64 0], .put, .pure] (by kernel_rfl) (by kernel_rfl) hv0 (by exact slots6 HR1.out HR2.out HR3.out HR4.out) ?_
                    clear hv0
                    simp only [List.length_cons, List.length_nil, Nat.zero_add, Any.someVals]
                    iterate 13 apply Exists.intro
                    repeat (first
                      | (refine Bny.E_off rfl ?_; simp only [Act.put, sia, scs, scz])
                      | ((with_reducible refine Bny.at_ealloc ?_); refine Bny.E_lay (t := 31) rfl rfl rfl (fun _ => rfl) ?_; intro b_29; simp only [Act.put, sia, scs, scz])
                      | ((with_reducible refine Bny.gE 31 ?_); refine Bny.eX 1001 0 19 (rowT ta (.slice da1 dn1 dk1) (.slice ba1 bn1 bk1) (.slice pa1 pn1 pk1)) Try.underlying31 infoT19 (rowP_t0 (rowT_size _ _ _ _) (rowT_size _ _ _ _)) (Nat.le_trans (by decide : 0 + 19 ≤ 44) (Nat.le_of_eq (rowP_size (rowT_size _ _ _ _) (rowT_size _ _ _ _)).symm)) ?_; simp only [Act.put, sia, scs, scz])
                      | ((with_reducible refine Bny.at_estore (T := 31) ?_); refine Bny.E_putv (T := 31) rfl rfl rfl rfl rfl rfl 19 infoT19 rfl rfl (rowT_one _ _ _ _ _ _ _ _ _ _) ?_; simp only [Act.put, sia, scs, scz])
                      | ((with_reducible refine Bny.at_ecallf (f := 13) ?_); refine Bny.E_callmem rfl rfl rfl (Go.Proofs.enters_of Try.func13 (by kernel_rfl) rfl) rfl [.agg (rowT ta (.slice da1 dn1 dk1) (.slice ba1 bn1 bk1) (.slice pa1 pn1 pk1)), .agg #[.int .i64 g.src, .int .i64 g.dst, .int .u32 g.seq, .int .u32 g.ack, .int .i64 g.fl, .int .i64 g.wnd, .slice sa sn sk], .int .u64 1] rfl HSC.out R5 (fun x hx => .inl hx) (fun w0 w L R' hm hs => by have h := Take_Q hm hs HI1.out HCK.out (nw := 1) HGG.out; exact h) ?_; rintro v R7 ⟨c3, da3, dn3, dk3, ba3, bn3, bk3, pa3, pn3, pk3, l3', ov3, he, ht3, hi3, ho3, hs3⟩; obtain rfl : v = .tuple #[.agg (rowT c3.t (.slice da3 dn3 dk3) (.slice ba3 bn3 bk3) (.slice pa3 pn3 pk3)), ov3] := he; have HT3 := Lib.hid ht3; have HI3' := Lib.hid hi3; have HO3 := Lib.hid ho3; have HS3' := Lib.hid hs3; clear ht3 hi3 ho3 hs3; simp only [Act.put, sia, scs, scz])
                      | (apply Bny.E_pureq rfl rfl rfl
                         case h => intro K hK; go_big_quiet_op; (refine hK _ ?_; rfl)
                         case hr => exact fun _ => rfl
                         simp only [Act.put, sia, scs, scz])
                      | (apply Bny.E_val rfl rfl rfl rfl
                         case h =>
                           intro E' hA K hK
                           first
                             | ((with_reducible refine Bny.at_qload (T := 42) ?_); refine Bny.q_ldv 1000 hA (by decide) rfl rfl 7 _ Try.underlying42 rfl infoG7 (by decide) rfl ?_; refine hK _ ?_; rfl)
                             | (go_big_quiet_op; first
                               | (refine hK _ ?_; rfl)
                               | (refine ⟨_, fun _ _ => rfl, ?_⟩; refine hK _ ?_; rfl)
                               | (apply Exists.intro; refine ⟨fun w1 hw1 => ?_, ?_⟩; · (first
                                   | fail)
                                  refine hK _ ?_; rfl))
                         case hD => rfl
                         simp only [Act.put, sia, scs, scz]))
                    try any_goals exact undef
                    refine Bny.E_nil ?_
                    intro w9 hE9
                    have hv : Mem w w9 (((b_29, (rowT c3.t (.slice da3 dn3 dk3) (.slice ba3 bn3 bk3) (.slice pa3 pn3 pk3))) :: (b_11, (rowP (rowT ta (.slice da1 dn1 dk1) (.slice ba1 bn1 bk1) (.slice pa1 pn1 pk1)) (.slice xa7 n7 xk7) 0 (.slice ya1 yn1 yk1) (rowT tb (.slice da2 dn2 dk2) (.slice ba2 bn2 bk2) (.slice pa2 pn2 pk2)) (.slice xa2 n2 xk2) 0 (.slice ya2 yn2 yk2))) :: (s7.rows ++ (s2.rows ++ (t1.rows ++ (t2.rows ++ []))))) ++ []) R7 := hE9.mem1 [10, 1001, 1002, 1003, 1004, 1005] (by decide) 6 rfl
                    clear hE9
                    simp only [List.cons_append, List.nil_append, List.append_nil] at hv
                    have HCK3 := Lib.hid (take_kept HCK.out HT3.out).chk
                    obtain ⟨S', hk', hr'⟩ := HK.out.stepA hd hm HRK.out HT3.out
                    have HK' := Lib.hid hk'
                    have HRN' := Lib.hid hr'
                    clear hk' hr'
                    go_wp2_with (first
                      | ((with_reducible refine gLd 31 ?_); refine ldV hv b_29 19 Try.underlying31 infoT19 ?_)
                      | (go_at_call 14; (refine (Read_Q hv HI3'.out HCK3.out (n := 300)).mono ?_); rintro e w1 ⟨R8, da4, dn4, dk4, ba4, bn4, bk4, pa4, pn4, pk4, l4, ga4, gn4, gk4, ov4, rfl, hm4, hs4, hi4, ho4, hg4⟩; clear hv; have hv := hm4; clear hm4; have HS4' := Lib.hid hs4; have HI4' := Lib.hid hi4; have HO4 := Lib.hid ho4; have HGM4 := Lib.hid hg4; clear hs4 hi4 ho4 hg4)
                      | ((with_reducible refine gSt 31 ?_); refine stV hv b_29 19 infoT19 ?_ (h1 := (rowT_one _ _ _ _ _ _ _ _ _ _)); clear hv; intro w2 hv))
                    have HBG : Hid (ga.length + (Tp.read 300 c3.t).2.length ≤ 2000) := Lib.hid (by
                      have h1 := congrArg List.length HK'.out.fga
                      rw [List.length_append, List.length_take] at h1
                      omega)
                    have HGX := Lib.hid HG1.out
                    have hv0 := Mem.cast hv (show _ = (([.row b_29 (rowT (Tp.read 300 c3.t).1.t (.slice da4 dn4 dk4) (.slice ba4 bn4 bk4) (.slice pa4 pn4 pk4)), .row b_11 (rowP (rowT ta (.slice da1 dn1 dk1) (.slice ba1 bn1 bk1) (.slice pa1 pn1 pk1)) (.slice xa7 n7 xk7) 0 (.slice ya1 yn1 yk1) (rowT tb (.slice da2 dn2 dk2) (.slice ba2 bn2 bk2) (.slice pa2 pn2 pk2)) (.slice xa2 n2 xk2) 0 (.slice ya2 yn2 yk2)), s7, s2, t1, t2] : List Bny.Slot).flatMap Bny.Slot.rows ++ []) from by simp [Bny.Slot.rows])
                    clear hv
                    try simp only [Act.put]
                    refine Bny.wp_region_walkS [.row b_29 (rowT (Tp.read 300 c3.t).1.t (.slice da4 dn4 dk4) (.slice ba4 bn4 bk4) (.slice pa4 pn4 pk4)), .row b_11 (rowP (rowT ta (.slice da1 dn1 dk1) (.slice ba1 bn1 bk1) (.slice pa1 pn1 pk1)) (.slice xa7 n7 xk7) 0 (.slice ya1 yn1 yk1) (rowT tb (.slice da2 dn2 dk2) (.slice ba2 bn2 bk2) (.slice pa2 pn2 pk2)) (.slice xa2 n2 xk2) 0 (.slice ya2 yn2 yk2)), s7, s2, t1, t2] [] [⟨[], none⟩, ⟨[], none⟩, ⟨[1000], none⟩, ⟨[], none⟩, ⟨[], none⟩, ⟨[], none⟩, ⟨[1001], none⟩, ⟨[], none⟩, ⟨[], some 1004⟩, ⟨[], none⟩, ⟨[], none⟩, ⟨[1001], some 1001⟩, ⟨[], none⟩, ⟨[], none⟩, ⟨[1001], some 1001⟩] [.val, .val, .val, .val, .val, .val, .val, .val, .slot (Bny.QS 1 (cellsB ga ++ cellsB (Tp.read 300 c3.t).2)), .val, .val, .put, .val, .val, .put] (by kernel_rfl) (by kernel_rfl) hv0 (by exact slots6 HR1.out HR2.out HR3.out HR4.out) ?_
                    clear hv0
                    simp only [List.length_cons, List.length_nil, Nat.zero_add, Any.someVals]
                    iterate 15 apply Exists.intro
                    repeat (first
                      | (refine Bny.E_off rfl ?_; simp only [Act.put, sia, scs, scz])
                      | ((with_reducible refine Bny.gE 23 ?_); refine Bny.eC 1001 (.slice ya1 yn1 yk1) Try.underlying23 ?_ (hc := rowP_g0 (rowT_size _ _ _ _)); simp only [Act.put, sia, scs, scz])
                      | ((with_reducible refine Bny.at_eappQ (t := 23) ?_); refine Bny.E_appQ rfl rfl rfl rfl rfl HGX.out rfl (Or.inl HGM4.out) (.int .u8 0) 1 Try.underlying23 infoBz rfl (by decide) ⟨_, (Nat.mul_one _).symm⟩ (cellsB_one _) (bdQ HBG.out).1 (bdQ HBG.out).2 ?_; intro v9 sl9 hq9; obtain ⟨o9, n9, k9, rfl, hn9⟩ := hq9.own.slice; clear hn9; have HQ9 := Lib.hid hq9; clear hq9; simp only [Act.put, sia, scs, scz])
                      | ((with_reducible refine Bny.at_estore (T := 31) ?_); refine Bny.E_putp (T := 31) (off := 0) rfl rfl rfl rfl rfl rfl 19 infoT19 rfl (by rw [rowP_size (rowT_size _ _ _ _) (rowT_size _ _ _ _)]; decide) (rowT_one _ _ _ _ _ _ _ _ _ _) (rowP_s0 (rowT_size _ _ _ _) (rowT_size _ _ _ _) (rowT_size _ _ _ _)) ?_; simp only [Act.put, sia, scs, scz])
                      | ((with_reducible refine Bny.at_estore (T := 23) ?_); refine Bny.eP 21 (rowP_set21 (rowT_size _ _ _ _) (rowT_size _ _ _ _)) (Nat.lt_of_lt_of_eq (by decide : 21 < 44) (rowP_size (rowT_size _ _ _ _) (rowT_size _ _ _ _)).symm) (by kernel_rfl) ?_; simp only [Act.put, sia, scs, scz])
                      | (apply Bny.E_pureq rfl rfl rfl
                         case h => intro K hK; go_big_quiet_op; (refine hK _ ?_; rfl)
                         case hr => exact fun _ => rfl
                         simp only [Act.put, sia, scs, scz])
                      | (apply Bny.E_val rfl rfl rfl rfl
                         case h =>
                           intro E' hA K hK
                           first
                             | ((with_reducible refine Bny.at_qload (T := 31) ?_); refine Bny.q_ldv 1000 hA (by decide) rfl rfl 19 _ Try.underlying31 rfl infoT19 (by decide) rfl ?_; refine hK _ ?_; rfl)
                             | (go_big_quiet_op; first
                               | (refine hK _ ?_; rfl)
                               | (refine ⟨_, fun _ _ => rfl, ?_⟩; refine hK _ ?_; rfl)
                               | (apply Exists.intro; refine ⟨fun w1 hw1 => ?_, ?_⟩; · (first
                                   | fail)
                                  refine hK _ ?_; rfl))
                         case hD => rfl
                         simp only [Act.put, sia, scs, scz]))
                    try any_goals exact undef
                    refine Bny.E_nil ?_
                    intro w9 hE9
                    have hv : Mem w w9 (((b_11, (rowP (rowT (Tp.read 300 c3.t).1.t (.slice da4 dn4 dk4) (.slice ba4 bn4 bk4) (.slice pa4 pn4 pk4)) (.slice xa7 n7 xk7) 0 (.slice o9 n9 k9) (rowT tb (.slice da2 dn2 dk2) (.slice ba2 bn2 bk2) (.slice pa2 pn2 pk2)) (.slice xa2 n2 xk2) 0 (.slice ya2 yn2 yk2))) :: (s7.rows ++ (s2.rows ++ (sl9.rows ++ (t2.rows ++ []))))) ++ []) R8 := hE9.mem0 [1001, 1002, 1003, 1004, 1005] (by decide)
                    clear hE9
                    simp only [List.cons_append, List.nil_append, List.append_nil] at hv
                    have HO34 := Lib.hid (HO3.out.mono HS4'.out)
                    have HQO4 := Lib.hid ((HQO.out.mono HS3'.out).mono HS4'.out)
                    have HB31 : Hid (([] : List G).length + c3.out.length ≤ 100000) := Lib.hid (by have h2 := take_len HT3.out; simp only [List.length_nil]; omega)
                    have HB32 : Hid ((([] : List G) ++ c3.out).length + (Tp.read 300 c3.t).1.out.length ≤ 100000) := Lib.hid (by have h2 := take_len HT3.out; have h3 := read_len 300 c3.t; rw [List.length_append]; simp only [List.length_nil]; omega)
                    go_wp2_with (first
                      | ((with_reducible refine gLd 32 ?_); refine ldC hv b_11 41 (.slice xa2 n2 xk2) Try.underlying32 ?_ (hc := rowP_i1 (rowT_size _ _ _ _) (rowT_size _ _ _ _)))
                      | ((with_reducible refine at_append (t := 32) (dst := some 184) ?_); refine wl_appG rfl rfl rfl HQO4.out hv.q3 Try.underlying32 infoGz HO34.out HB31.out ?_; intro xa5 n5 xk5 w5 s5 hn5 hq5 hv5; clear hv; have hv := hv5; clear hv5; simp only [List.append_assoc, List.cons_append, List.nil_append] at hv; have HQ5 := Lib.hid hq5; clear hq5 hn5)
                      | ((with_reducible refine at_append (t := 32) (dst := some 186) ?_); refine wl_appG rfl rfl rfl HQ5.out hv.q3 Try.underlying32 infoGz HO4.out HB32.out ?_; intro xa6 n6 xk6 w6 s6 hn6 hq6 hv6; clear hv; have hv := hv6; clear hv6; simp only [List.append_assoc, List.cons_append, List.nil_append] at hv; have HQ6 := Lib.hid hq6; clear hq6 hn6)
                      | ((with_reducible refine gSt 32 ?_); refine stC hv b_11 41 (.slice xa6 n6 xk6) ?_ (hs := ⟨SetM.z, rowP_set41 (rowT_size _ _ _ _) (rowT_size _ _ _ _)⟩) (h0 := by rw [rowP_size (rowT_size _ _ _ _) (rowT_size _ _ _ _)]; decide); clear hv; intro w2 hv))
                    refine ⟨?rel, ?measure⟩
                    case rel =>
                      refine ⟨n + 1, S', (Tp.read 300 c3.t).1.t, tb, r, [] ++ c3.out ++ (Tp.read 300 c3.t).1.out, ga ++ (Tp.read 300 c3.t).2, gb, R8, rfl, by omega, ⟨da4, dn4, dk4, ba4, bn4, bk4, pa4, pn4, pk4, l4, da2, dn2, dk2, ba2, bn2, bk2, pa2, pn2, pk2, l2, _, _, _, _, s7, s6, sl9, t2, hv, HI4'.out, (HI2.out.mono HS3'.out).mono HS4'.out, (HQ7.out.mono HS3'.out).mono HS4'.out, HQ6.out, (by have h := HQ9.out; rwa [← cellsB_appQ] at h), HG2.out⟩, HK', Lib.hid (by rw [show 200 - (n + 1) = 199 - n from by omega]; exact HRN'.out), Lib.hid (fun x hx => HS4'.out x (HS3'.out x (HS.out x hx)))⟩
                    case measure =>
                      show 200 - ((n : Int) + 1).toNat < 200 - ((n : Nat) : Int).toNat
                      omega

                · as_aux_lemma =>
                  obtain ⟨xa1, n1, xk1, rfl, hn1⟩ := hQ1.slice'
                  obtain ⟨xb, xo, xk, sa, sn, sk, gr, e, hqs, hgd, hga, hgr⟩ := hQ2.head hv.q3
                  subst e
                  obtain ⟨n2, hn2⟩ : ∃ n, r.length + 1 = n := ⟨_, rfl⟩
                  rw [hn2] at hv hqs hQ2
                  have y2 : decide ((0 : Int) < (n2 : Int)) = true := decide_eq_true (by omega)
                  have z2 : decide (0 < n2) = true := decide_eq_true (by omega)

                  obtain ⟨n12, hn12⟩ : ∃ n, n1 + n2 = n := ⟨_, rfl⟩
                  have hlen := EnRun.bound _ HRN.out
                  have hlA := HK.out.lenA
                  have hlB := HK.out.lenB
                  simp only [List.length_cons, List.length_nil] at hlA hlB
                  have q12 : IntKind.i64.wrap ((n1 : Int) + (n2 : Int)) = (n12 : Int) := by rw [IntWalk.i64_in _ (by omega)]; omega
                  have y12 : decide ((0 : Int) < (n12 : Int)) = true := decide_eq_true (by omega)
                  have z12 : decide (0 < n12) = true := decide_eq_true (by omega)
                  have hix : (0 : Int) < (n2 : Int) := by omega
                  have hiy : 0 < n2 := by omega
                  have HXV : Hid (((cellsG ((g, Value.slice sa sn sk) :: gr)).drop 0).take 7 = (#[.int .i64 g.src, .int .i64 g.dst, .int .u32 g.seq, .int .u32 g.ack, .int .i64 g.fl, .int .i64 g.wnd, .slice sa sn sk] : Array Value).toList) := Lib.hid rfl
                  have hrk : EnRun data more ((199 - n) + 1) S F := by
                    have h := HRN.out
                    rwa [show 200 - n = 199 - n + 1 from by omega] at h
                  have HRK := Lib.hid hrk
                  have hseg : InG R5 g sa sn sk := by
                    obtain ⟨h1, h2, h3⟩ := HK.out.segB hrk
                    exact ⟨hgd, h1, h2, h3⟩
                  have HGG := Lib.hid hseg
                  have HCK := Lib.hid (HK.out.chkB hm)
                  have HLN : Hid (qa.length ≤ 200) := Lib.hid (by omega)
                  have q7 : IntKind.i64.wrap ((n : Int) + 1) = ((n + 1 : Nat) : Int) := by rw [IntWalk.i64_in _ (by omega)]; omega
                  have HQS := Lib.hid hqs
                  have HQX := Lib.hid hQ2
                  have HQO := Lib.hid hQ1
                  have HG1 := Lib.hid hG1
                  have HG2 := Lib.hid hG2
                  clear hqs hgd hga hgr hQ2 hQ1 hG1 hG2 hn1 hn2 hrk hseg hlen hlA hlB hn12
                  go_wp2_with (first
                    | ((with_reducible refine gLd 32 ?_); refine ldC hv b_11 41 (.slice (some ⟨xb, xo, none⟩) n2 xk) Try.underlying32 ?_ (hc := rowP_i1 (rowT_size _ _ _ _) (rowT_size _ _ _ _)))
                    | ((with_reducible refine gLd 32 ?_); refine ldC hv b_11 19 (.slice xa1 n1 xk1) Try.underlying32 ?_ (hc := rowP_i0 (rowT_size _ _ _ _)))
                    | ((with_reducible refine at_load (T := 42) ?_); refine wl_rdv rfl (kk := 7) (b := xb) (o := xo) (n := n2) (cap := xk) (c := cellsG ((g, Value.slice sa sn sk) :: gr)) (HQS.out.own.rd hv.q3) 0 rfl 7 _ Try.underlying42 rfl infoG7 (by decide) #[.int .i64 g.src, .int .i64 g.dst, .int .u32 g.seq, .int .u32 g.ack, .int .i64 g.fl, .int .i64 g.wnd, .slice sa sn sk] HXV.out rfl ?_)
                    | ((with_reducible refine gAl 42 28 ?_); refine nwB hv #[.int .i64 0, .int .i64 0, .int .u32 0, .int .u32 0, .int .i64 0, .int .i64 0, .slice none 0 0] 42 ?_; clear hv; intro b_28 w2 hv)
                    | ((with_reducible refine gSt 42 ?_); refine stV hv b_28 7 infoG7 ?_; clear hv; intro w2 hv)
                    | ((with_reducible refine at_slice (T := 32) ?_); refine wl_tailG rfl rfl rfl HQX.out hv.q4 Try.underlying32 infoG7 ?_; intro xa7 n7 xk7 s7 hn7 hq7 hv7; clear hv; have hv := hv7; clear hv7; simp only [List.append_assoc, List.cons_append, List.nil_append] at hv; have HN7 := Lib.hid hn7; have HQ7 := Lib.hid hq7; clear hn7 hq7)
                    | ((with_reducible refine gSt 32 ?_); refine stC hv b_11 41 (.slice xa7 n7 xk7) ?_ (hs := ⟨(SetM.s SetM.z), rowP_set41 (rowT_size _ _ _ _) (rowT_size _ _ _ _)⟩) (h0 := by rw [rowP_size (rowT_size _ _ _ _) (rowT_size _ _ _ _)]; decide); clear hv; intro w2 hv))
                  have HSC : Hid (∃ v R', TkQ R5 1 g tb v R') := Lib.hid (Bny.some_of (Take_Q hv (fun x hx => hx) HI2.out HCK.out (nw := 1) HGG.out))
                  have HR1 := Lib.hid HQO.out.reads
                  have HR2 := Lib.hid HQ7.out.reads
                  have HR3 := Lib.hid HG1.out.reads
                  have HR4 := Lib.hid HG2.out.reads
                  have hv0 := Mem.cast hv (show _ = (([.row b_28 #[.int .i64 g.src, .int .i64 g.dst, .int .u32 g.seq, .int .u32 g.ack, .int .i64 g.fl, .int .i64 g.wnd, .slice sa sn sk], .row b_11 (rowP (rowT ta (.slice da1 dn1 dk1) (.slice ba1 bn1 bk1) (.slice pa1 pn1 pk1)) (.slice xa1 n1 xk1) 0 (.slice ya1 yn1 yk1) (rowT tb (.slice da2 dn2 dk2) (.slice ba2 bn2 bk2) (.slice pa2 pn2 pk2)) (.slice xa7 n7 xk7) 0 (.slice ya2 yn2 yk2)), s1, s7, t1, t2] : List Bny.Slot).flatMap Bny.Slot.rows ++ []) from by simp [Bny.Slot.rows])
                  clear hv
                  try simp only [Act.put]
                  refine Bny.wp_region_walkS [.row b_28 #[.int .i64 g.src, .int .i64 g.dst, .int .u32 g.seq, .int .u32 g.ack, .int .i64 g.fl, .int .i64 g.wnd, .slice sa sn sk], .row b_11 (rowP (rowT ta (.slice da1 dn1 dk1) (.slice ba1 bn1 bk1) (.slice pa1 pn1 pk1)) (.slice xa1 n1 xk1) 0 (.slice ya1 yn1 yk1) (rowT tb (.slice da2 dn2 dk2) (.slice ba2 bn2 bk2) (.slice pa2 pn2 pk2)) (.slice xa7 n7 xk7) 0 (.slice ya2 yn2 yk2)), s1, s7, t1, t2] [] [⟨[], none⟩, ⟨[], none⟩, ⟨[], none⟩, ⟨[1001], none⟩, ⟨[1000], none⟩, ⟨[], none⟩, ⟨[], some 6⟩, ⟨[], none⟩, ⟨[], none⟩, ⟨[], none⟩, ⟨[], some 10⟩, ⟨[10], some 10⟩] [.val, .val, .val, .val, .val, .val, .mem (TkQ R5 1 g tb), .pure, .pure, .pure, .lay #[.int .i64 0, .int .i64 0, .int .u32 0, .int .i64 0, .int .u32 0, .int .u32 0, .int .u32 0, .slice none 0 0, .int .i64 0, .bool false, .bool false, .int .u32 0, .slice none 0 0, .slice none 0 0, .bool false, .int .u64 0, .int .i64 0, .int .i64 0, .int .i64 0], .put, .pure] (by kernel_rfl) (by kernel_rfl) hv0 (by exact slots6 HR1.out HR2.out HR3.out HR4.out) ?_
                  clear hv0
                  simp only [List.length_cons, List.length_nil, Nat.zero_add, Any.someVals]
                  iterate 13 apply Exists.intro
                  repeat (first
                    | (refine Bny.E_off rfl ?_; simp only [Act.put, sia, scs, scz])
                    | ((with_reducible refine Bny.at_ealloc ?_); refine Bny.E_lay (t := 31) rfl rfl rfl (fun _ => rfl) ?_; intro b_29; simp only [Act.put, sia, scs, scz])
                    | ((with_reducible refine Bny.gE 31 ?_); refine Bny.eX 1001 22 19 (rowT tb (.slice da2 dn2 dk2) (.slice ba2 bn2 bk2) (.slice pa2 pn2 pk2)) Try.underlying31 infoT19 (rowP_t1 (rowT_size _ _ _ _) (rowT_size _ _ _ _)) (Nat.le_trans (by decide : 22 + 19 ≤ 44) (Nat.le_of_eq (rowP_size (rowT_size _ _ _ _) (rowT_size _ _ _ _)).symm)) ?_; simp only [Act.put, sia, scs, scz])
                    | ((with_reducible refine Bny.at_estore (T := 31) ?_); refine Bny.E_putv (T := 31) rfl rfl rfl rfl rfl rfl 19 infoT19 rfl rfl (rowT_one _ _ _ _ _ _ _ _ _ _) ?_; simp only [Act.put, sia, scs, scz])
                    | ((with_reducible refine Bny.at_ecallf (f := 13) ?_); refine Bny.E_callmem rfl rfl rfl (Go.Proofs.enters_of Try.func13 (by kernel_rfl) rfl) rfl [.agg (rowT tb (.slice da2 dn2 dk2) (.slice ba2 bn2 bk2) (.slice pa2 pn2 pk2)), .agg #[.int .i64 g.src, .int .i64 g.dst, .int .u32 g.seq, .int .u32 g.ack, .int .i64 g.fl, .int .i64 g.wnd, .slice sa sn sk], .int .u64 1] rfl HSC.out R5 (fun x hx => .inl hx) (fun w0 w L R' hm hs => by have h := Take_Q hm hs HI2.out HCK.out (nw := 1) HGG.out; exact h) ?_; rintro v R7 ⟨c3, da3, dn3, dk3, ba3, bn3, bk3, pa3, pn3, pk3, l3', ov3, he, ht3, hi3, ho3, hs3⟩; obtain rfl : v = .tuple #[.agg (rowT c3.t (.slice da3 dn3 dk3) (.slice ba3 bn3 bk3) (.slice pa3 pn3 pk3)), ov3] := he; have HT3 := Lib.hid ht3; have HI3' := Lib.hid hi3; have HO3 := Lib.hid ho3; have HS3' := Lib.hid hs3; clear ht3 hi3 ho3 hs3; simp only [Act.put, sia, scs, scz])
                    | (apply Bny.E_pureq rfl rfl rfl
                       case h => intro K hK; go_big_quiet_op; (refine hK _ ?_; rfl)
                       case hr => exact fun _ => rfl
                       simp only [Act.put, sia, scs, scz])
                    | (apply Bny.E_val rfl rfl rfl rfl
                       case h =>
                         intro E' hA K hK
                         first
                           | ((with_reducible refine Bny.at_qload (T := 42) ?_); refine Bny.q_ldv 1000 hA (by decide) rfl rfl 7 _ Try.underlying42 rfl infoG7 (by decide) rfl ?_; refine hK _ ?_; rfl)
                           | (go_big_quiet_op; first
                             | (refine hK _ ?_; rfl)
                             | (refine ⟨_, fun _ _ => rfl, ?_⟩; refine hK _ ?_; rfl)
                             | (apply Exists.intro; refine ⟨fun w1 hw1 => ?_, ?_⟩; · (first
                                 | fail)
                                refine hK _ ?_; rfl))
                       case hD => rfl
                       simp only [Act.put, sia, scs, scz]))
                  try any_goals exact undef
                  refine Bny.E_nil ?_
                  intro w9 hE9
                  have hv : Mem w w9 (((b_29, (rowT c3.t (.slice da3 dn3 dk3) (.slice ba3 bn3 bk3) (.slice pa3 pn3 pk3))) :: (b_11, (rowP (rowT ta (.slice da1 dn1 dk1) (.slice ba1 bn1 bk1) (.slice pa1 pn1 pk1)) (.slice xa1 n1 xk1) 0 (.slice ya1 yn1 yk1) (rowT tb (.slice da2 dn2 dk2) (.slice ba2 bn2 bk2) (.slice pa2 pn2 pk2)) (.slice xa7 n7 xk7) 0 (.slice ya2 yn2 yk2))) :: (s1.rows ++ (s7.rows ++ (t1.rows ++ (t2.rows ++ []))))) ++ []) R7 := hE9.mem1 [10, 1001, 1002, 1003, 1004, 1005] (by decide) 6 rfl
                  clear hE9
                  simp only [List.cons_append, List.nil_append, List.append_nil] at hv
                  have HCK3 := Lib.hid (take_kept HCK.out HT3.out).chk
                  obtain ⟨S', hk', hr'⟩ := HK.out.stepB hd hm HRK.out HT3.out
                  have HK' := Lib.hid hk'
                  have HRN' := Lib.hid hr'
                  clear hk' hr'
                  go_wp2_with (first
                    | ((with_reducible refine gLd 31 ?_); refine ldV hv b_29 19 Try.underlying31 infoT19 ?_)
                    | (go_at_call 14; (refine (Read_Q hv HI3'.out HCK3.out (n := 300)).mono ?_); rintro e w1 ⟨R8, da4, dn4, dk4, ba4, bn4, bk4, pa4, pn4, pk4, l4, ga4, gn4, gk4, ov4, rfl, hm4, hs4, hi4, ho4, hg4⟩; clear hv; have hv := hm4; clear hm4; have HS4' := Lib.hid hs4; have HI4' := Lib.hid hi4; have HO4 := Lib.hid ho4; have HGM4 := Lib.hid hg4; clear hs4 hi4 ho4 hg4)
                    | ((with_reducible refine gSt 31 ?_); refine stV hv b_29 19 infoT19 ?_ (h1 := (rowT_one _ _ _ _ _ _ _ _ _ _)); clear hv; intro w2 hv))
                  have HBG : Hid (gb.length + (Tp.read 300 c3.t).2.length ≤ 2000) := Lib.hid (by
                    have h1 := congrArg List.length HK'.out.fgb
                    rw [List.length_append, List.length_take] at h1
                    omega)
                  have HGX := Lib.hid HG2.out
                  have hv0 := Mem.cast hv (show _ = (([.row b_29 (rowT (Tp.read 300 c3.t).1.t (.slice da4 dn4 dk4) (.slice ba4 bn4 bk4) (.slice pa4 pn4 pk4)), .row b_11 (rowP (rowT ta (.slice da1 dn1 dk1) (.slice ba1 bn1 bk1) (.slice pa1 pn1 pk1)) (.slice xa1 n1 xk1) 0 (.slice ya1 yn1 yk1) (rowT tb (.slice da2 dn2 dk2) (.slice ba2 bn2 bk2) (.slice pa2 pn2 pk2)) (.slice xa7 n7 xk7) 0 (.slice ya2 yn2 yk2)), s1, s7, t1, t2] : List Bny.Slot).flatMap Bny.Slot.rows ++ []) from by simp [Bny.Slot.rows])
                  clear hv
                  try simp only [Act.put]
                  refine Bny.wp_region_walkS [.row b_29 (rowT (Tp.read 300 c3.t).1.t (.slice da4 dn4 dk4) (.slice ba4 bn4 bk4) (.slice pa4 pn4 pk4)), .row b_11 (rowP (rowT ta (.slice da1 dn1 dk1) (.slice ba1 bn1 bk1) (.slice pa1 pn1 pk1)) (.slice xa1 n1 xk1) 0 (.slice ya1 yn1 yk1) (rowT tb (.slice da2 dn2 dk2) (.slice ba2 bn2 bk2) (.slice pa2 pn2 pk2)) (.slice xa7 n7 xk7) 0 (.slice ya2 yn2 yk2)), s1, s7, t1, t2] [] [⟨[], none⟩, ⟨[], none⟩, ⟨[1000], none⟩, ⟨[], none⟩, ⟨[], none⟩, ⟨[], none⟩, ⟨[1001], none⟩, ⟨[], none⟩, ⟨[], some 1005⟩, ⟨[], none⟩, ⟨[], none⟩, ⟨[1001], some 1001⟩, ⟨[], none⟩, ⟨[], none⟩, ⟨[1001], some 1001⟩] [.val, .val, .val, .val, .val, .val, .val, .val, .slot (Bny.QS 1 (cellsB gb ++ cellsB (Tp.read 300 c3.t).2)), .val, .val, .put, .val, .val, .put] (by kernel_rfl) (by kernel_rfl) hv0 (by exact slots6 HR1.out HR2.out HR3.out HR4.out) ?_
                  clear hv0
                  simp only [List.length_cons, List.length_nil, Nat.zero_add, Any.someVals]
                  iterate 15 apply Exists.intro
                  repeat (first
                    | (refine Bny.E_off rfl ?_; simp only [Act.put, sia, scs, scz])
                    | ((with_reducible refine Bny.gE 23 ?_); refine Bny.eC 1001 (.slice ya2 yn2 yk2) Try.underlying23 ?_ (hc := rowP_g1 (rowT_size _ _ _ _) (rowT_size _ _ _ _)); simp only [Act.put, sia, scs, scz])
                    | ((with_reducible refine Bny.at_eappQ (t := 23) ?_); refine Bny.E_appQ rfl rfl rfl rfl rfl HGX.out rfl (Or.inl HGM4.out) (.int .u8 0) 1 Try.underlying23 infoBz rfl (by decide) ⟨_, (Nat.mul_one _).symm⟩ (cellsB_one _) (bdQ HBG.out).1 (bdQ HBG.out).2 ?_; intro v9 sl9 hq9; obtain ⟨o9, n9, k9, rfl, hn9⟩ := hq9.own.slice; clear hn9; have HQ9 := Lib.hid hq9; clear hq9; simp only [Act.put, sia, scs, scz])
                    | ((with_reducible refine Bny.at_estore (T := 31) ?_); refine Bny.E_putp (T := 31) (off := 22) rfl rfl rfl rfl rfl rfl 19 infoT19 rfl (by rw [rowP_size (rowT_size _ _ _ _) (rowT_size _ _ _ _)]; decide) (rowT_one _ _ _ _ _ _ _ _ _ _) (rowP_s1 (rowT_size _ _ _ _) (rowT_size _ _ _ _) (rowT_size _ _ _ _)) ?_; simp only [Act.put, sia, scs, scz])
                    | ((with_reducible refine Bny.at_estore (T := 23) ?_); refine Bny.eP 43 (rowP_set43 (rowT_size _ _ _ _) (rowT_size _ _ _ _)) (Nat.lt_of_lt_of_eq (by decide : 43 < 44) (rowP_size (rowT_size _ _ _ _) (rowT_size _ _ _ _)).symm) (by kernel_rfl) ?_; simp only [Act.put, sia, scs, scz])
                    | (apply Bny.E_pureq rfl rfl rfl
                       case h => intro K hK; go_big_quiet_op; (refine hK _ ?_; rfl)
                       case hr => exact fun _ => rfl
                       simp only [Act.put, sia, scs, scz])
                    | (apply Bny.E_val rfl rfl rfl rfl
                       case h =>
                         intro E' hA K hK
                         first
                           | ((with_reducible refine Bny.at_qload (T := 31) ?_); refine Bny.q_ldv 1000 hA (by decide) rfl rfl 19 _ Try.underlying31 rfl infoT19 (by decide) rfl ?_; refine hK _ ?_; rfl)
                           | (go_big_quiet_op; first
                             | (refine hK _ ?_; rfl)
                             | (refine ⟨_, fun _ _ => rfl, ?_⟩; refine hK _ ?_; rfl)
                             | (apply Exists.intro; refine ⟨fun w1 hw1 => ?_, ?_⟩; · (first
                                 | fail)
                                refine hK _ ?_; rfl))
                       case hD => rfl
                       simp only [Act.put, sia, scs, scz]))
                  try any_goals exact undef
                  refine Bny.E_nil ?_
                  intro w9 hE9
                  have hv : Mem w w9 (((b_11, (rowP (rowT ta (.slice da1 dn1 dk1) (.slice ba1 bn1 bk1) (.slice pa1 pn1 pk1)) (.slice xa1 n1 xk1) 0 (.slice ya1 yn1 yk1) (rowT (Tp.read 300 c3.t).1.t (.slice da4 dn4 dk4) (.slice ba4 bn4 bk4) (.slice pa4 pn4 pk4)) (.slice xa7 n7 xk7) 0 (.slice o9 n9 k9))) :: (s1.rows ++ (s7.rows ++ (t1.rows ++ (sl9.rows ++ []))))) ++ []) R8 := hE9.mem0 [1001, 1002, 1003, 1004, 1005] (by decide)
                  clear hE9
                  simp only [List.cons_append, List.nil_append, List.append_nil] at hv
                  have HO34 := Lib.hid (HO3.out.mono HS4'.out)
                  have HQO4 := Lib.hid ((HQO.out.mono HS3'.out).mono HS4'.out)
                  have HB31 : Hid (qa.length + c3.out.length ≤ 100000) := Lib.hid (by have h1 := HLN.out; have h2 := take_len HT3.out; omega)
                  have HB32 : Hid ((qa ++ c3.out).length + (Tp.read 300 c3.t).1.out.length ≤ 100000) := Lib.hid (by have h1 := HLN.out; have h2 := take_len HT3.out; have h3 := read_len 300 c3.t; rw [List.length_append]; omega)
                  go_wp2_with (first
                    | ((with_reducible refine gLd 32 ?_); refine ldC hv b_11 19 (.slice xa1 n1 xk1) Try.underlying32 ?_ (hc := rowP_i0 (rowT_size _ _ _ _)))
                    | ((with_reducible refine at_append (t := 32) (dst := some 184) ?_); refine wl_appG rfl rfl rfl HQO4.out hv.q1 Try.underlying32 infoGz HO34.out HB31.out ?_; intro xa5 n5 xk5 w5 s5 hn5 hq5 hv5; clear hv; have hv := hv5; clear hv5; simp only [List.append_assoc, List.cons_append, List.nil_append] at hv; have HQ5 := Lib.hid hq5; clear hq5 hn5)
                    | ((with_reducible refine at_append (t := 32) (dst := some 186) ?_); refine wl_appG rfl rfl rfl HQ5.out hv.q1 Try.underlying32 infoGz HO4.out HB32.out ?_; intro xa6 n6 xk6 w6 s6 hn6 hq6 hv6; clear hv; have hv := hv6; clear hv6; simp only [List.append_assoc, List.cons_append, List.nil_append] at hv; have HQ6 := Lib.hid hq6; clear hq6 hn6)
                    | ((with_reducible refine gSt 32 ?_); refine stC hv b_11 19 (.slice xa6 n6 xk6) ?_ (hs := ⟨SetM.z, rowP_set19 (rowT_size _ _ _ _) (rowT_size _ _ _ _)⟩) (h0 := by rw [rowP_size (rowT_size _ _ _ _) (rowT_size _ _ _ _)]; decide); clear hv; intro w2 hv))
                  refine ⟨?rel, ?measure⟩
                  case rel =>
                    refine ⟨n + 1, S', ta, (Tp.read 300 c3.t).1.t, qa ++ c3.out ++ (Tp.read 300 c3.t).1.out, r, ga, gb ++ (Tp.read 300 c3.t).2, R8, rfl, by omega, ⟨da1, dn1, dk1, ba1, bn1, bk1, pa1, pn1, pk1, l1, da4, dn4, dk4, ba4, bn4, bk4, pa4, pn4, pk4, l4, _, _, _, _, s6, s7, t1, sl9, hv, (HI1.out.mono HS3'.out).mono HS4'.out, HI4'.out, HQ6.out, (HQ7.out.mono HS3'.out).mono HS4'.out, HG1.out, (by have h := HQ9.out; rwa [← cellsB_appQ] at h)⟩, HK', Lib.hid (by rw [show 200 - (n + 1) = 199 - n from by omega]; exact HRN'.out), Lib.hid (fun x hx => HS4'.out x (HS3'.out x (HS.out x hx)))⟩
                  case measure =>
                    show 200 - ((n : Int) + 1).toNat < 200 - ((n : Nat) : Int).toNat
                    omega

              · have y7 : decide ((n : Int) < 200) = false := decide_eq_false (by omega)
                have z7 : decide (n < 200) = false := decide_eq_false hn
                have hSF : S = F := by
                  have h := HRN.out
                  rw [show 200 - n = 0 from by omega] at h
                  exact h.zero.1
                go_wp2
                refine ⟨?rel, ?measure⟩
                case rel =>
                  first
                    | exact ⟨S, ta, tb, _, _, ga, gb, R5, ⟨da1, dn1, dk1, ba1, bn1, bk1, pa1, pn1, pk1, l1, da2, dn2, dk2, ba2, bn2, bk2, pa2, pn2, pk2, l2, _, _, _, _, s1, s2, t1, t2, hv, HI1.out, HI2.out, hQ1, hQ2, hG1, hG2⟩, HK, .inl (.inr ⟨rfl, hSF.trans HF.out⟩), HS⟩
                    | exact ⟨S, ta, tb, _, _, ga, gb, R5, ⟨da1, dn1, dk1, ba1, bn1, bk1, pa1, pn1, pk1, l1, da2, dn2, dk2, ba2, bn2, bk2, pa2, pn2, pk2, l2, _, _, _, _, s1, s2, t1, t2, hv, HI1.out, HI2.out, hQ1, hQ2, hG1, hG2⟩, HK, .inr ⟨rfl, hSF.trans HF.out⟩, HS⟩
                    | (repeat apply Exists.intro
                       refine ⟨?r2, rfl⟩
                       first
                         | exact ⟨S, ta, tb, _, _, ga, gb, R5, ⟨da1, dn1, dk1, ba1, bn1, bk1, pa1, pn1, pk1, l1, da2, dn2, dk2, ba2, bn2, bk2, pa2, pn2, pk2, l2, _, _, _, _, s1, s2, t1, t2, hv, HI1.out, HI2.out, hQ1, hQ2, hG1, hG2⟩, HK, .inl (.inr ⟨rfl, hSF.trans HF.out⟩), HS⟩
                         | exact ⟨S, ta, tb, _, _, ga, gb, R5, ⟨da1, dn1, dk1, ba1, bn1, bk1, pa1, pn1, pk1, l1, da2, dn2, dk2, ba2, bn2, bk2, pa2, pn2, pk2, l2, _, _, _, _, s1, s2, t1, t2, hv, HI1.out, HI2.out, hQ1, hQ2, hG1, hG2⟩, HK, .inr ⟨rfl, hSF.trans HF.out⟩, HS⟩)
                case measure =>
                  first
                    | (show 2 - (1 : Int).toNat < 2 - (0 : Int).toNat; decide)
                    | (show 2 - (2 : Int).toNat < 2 - (1 : Int).toNat; decide))
         | (first
             | have hpk : ∃ S' F, Hid (F = S2) ∧ closeB (npE more.length) S = some S' ∧ EnRun data more 200 S' F := ⟨S1, S2, Lib.hid rfl, (congrArg (closeB _) hS).trans HX1.out, HX2.out⟩
             | have hpk : ∃ S' F, Hid (F = S4) ∧ closeB (npE more.length) S = some S' ∧ EnRun data more 200 S' F := ⟨S3, S4, Lib.hid rfl, (congrArg (closeB _) hS).trans HX3.out, HX4.out⟩
            obtain ⟨S', F, HF, hc, hrun⟩ := hpk
            clear hS
            obtain ⟨xa1, n1, xk1, rfl, hn1⟩ := hQ1.slice'
            obtain ⟨xa2, n2, xk2, rfl, hn2⟩ := hQ2.slice'
            have HCX := Lib.hid (HK.out.chkB hm)
            have hk5 := HK.out.closeB hm (now := 1) hc
            have HK5 := Lib.hid hk5
            have HRN := Lib.hid hrun
            have HLQ : Hid (qa.length ≤ 200) := Lib.hid (by
              have h1 := EnRun.bound _ hrun
              have h2 := closeB_len hc
              have h3 := HK.out.lenA
              omega)
            clear hk5 hrun hc hn1 hn2
            go_wp2_with (first
              | ((with_reducible refine at_load (T := 31) ?_); refine wl_ldp rfl b_11 22 rfl _ hv.vars.ro 19 _ Try.underlying31 rfl infoT19 (by decide) (by rw [rowP_size (rowT_size _ _ _ _) (rowT_size _ _ _ _)]; decide) (rowT tb (.slice da2 dn2 dk2) (.slice ba2 bn2 bk2) (.slice pa2 pn2 pk2)) (rowP_t1 (rowT_size _ _ _ _) (rowT_size _ _ _ _)) ?_)
              | (go_at_call 12; (with_reducible refine (Close_Q1 hv HI2.out HCX.out).mono ?_); rintro e w1 ⟨R6, da5, dn5, dk5, ba5, bn5, bk5, pa5, pn5, pk5, l5, ov5, rfl, hm4, hs5, hi5, ho5⟩; clear hv; have hv := hm4; clear hm4; have HS5 := Lib.hid hs5; have HI5 := Lib.hid hi5; have HO5 := Lib.hid ho5; clear hs5 hi5 ho5)
              | ((with_reducible refine gAl 31 24 ?_); refine nwB hv #[.int .i64 0, .int .i64 0, .int .u32 0, .int .i64 0, .int .u32 0, .int .u32 0, .int .u32 0, .slice none 0 0, .int .i64 0, .bool false, .bool false, .int .u32 0, .slice none 0 0, .slice none 0 0, .bool false, .int .u64 0, .int .i64 0, .int .i64 0, .int .i64 0] 31 ?_; clear hv; intro b_24 w2 hv)
              | ((with_reducible refine gSt 31 ?_); refine stV hv b_24 19 infoT19 ?_ (h1 := (rowT_one _ _ _ _ _ _ _ _ _ _)); clear hv; intro w2 hv))
            obtain ⟨gs2, hq2, ha2, he2⟩ := hQ1
            obtain ⟨g5, ho5, ha5, he5⟩ := HO5.out
            obtain ⟨o5, m5, k5, rfl, _⟩ := hv.rd ho5
            have HQS := Lib.hid hq2
            have HOM := Lib.hid ho5
            have HLG : Hid (∃ m, (cellsG g5).length = m * 7) := Lib.hid ⟨_, cellsG_len _⟩
            have HOC := Lib.hid (cellsG_oneQ ha5 hv)
            have HBG : Hid (gs2.length + g5.length ≤ 100000) := Lib.hid (by
              have h1 := congrArg List.length he2
              have h2 := congrArg List.length he5
              have h3 := close_len 1 tb
              have h4 := HLQ.out
              rw [List.length_map] at h1 h2
              omega)
            have HR1 := Lib.hid hq2.reads
            have HR2 := Lib.hid hQ2.reads
            have HR3 := Lib.hid hG1.reads
            have HR4 := Lib.hid hG2.reads
            have HA2 := Lib.hid ha2
            have HE2 := Lib.hid he2
            have HA5 := Lib.hid ha5
            have HE5 := Lib.hid he5
            have HQO := Lib.hid hQ2
            have HG1 := Lib.hid hG1
            have HG2 := Lib.hid hG2
            clear hq2 ha2 he2 ho5 ha5 he5 hQ2 hG1 hG2
            have hv0 := Mem.cast hv (show _ = (([.row b_24 (rowT (Tp.close 1 ⟨tb, []⟩).t (.slice da5 dn5 dk5) (.slice ba5 bn5 bk5) (.slice pa5 pn5 pk5)), .row b_11 (rowP (rowT ta (.slice da1 dn1 dk1) (.slice ba1 bn1 bk1) (.slice pa1 pn1 pk1)) (.slice xa1 n1 xk1) 0 (.slice ya1 yn1 yk1) (rowT tb (.slice da2 dn2 dk2) (.slice ba2 bn2 bk2) (.slice pa2 pn2 pk2)) (.slice xa2 n2 xk2) 0 (.slice ya2 yn2 yk2)), s1, s2, t1, t2] : List Bny.Slot).flatMap Bny.Slot.rows ++ []) from by simp [Bny.Slot.rows])
            clear hv
            try simp only [Act.put]
            refine Bny.wp_region_walkS [.row b_24 (rowT (Tp.close 1 ⟨tb, []⟩).t (.slice da5 dn5 dk5) (.slice ba5 bn5 bk5) (.slice pa5 pn5 pk5)), .row b_11 (rowP (rowT ta (.slice da1 dn1 dk1) (.slice ba1 bn1 bk1) (.slice pa1 pn1 pk1)) (.slice xa1 n1 xk1) 0 (.slice ya1 yn1 yk1) (rowT tb (.slice da2 dn2 dk2) (.slice ba2 bn2 bk2) (.slice pa2 pn2 pk2)) (.slice xa2 n2 xk2) 0 (.slice ya2 yn2 yk2)), s1, s2, t1, t2] [] [⟨[], none⟩, ⟨[], none⟩, ⟨[], none⟩, ⟨[1000], none⟩, ⟨[], none⟩, ⟨[], none⟩, ⟨[], none⟩, ⟨[], none⟩, ⟨[1001], none⟩, ⟨[], none⟩, ⟨[], some 1002⟩, ⟨[], none⟩, ⟨[], none⟩, ⟨[1001], some 1001⟩, ⟨[], none⟩, ⟨[], none⟩, ⟨[1001], some 1001⟩] [.val, .val, .val, .val, .val, .val, .val, .val, .val, .val, .slot (Bny.QS 7 (cellsG gs2 ++ cellsG g5)), .val, .val, .put, .val, .val, .put] (by kernel_rfl) (by kernel_rfl) hv0 (by exact slots6 HR1.out HR2.out HR3.out HR4.out) ?_
            clear hv0
            simp only [List.length_cons, List.length_nil, Nat.zero_add, Any.someVals]
            iterate 17 apply Exists.intro
            repeat (first
              | (refine Bny.E_off rfl ?_; simp only [Act.put, sia, scs, scz])
              | ((with_reducible refine Bny.gE 32 ?_); refine Bny.eC 1001 (.slice xa1 n1 xk1) Try.underlying32 ?_ (hc := rowP_i0 (rowT_size _ _ _ _)); simp only [Act.put, sia, scs, scz])
              | ((with_reducible refine Bny.at_eappQ (t := 32) ?_); refine Bny.E_appQ rfl rfl rfl rfl rfl HQS.out rfl (Or.inl HOM.out) (.agg #[.int .i64 0, .int .i64 0, .int .u32 0, .int .u32 0, .int .i64 0, .int .i64 0, .slice none 0 0]) 64 Try.underlying32 infoGz rfl (by decide) HLG.out HOC.out (app_bq HBG.out).1 (app_bq HBG.out).2 ?_; intro v9 sl9 hq9; obtain ⟨x9, n9, k9, rfl, hn9⟩ := hq9.own.slice; clear hn9; have HQ9 := Lib.hid hq9; clear hq9; simp only [Act.put, sia, scs, scz])
              | ((with_reducible refine Bny.at_estore (T := 31) ?_); refine Bny.E_putp (T := 31) (off := 22) rfl rfl rfl rfl rfl rfl 19 infoT19 rfl (by rw [rowP_size (rowT_size _ _ _ _) (rowT_size _ _ _ _)]; decide) (rowT_one _ _ _ _ _ _ _ _ _ _) (rowP_s1 (rowT_size _ _ _ _) (rowT_size _ _ _ _) (rowT_size _ _ _ _)) ?_; simp only [Act.put, sia, scs, scz])
              | ((with_reducible refine Bny.at_estore (T := 32) ?_); refine Bny.eP 19 (rowP_set19 (rowT_size _ _ _ _) (rowT_size _ _ _ _)) (Nat.lt_of_lt_of_eq (by decide : 19 < 44) (rowP_size (rowT_size _ _ _ _) (rowT_size _ _ _ _)).symm) (by kernel_rfl) ?_; simp only [Act.put, sia, scs, scz])
              | (apply Bny.E_pureq rfl rfl rfl
                 case h => intro K hK; go_big_quiet_op; (refine hK _ ?_; rfl)
                 case hr => exact fun _ => rfl
                 simp only [Act.put, sia, scs, scz])
              | (apply Bny.E_val rfl rfl rfl rfl
                 case h =>
                   intro E' hA K hK
                   first
                     | ((with_reducible refine Bny.at_qload (T := 31) ?_); refine Bny.q_ldv 1000 hA (by decide) rfl rfl 19 _ Try.underlying31 rfl infoT19 (by decide) rfl ?_; refine hK _ ?_; rfl)
                     | (go_big_quiet_op; first
                       | (refine hK _ ?_; rfl)
                       | (refine ⟨_, fun _ _ => rfl, ?_⟩; refine hK _ ?_; rfl)
                       | (apply Exists.intro; refine ⟨fun w1 hw1 => ?_, ?_⟩; · (first
                           | fail)
                          refine hK _ ?_; rfl))
                 case hD => rfl
                 simp only [Act.put, sia, scs, scz]))
            try any_goals exact undef
            refine Bny.E_nil ?_
            intro w9 hE9
            have hv : Mem w w9 (((b_11, (rowP (rowT ta (.slice da1 dn1 dk1) (.slice ba1 bn1 bk1) (.slice pa1 pn1 pk1)) (.slice x9 n9 k9) 0 (.slice ya1 yn1 yk1) (rowT (Tp.close 1 ⟨tb, []⟩).t (.slice da5 dn5 dk5) (.slice ba5 bn5 bk5) (.slice pa5 pn5 pk5)) (.slice xa2 n2 xk2) 0 (.slice ya2 yn2 yk2))) :: (sl9.rows ++ (s2.rows ++ (t1.rows ++ (t2.rows ++ []))))) ++ []) R6 := hE9.mem0 [1001, 1002, 1003, 1004, 1005] (by decide)
            clear hE9
            simp only [List.cons_append, List.nil_append, List.append_nil] at hv
            have hpm : PM w w9 b_11 ta (Tp.close 1 ⟨tb, []⟩).t (qa ++ (Tp.close 1 ⟨tb, []⟩).out) qb 0 0 ga gb R6 := ⟨da1, dn1, dk1, ba1, bn1, bk1, pa1, pn1, pk1, l1, da5, dn5, dk5, ba5, bn5, bk5, pa5, pn5, pk5, l5, _, _, _, _, sl9, s2, t1, t2, hv, HI1.out.mono HS5.out, HI5.out, ⟨gs2 ++ g5, by rw [cellsG_app]; exact HQ9.out, fun y hy => by
                rcases List.mem_append.1 hy with hy | hy
                · exact HS5.out _ (HA2.out y hy)
                · exact HA5.out y hy, by rw [List.map_append, HE2.out, HE5.out]⟩, HQO.out.mono HS5.out, HG1.out, HG2.out⟩
            have HPM := Lib.hid hpm
            have HS6 : Hid (∀ x ∈ R2, x ∈ R6) := Lib.hid (fun x hx => HS5.out x (HS.out x hx))
            clear hpm
            go_wp2
            go_loopw [26] (fun nv wr => ∃ (n : Nat) (S : Se) (ta tb : T) (qa qb : List G) (ga gb : List Nat) (R5 : LR), nv = .int .i64 n ∧ n ≤ 200 ∧ PM w wr b_11 ta tb qa qb 0 0 ga gb R5 ∧ Hid (EnI iss irs data more S ta tb qa qb ga gb) ∧ Hid (EnRun data more (200 - n) S F) ∧ Hid (∀ x ∈ R2, x ∈ R5)) (fun nv _ => 200 - (intOf nv).toNat)
            case atStart => exact ⟨0, S', _, _, _, _, ga, gb, R6, rfl, Nat.zero_le _, HPM.out, HK5, HRN, HS6⟩
            case round =>
              clear hv
              obtain ⟨n, S, ta, tb, qa, qb, ga, gb, R5, rfl, hn200, hpm, HK, HRN, HS⟩ := hrel
              obtain ⟨da1, dn1, dk1, ba1, bn1, bk1, pa1, pn1, pk1, l1, da2, dn2, dk2, ba2, bn2, bk2, pa2, pn2, pk2, l2, x1, x2, y1, y2, s1, s2, t1, t2, hv, hI1, hI2, hQ1, hQ2, hG1, hG2⟩ := hpm
              have HI1 := Lib.hid hI1
              have HI2 := Lib.hid hI2
              obtain ⟨ya1, yn1, yk1, rfl, _⟩ := hG1.own.slice
              obtain ⟨ya2, yn2, yk2, rfl, _⟩ := hG2.own.slice
              clear hI1 hI2
              by_cases hn : n < 200
              · have y7 : decide ((n : Int) < 200) = true := decide_eq_true (by omega)
                have z7 : decide (n < 200) = true := decide_eq_true hn
                rcases qb with _ | ⟨g, r⟩
                · rcases qa with _ | ⟨g, r⟩
                  · as_aux_lemma =>
                    obtain ⟨xa1, n1, xk1, rfl, hn1⟩ := hQ1.slice'
                    obtain ⟨xa2, n2, xk2, rfl, hn2⟩ := hQ2.slice'
                    have q12 : IntKind.i64.wrap ((n1 : Int) + (n2 : Int)) = 0 := by rw [← hn1, ← hn2]; rfl
                    have hSF : S = F := EnRun.stop HRN.out (by rw [HK.out.lenA, HK.out.lenB]; rfl)
                    clear hn1 hn2
                    go_wp2_with (first
                      | ((with_reducible refine gLd 32 ?_); refine ldC hv b_11 41 (.slice xa2 n2 xk2) Try.underlying32 ?_ (hc := rowP_i1 (rowT_size _ _ _ _) (rowT_size _ _ _ _)))
                      | ((with_reducible refine gLd 32 ?_); refine ldC hv b_11 19 (.slice xa1 n1 xk1) Try.underlying32 ?_ (hc := rowP_i0 (rowT_size _ _ _ _))))
                    refine ⟨?rel, ?measure⟩
                    case rel =>
                      first
                        | exact ⟨S, ta, tb, _, _, ga, gb, R5, ⟨da1, dn1, dk1, ba1, bn1, bk1, pa1, pn1, pk1, l1, da2, dn2, dk2, ba2, bn2, bk2, pa2, pn2, pk2, l2, _, _, _, _, s1, s2, t1, t2, hv, HI1.out, HI2.out, hQ1, hQ2, hG1, hG2⟩, HK, .inl (.inr ⟨rfl, hSF.trans HF.out⟩), HS⟩
                        | exact ⟨S, ta, tb, _, _, ga, gb, R5, ⟨da1, dn1, dk1, ba1, bn1, bk1, pa1, pn1, pk1, l1, da2, dn2, dk2, ba2, bn2, bk2, pa2, pn2, pk2, l2, _, _, _, _, s1, s2, t1, t2, hv, HI1.out, HI2.out, hQ1, hQ2, hG1, hG2⟩, HK, .inr ⟨rfl, hSF.trans HF.out⟩, HS⟩
                        | (repeat apply Exists.intro
                           refine ⟨?r2, rfl⟩
                           first
                             | exact ⟨S, ta, tb, _, _, ga, gb, R5, ⟨da1, dn1, dk1, ba1, bn1, bk1, pa1, pn1, pk1, l1, da2, dn2, dk2, ba2, bn2, bk2, pa2, pn2, pk2, l2, _, _, _, _, s1, s2, t1, t2, hv, HI1.out, HI2.out, hQ1, hQ2, hG1, hG2⟩, HK, .inl (.inr ⟨rfl, hSF.trans HF.out⟩), HS⟩
                             | exact ⟨S, ta, tb, _, _, ga, gb, R5, ⟨da1, dn1, dk1, ba1, bn1, bk1, pa1, pn1, pk1, l1, da2, dn2, dk2, ba2, bn2, bk2, pa2, pn2, pk2, l2, _, _, _, _, s1, s2, t1, t2, hv, HI1.out, HI2.out, hQ1, hQ2, hG1, hG2⟩, HK, .inr ⟨rfl, hSF.trans HF.out⟩, HS⟩)
                    case measure =>
                      first
                        | (show 2 - (1 : Int).toNat < 2 - (0 : Int).toNat; decide)
                        | (show 2 - (2 : Int).toNat < 2 - (1 : Int).toNat; decide)

                  · as_aux_lemma =>
                    obtain ⟨xa2, n2, xk2, rfl, hn2⟩ := hQ2.slice'
                    obtain ⟨xb, xo, xk, sa, sn, sk, gr, e, hqs, hgd, hga, hgr⟩ := hQ1.head hv.q1
                    subst e
                    obtain ⟨n1, hn1⟩ : ∃ n, r.length + 1 = n := ⟨_, rfl⟩
                    rw [hn1] at hv hqs hQ1
                    have y2 : decide ((0 : Int) < (n2 : Int)) = false := decide_eq_false (by rw [← hn2]; decide)
                    have z2 : decide (0 < n2) = false := decide_eq_false (by rw [← hn2]; decide)
                    have hn20 : n2 = 0 := hn2.symm
                    obtain ⟨n12, hn12⟩ : ∃ n, n1 + n2 = n := ⟨_, rfl⟩
                    have hlen := EnRun.bound _ HRN.out
                    have hlA := HK.out.lenA
                    have hlB := HK.out.lenB
                    simp only [List.length_cons, List.length_nil] at hlA hlB
                    have q12 : IntKind.i64.wrap ((n1 : Int) + (n2 : Int)) = (n12 : Int) := by rw [IntWalk.i64_in _ (by omega)]; omega
                    have y12 : decide ((0 : Int) < (n12 : Int)) = true := decide_eq_true (by omega)
                    have z12 : decide (0 < n12) = true := decide_eq_true (by omega)
                    have hix : (0 : Int) < (n1 : Int) := by omega
                    have hiy : 0 < n1 := by omega
                    have HXV : Hid (((cellsG ((g, Value.slice sa sn sk) :: gr)).drop 0).take 7 = (#[.int .i64 g.src, .int .i64 g.dst, .int .u32 g.seq, .int .u32 g.ack, .int .i64 g.fl, .int .i64 g.wnd, .slice sa sn sk] : Array Value).toList) := Lib.hid rfl
                    have hrk : EnRun data more ((199 - n) + 1) S F := by
                      have h := HRN.out
                      rwa [show 200 - n = 199 - n + 1 from by omega] at h
                    have HRK := Lib.hid hrk
                    have hseg : InG R5 g sa sn sk := by
                      obtain ⟨h1, h2, h3⟩ := HK.out.segA hrk
                      exact ⟨hgd, h1, h2, h3⟩
                    have HGG := Lib.hid hseg
                    have HCK := Lib.hid (HK.out.chkA hd)
                    have q7 : IntKind.i64.wrap ((n : Int) + 1) = ((n + 1 : Nat) : Int) := by rw [IntWalk.i64_in _ (by omega)]; omega
                    have HQS := Lib.hid hqs
                    have HQX := Lib.hid hQ1
                    have HQO := Lib.hid hQ2
                    have HG1 := Lib.hid hG1
                    have HG2 := Lib.hid hG2
                    clear hqs hgd hga hgr hQ1 hQ2 hG1 hG2 hn1 hn2 hrk hseg hlen hlA hlB hn12 hn20
                    go_wp2_with (first
                      | ((with_reducible refine gLd 32 ?_); refine ldC hv b_11 41 (.slice xa2 n2 xk2) Try.underlying32 ?_ (hc := rowP_i1 (rowT_size _ _ _ _) (rowT_size _ _ _ _)))
                      | ((with_reducible refine gLd 32 ?_); refine ldC hv b_11 19 (.slice (some ⟨xb, xo, none⟩) n1 xk) Try.underlying32 ?_ (hc := rowP_i0 (rowT_size _ _ _ _)))
                      | ((with_reducible refine at_load (T := 42) ?_); refine wl_rdv rfl (kk := 7) (b := xb) (o := xo) (n := n1) (cap := xk) (c := cellsG ((g, Value.slice sa sn sk) :: gr)) (HQS.out.own.rd hv.q1) 0 rfl 7 _ Try.underlying42 rfl infoG7 (by decide) #[.int .i64 g.src, .int .i64 g.dst, .int .u32 g.seq, .int .u32 g.ack, .int .i64 g.fl, .int .i64 g.wnd, .slice sa sn sk] HXV.out rfl ?_)
                      | ((with_reducible refine gAl 42 28 ?_); refine nwB hv #[.int .i64 0, .int .i64 0, .int .u32 0, .int .u32 0, .int .i64 0, .int .i64 0, .slice none 0 0] 42 ?_; clear hv; intro b_28 w2 hv)
                      | ((with_reducible refine gSt 42 ?_); refine stV hv b_28 7 infoG7 ?_; clear hv; intro w2 hv)
                      | ((with_reducible refine at_slice (T := 32) ?_); refine wl_tailG rfl rfl rfl HQX.out hv.q2 Try.underlying32 infoG7 ?_; intro xa7 n7 xk7 s7 hn7 hq7 hv7; clear hv; have hv := hv7; clear hv7; simp only [List.append_assoc, List.cons_append, List.nil_append] at hv; have HN7 := Lib.hid hn7; have HQ7 := Lib.hid hq7; clear hn7 hq7)
                      | ((with_reducible refine gSt 32 ?_); refine stC hv b_11 19 (.slice xa7 n7 xk7) ?_ (hs := ⟨(SetM.s SetM.z), rowP_set19 (rowT_size _ _ _ _) (rowT_size _ _ _ _)⟩) (h0 := by rw [rowP_size (rowT_size _ _ _ _) (rowT_size _ _ _ _)]; decide); clear hv; intro w2 hv))
                    have HSC : Hid (∃ v R', TkQ R5 1 g ta v R') := Lib.hid (Bny.some_of (Take_Q hv (fun x hx => hx) HI1.out HCK.out (nw := 1) HGG.out))
                    have HR1 := Lib.hid HQ7.out.reads
                    have HR2 := Lib.hid HQO.out.reads
                    have HR3 := Lib.hid HG1.out.reads
                    have HR4 := Lib.hid HG2.out.reads
                    have hv0 := Mem.cast hv (show _ = (([.row b_28 #[.int .i64 g.src, .int .i64 g.dst, .int .u32 g.seq, .int .u32 g.ack, .int .i64 g.fl, .int .i64 g.wnd, .slice sa sn sk], .row b_11 (rowP (rowT ta (.slice da1 dn1 dk1) (.slice ba1 bn1 bk1) (.slice pa1 pn1 pk1)) (.slice xa7 n7 xk7) 0 (.slice ya1 yn1 yk1) (rowT tb (.slice da2 dn2 dk2) (.slice ba2 bn2 bk2) (.slice pa2 pn2 pk2)) (.slice xa2 n2 xk2) 0 (.slice ya2 yn2 yk2)), s7, s2, t1, t2] : List Bny.Slot).flatMap Bny.Slot.rows ++ []) from by simp [Bny.Slot.rows])
                    clear hv
                    try simp only [Act.put]
                    refine Bny.wp_region_walkS [.row b_28 #[.int .i64 g.src, .int .i64 g.dst, .int .u32 g.seq, .int .u32 g.ack, .int .i64 g.fl, .int .i64 g.wnd, .slice sa sn sk], .row b_11 (rowP (rowT ta (.slice da1 dn1 dk1) (.slice ba1 bn1 bk1) (.slice pa1 pn1 pk1)) (.slice xa7 n7 xk7) 0 (.slice ya1 yn1 yk1) (rowT tb (.slice da2 dn2 dk2) (.slice ba2 bn2 bk2) (.slice pa2 pn2 pk2)) (.slice xa2 n2 xk2) 0 (.slice ya2 yn2 yk2)), s7, s2, t1, t2] [] [⟨[], none⟩, ⟨[], none⟩, ⟨[], none⟩, ⟨[1001], none⟩, ⟨[1000], none⟩, ⟨[], none⟩, ⟨[], some 6⟩, ⟨[], none⟩, ⟨[], none⟩, ⟨[], none⟩, ⟨[], some 10⟩, ⟨[10], some 10⟩] [.val, .val, .val, .val, .val, .val, .mem (TkQ R5 1 g ta), .pure, .pure, .pure, .lay #[.int .i64 0, .int .i64 0, .int .u32 0, .int .i64 0, .int .u32 0, .int .u32 0, .int .u32 0, .slice none 0 0, .int .i64 0, .bool false, .bool false, .int .u32 0, .slice none 0 0, .slice none 0 0, .bool false, .int .u64 0, .int .i64 0, .int .i64 0, .int .i64 0], .put, .pure] (by kernel_rfl) (by kernel_rfl) hv0 (by exact slots6 HR1.out HR2.out HR3.out HR4.out) ?_
                    clear hv0
                    simp only [List.length_cons, List.length_nil, Nat.zero_add, Any.someVals]
                    iterate 13 apply Exists.intro
                    repeat (first
                      | (refine Bny.E_off rfl ?_; simp only [Act.put, sia, scs, scz])
                      | ((with_reducible refine Bny.at_ealloc ?_); refine Bny.E_lay (t := 31) rfl rfl rfl (fun _ => rfl) ?_; intro b_29; simp only [Act.put, sia, scs, scz])
                      | ((with_reducible refine Bny.gE 31 ?_); refine Bny.eX 1001 0 19 (rowT ta (.slice da1 dn1 dk1) (.slice ba1 bn1 bk1) (.slice pa1 pn1 pk1)) Try.underlying31 infoT19 (rowP_t0 (rowT_size _ _ _ _) (rowT_size _ _ _ _)) (Nat.le_trans (by decide : 0 + 19 ≤ 44) (Nat.le_of_eq (rowP_size (rowT_size _ _ _ _) (rowT_size _ _ _ _)).symm)) ?_; simp only [Act.put, sia, scs, scz])
                      | ((with_reducible refine Bny.at_estore (T := 31) ?_); refine Bny.E_putv (T := 31) rfl rfl rfl rfl rfl rfl 19 infoT19 rfl rfl (rowT_one _ _ _ _ _ _ _ _ _ _) ?_; simp only [Act.put, sia, scs, scz])
                      | ((with_reducible refine Bny.at_ecallf (f := 13) ?_); refine Bny.E_callmem rfl rfl rfl (Go.Proofs.enters_of Try.func13 (by kernel_rfl) rfl) rfl [.agg (rowT ta (.slice da1 dn1 dk1) (.slice ba1 bn1 bk1) (.slice pa1 pn1 pk1)), .agg #[.int .i64 g.src, .int .i64 g.dst, .int .u32 g.seq, .int .u32 g.ack, .int .i64 g.fl, .int .i64 g.wnd, .slice sa sn sk], .int .u64 1] rfl HSC.out R5 (fun x hx => .inl hx) (fun w0 w L R' hm hs => by have h := Take_Q hm hs HI1.out HCK.out (nw := 1) HGG.out; exact h) ?_; rintro v R7 ⟨c3, da3, dn3, dk3, ba3, bn3, bk3, pa3, pn3, pk3, l3', ov3, he, ht3, hi3, ho3, hs3⟩; obtain rfl : v = .tuple #[.agg (rowT c3.t (.slice da3 dn3 dk3) (.slice ba3 bn3 bk3) (.slice pa3 pn3 pk3)), ov3] := he; have HT3 := Lib.hid ht3; have HI3' := Lib.hid hi3; have HO3 := Lib.hid ho3; have HS3' := Lib.hid hs3; clear ht3 hi3 ho3 hs3; simp only [Act.put, sia, scs, scz])
                      | (apply Bny.E_pureq rfl rfl rfl
                         case h => intro K hK; go_big_quiet_op; (refine hK _ ?_; rfl)
                         case hr => exact fun _ => rfl
                         simp only [Act.put, sia, scs, scz])
                      | (apply Bny.E_val rfl rfl rfl rfl
                         case h =>
                           intro E' hA K hK
                           first
                             | ((with_reducible refine Bny.at_qload (T := 42) ?_); refine Bny.q_ldv 1000 hA (by decide) rfl rfl 7 _ Try.underlying42 rfl infoG7 (by decide) rfl ?_; refine hK _ ?_; rfl)
                             | (go_big_quiet_op; first
                               | (refine hK _ ?_; rfl)
                               | (refine ⟨_, fun _ _ => rfl, ?_⟩; refine hK _ ?_; rfl)
                               | (apply Exists.intro; refine ⟨fun w1 hw1 => ?_, ?_⟩; · (first
                                   | fail)
                                  refine hK _ ?_; rfl))
                         case hD => rfl
                         simp only [Act.put, sia, scs, scz]))
                    try any_goals exact undef
                    refine Bny.E_nil ?_
                    intro w9 hE9
                    have hv : Mem w w9 (((b_29, (rowT c3.t (.slice da3 dn3 dk3) (.slice ba3 bn3 bk3) (.slice pa3 pn3 pk3))) :: (b_11, (rowP (rowT ta (.slice da1 dn1 dk1) (.slice ba1 bn1 bk1) (.slice pa1 pn1 pk1)) (.slice xa7 n7 xk7) 0 (.slice ya1 yn1 yk1) (rowT tb (.slice da2 dn2 dk2) (.slice ba2 bn2 bk2) (.slice pa2 pn2 pk2)) (.slice xa2 n2 xk2) 0 (.slice ya2 yn2 yk2))) :: (s7.rows ++ (s2.rows ++ (t1.rows ++ (t2.rows ++ []))))) ++ []) R7 := hE9.mem1 [10, 1001, 1002, 1003, 1004, 1005] (by decide) 6 rfl
                    clear hE9
                    simp only [List.cons_append, List.nil_append, List.append_nil] at hv
                    have HCK3 := Lib.hid (take_kept HCK.out HT3.out).chk
                    obtain ⟨S', hk', hr'⟩ := HK.out.stepA hd hm HRK.out HT3.out
                    have HK' := Lib.hid hk'
                    have HRN' := Lib.hid hr'
                    clear hk' hr'
                    go_wp2_with (first
                      | ((with_reducible refine gLd 31 ?_); refine ldV hv b_29 19 Try.underlying31 infoT19 ?_)
                      | (go_at_call 14; (refine (Read_Q hv HI3'.out HCK3.out (n := 300)).mono ?_); rintro e w1 ⟨R8, da4, dn4, dk4, ba4, bn4, bk4, pa4, pn4, pk4, l4, ga4, gn4, gk4, ov4, rfl, hm4, hs4, hi4, ho4, hg4⟩; clear hv; have hv := hm4; clear hm4; have HS4' := Lib.hid hs4; have HI4' := Lib.hid hi4; have HO4 := Lib.hid ho4; have HGM4 := Lib.hid hg4; clear hs4 hi4 ho4 hg4)
                      | ((with_reducible refine gSt 31 ?_); refine stV hv b_29 19 infoT19 ?_ (h1 := (rowT_one _ _ _ _ _ _ _ _ _ _)); clear hv; intro w2 hv))
                    have HBG : Hid (ga.length + (Tp.read 300 c3.t).2.length ≤ 2000) := Lib.hid (by
                      have h1 := congrArg List.length HK'.out.fga
                      rw [List.length_append, List.length_take] at h1
                      omega)
                    have HGX := Lib.hid HG1.out
                    have hv0 := Mem.cast hv (show _ = (([.row b_29 (rowT (Tp.read 300 c3.t).1.t (.slice da4 dn4 dk4) (.slice ba4 bn4 bk4) (.slice pa4 pn4 pk4)), .row b_11 (rowP (rowT ta (.slice da1 dn1 dk1) (.slice ba1 bn1 bk1) (.slice pa1 pn1 pk1)) (.slice xa7 n7 xk7) 0 (.slice ya1 yn1 yk1) (rowT tb (.slice da2 dn2 dk2) (.slice ba2 bn2 bk2) (.slice pa2 pn2 pk2)) (.slice xa2 n2 xk2) 0 (.slice ya2 yn2 yk2)), s7, s2, t1, t2] : List Bny.Slot).flatMap Bny.Slot.rows ++ []) from by simp [Bny.Slot.rows])
                    clear hv
                    try simp only [Act.put]
                    refine Bny.wp_region_walkS [.row b_29 (rowT (Tp.read 300 c3.t).1.t (.slice da4 dn4 dk4) (.slice ba4 bn4 bk4) (.slice pa4 pn4 pk4)), .row b_11 (rowP (rowT ta (.slice da1 dn1 dk1) (.slice ba1 bn1 bk1) (.slice pa1 pn1 pk1)) (.slice xa7 n7 xk7) 0 (.slice ya1 yn1 yk1) (rowT tb (.slice da2 dn2 dk2) (.slice ba2 bn2 bk2) (.slice pa2 pn2 pk2)) (.slice xa2 n2 xk2) 0 (.slice ya2 yn2 yk2)), s7, s2, t1, t2] [] [⟨[], none⟩, ⟨[], none⟩, ⟨[1000], none⟩, ⟨[], none⟩, ⟨[], none⟩, ⟨[], none⟩, ⟨[1001], none⟩, ⟨[], none⟩, ⟨[], some 1004⟩, ⟨[], none⟩, ⟨[], none⟩, ⟨[1001], some 1001⟩, ⟨[], none⟩, ⟨[], none⟩, ⟨[1001], some 1001⟩] [.val, .val, .val, .val, .val, .val, .val, .val, .slot (Bny.QS 1 (cellsB ga ++ cellsB (Tp.read 300 c3.t).2)), .val, .val, .put, .val, .val, .put] (by kernel_rfl) (by kernel_rfl) hv0 (by exact slots6 HR1.out HR2.out HR3.out HR4.out) ?_
                    clear hv0
                    simp only [List.length_cons, List.length_nil, Nat.zero_add, Any.someVals]
                    iterate 15 apply Exists.intro
                    repeat (first
                      | (refine Bny.E_off rfl ?_; simp only [Act.put, sia, scs, scz])
                      | ((with_reducible refine Bny.gE 23 ?_); refine Bny.eC 1001 (.slice ya1 yn1 yk1) Try.underlying23 ?_ (hc := rowP_g0 (rowT_size _ _ _ _)); simp only [Act.put, sia, scs, scz])
                      | ((with_reducible refine Bny.at_eappQ (t := 23) ?_); refine Bny.E_appQ rfl rfl rfl rfl rfl HGX.out rfl (Or.inl HGM4.out) (.int .u8 0) 1 Try.underlying23 infoBz rfl (by decide) ⟨_, (Nat.mul_one _).symm⟩ (cellsB_one _) (bdQ HBG.out).1 (bdQ HBG.out).2 ?_; intro v9 sl9 hq9; obtain ⟨o9, n9, k9, rfl, hn9⟩ := hq9.own.slice; clear hn9; have HQ9 := Lib.hid hq9; clear hq9; simp only [Act.put, sia, scs, scz])
                      | ((with_reducible refine Bny.at_estore (T := 31) ?_); refine Bny.E_putp (T := 31) (off := 0) rfl rfl rfl rfl rfl rfl 19 infoT19 rfl (by rw [rowP_size (rowT_size _ _ _ _) (rowT_size _ _ _ _)]; decide) (rowT_one _ _ _ _ _ _ _ _ _ _) (rowP_s0 (rowT_size _ _ _ _) (rowT_size _ _ _ _) (rowT_size _ _ _ _)) ?_; simp only [Act.put, sia, scs, scz])
                      | ((with_reducible refine Bny.at_estore (T := 23) ?_); refine Bny.eP 21 (rowP_set21 (rowT_size _ _ _ _) (rowT_size _ _ _ _)) (Nat.lt_of_lt_of_eq (by decide : 21 < 44) (rowP_size (rowT_size _ _ _ _) (rowT_size _ _ _ _)).symm) (by kernel_rfl) ?_; simp only [Act.put, sia, scs, scz])
                      | (apply Bny.E_pureq rfl rfl rfl
                         case h => intro K hK; go_big_quiet_op; (refine hK _ ?_; rfl)
                         case hr => exact fun _ => rfl
                         simp only [Act.put, sia, scs, scz])
                      | (apply Bny.E_val rfl rfl rfl rfl
                         case h =>
                           intro E' hA K hK
                           first
                             | ((with_reducible refine Bny.at_qload (T := 31) ?_); refine Bny.q_ldv 1000 hA (by decide) rfl rfl 19 _ Try.underlying31 rfl infoT19 (by decide) rfl ?_; refine hK _ ?_; rfl)
                             | (go_big_quiet_op; first
                               | (refine hK _ ?_; rfl)
                               | (refine ⟨_, fun _ _ => rfl, ?_⟩; refine hK _ ?_; rfl)
                               | (apply Exists.intro; refine ⟨fun w1 hw1 => ?_, ?_⟩; · (first
                                   | fail)
                                  refine hK _ ?_; rfl))
                         case hD => rfl
                         simp only [Act.put, sia, scs, scz]))
                    try any_goals exact undef
                    refine Bny.E_nil ?_
                    intro w9 hE9
                    have hv : Mem w w9 (((b_11, (rowP (rowT (Tp.read 300 c3.t).1.t (.slice da4 dn4 dk4) (.slice ba4 bn4 bk4) (.slice pa4 pn4 pk4)) (.slice xa7 n7 xk7) 0 (.slice o9 n9 k9) (rowT tb (.slice da2 dn2 dk2) (.slice ba2 bn2 bk2) (.slice pa2 pn2 pk2)) (.slice xa2 n2 xk2) 0 (.slice ya2 yn2 yk2))) :: (s7.rows ++ (s2.rows ++ (sl9.rows ++ (t2.rows ++ []))))) ++ []) R8 := hE9.mem0 [1001, 1002, 1003, 1004, 1005] (by decide)
                    clear hE9
                    simp only [List.cons_append, List.nil_append, List.append_nil] at hv
                    have HO34 := Lib.hid (HO3.out.mono HS4'.out)
                    have HQO4 := Lib.hid ((HQO.out.mono HS3'.out).mono HS4'.out)
                    have HB31 : Hid (([] : List G).length + c3.out.length ≤ 100000) := Lib.hid (by have h2 := take_len HT3.out; simp only [List.length_nil]; omega)
                    have HB32 : Hid ((([] : List G) ++ c3.out).length + (Tp.read 300 c3.t).1.out.length ≤ 100000) := Lib.hid (by have h2 := take_len HT3.out; have h3 := read_len 300 c3.t; rw [List.length_append]; simp only [List.length_nil]; omega)
                    go_wp2_with (first
                      | ((with_reducible refine gLd 32 ?_); refine ldC hv b_11 41 (.slice xa2 n2 xk2) Try.underlying32 ?_ (hc := rowP_i1 (rowT_size _ _ _ _) (rowT_size _ _ _ _)))
                      | ((with_reducible refine at_append (t := 32) (dst := some 184) ?_); refine wl_appG rfl rfl rfl HQO4.out hv.q3 Try.underlying32 infoGz HO34.out HB31.out ?_; intro xa5 n5 xk5 w5 s5 hn5 hq5 hv5; clear hv; have hv := hv5; clear hv5; simp only [List.append_assoc, List.cons_append, List.nil_append] at hv; have HQ5 := Lib.hid hq5; clear hq5 hn5)
                      | ((with_reducible refine at_append (t := 32) (dst := some 186) ?_); refine wl_appG rfl rfl rfl HQ5.out hv.q3 Try.underlying32 infoGz HO4.out HB32.out ?_; intro xa6 n6 xk6 w6 s6 hn6 hq6 hv6; clear hv; have hv := hv6; clear hv6; simp only [List.append_assoc, List.cons_append, List.nil_append] at hv; have HQ6 := Lib.hid hq6; clear hq6 hn6)
                      | ((with_reducible refine gSt 32 ?_); refine stC hv b_11 41 (.slice xa6 n6 xk6) ?_ (hs := ⟨SetM.z, rowP_set41 (rowT_size _ _ _ _) (rowT_size _ _ _ _)⟩) (h0 := by rw [rowP_size (rowT_size _ _ _ _) (rowT_size _ _ _ _)]; decide); clear hv; intro w2 hv))
                    refine ⟨?rel, ?measure⟩
                    case rel =>
                      refine ⟨n + 1, S', (Tp.read 300 c3.t).1.t, tb, r, [] ++ c3.out ++ (Tp.read 300 c3.t).1.out, ga ++ (Tp.read 300 c3.t).2, gb, R8, rfl, by omega, ⟨da4, dn4, dk4, ba4, bn4, bk4, pa4, pn4, pk4, l4, da2, dn2, dk2, ba2, bn2, bk2, pa2, pn2, pk2, l2, _, _, _, _, s7, s6, sl9, t2, hv, HI4'.out, (HI2.out.mono HS3'.out).mono HS4'.out, (HQ7.out.mono HS3'.out).mono HS4'.out, HQ6.out, (by have h := HQ9.out; rwa [← cellsB_appQ] at h), HG2.out⟩, HK', Lib.hid (by rw [show 200 - (n + 1) = 199 - n from by omega]; exact HRN'.out), Lib.hid (fun x hx => HS4'.out x (HS3'.out x (HS.out x hx)))⟩
                    case measure =>
                      show 200 - ((n : Int) + 1).toNat < 200 - ((n : Nat) : Int).toNat
                      omega

                · as_aux_lemma =>
                  obtain ⟨xa1, n1, xk1, rfl, hn1⟩ := hQ1.slice'
                  obtain ⟨xb, xo, xk, sa, sn, sk, gr, e, hqs, hgd, hga, hgr⟩ := hQ2.head hv.q3
                  subst e
                  obtain ⟨n2, hn2⟩ : ∃ n, r.length + 1 = n := ⟨_, rfl⟩
                  rw [hn2] at hv hqs hQ2
                  have y2 : decide ((0 : Int) < (n2 : Int)) = true := decide_eq_true (by omega)
                  have z2 : decide (0 < n2) = true := decide_eq_true (by omega)

                  obtain ⟨n12, hn12⟩ : ∃ n, n1 + n2 = n := ⟨_, rfl⟩
                  have hlen := EnRun.bound _ HRN.out
                  have hlA := HK.out.lenA
                  have hlB := HK.out.lenB
                  simp only [List.length_cons, List.length_nil] at hlA hlB
                  have q12 : IntKind.i64.wrap ((n1 : Int) + (n2 : Int)) = (n12 : Int) := by rw [IntWalk.i64_in _ (by omega)]; omega
                  have y12 : decide ((0 : Int) < (n12 : Int)) = true := decide_eq_true (by omega)
                  have z12 : decide (0 < n12) = true := decide_eq_true (by omega)
                  have hix : (0 : Int) < (n2 : Int) := by omega
                  have hiy : 0 < n2 := by omega
                  have HXV : Hid (((cellsG ((g, Value.slice sa sn sk) :: gr)).drop 0).take 7 = (#[.int .i64 g.src, .int .i64 g.dst, .int .u32 g.seq, .int .u32 g.ack, .int .i64 g.fl, .int .i64 g.wnd, .slice sa sn sk] : Array Value).toList) := Lib.hid rfl
                  have hrk : EnRun data more ((199 - n) + 1) S F := by
                    have h := HRN.out
                    rwa [show 200 - n = 199 - n + 1 from by omega] at h
                  have HRK := Lib.hid hrk
                  have hseg : InG R5 g sa sn sk := by
                    obtain ⟨h1, h2, h3⟩ := HK.out.segB hrk
                    exact ⟨hgd, h1, h2, h3⟩
                  have HGG := Lib.hid hseg
                  have HCK := Lib.hid (HK.out.chkB hm)
                  have HLN : Hid (qa.length ≤ 200) := Lib.hid (by omega)
                  have q7 : IntKind.i64.wrap ((n : Int) + 1) = ((n + 1 : Nat) : Int) := by rw [IntWalk.i64_in _ (by omega)]; omega
                  have HQS := Lib.hid hqs
                  have HQX := Lib.hid hQ2
                  have HQO := Lib.hid hQ1
                  have HG1 := Lib.hid hG1
                  have HG2 := Lib.hid hG2
                  clear hqs hgd hga hgr hQ2 hQ1 hG1 hG2 hn1 hn2 hrk hseg hlen hlA hlB hn12
                  go_wp2_with (first
                    | ((with_reducible refine gLd 32 ?_); refine ldC hv b_11 41 (.slice (some ⟨xb, xo, none⟩) n2 xk) Try.underlying32 ?_ (hc := rowP_i1 (rowT_size _ _ _ _) (rowT_size _ _ _ _)))
                    | ((with_reducible refine gLd 32 ?_); refine ldC hv b_11 19 (.slice xa1 n1 xk1) Try.underlying32 ?_ (hc := rowP_i0 (rowT_size _ _ _ _)))
                    | ((with_reducible refine at_load (T := 42) ?_); refine wl_rdv rfl (kk := 7) (b := xb) (o := xo) (n := n2) (cap := xk) (c := cellsG ((g, Value.slice sa sn sk) :: gr)) (HQS.out.own.rd hv.q3) 0 rfl 7 _ Try.underlying42 rfl infoG7 (by decide) #[.int .i64 g.src, .int .i64 g.dst, .int .u32 g.seq, .int .u32 g.ack, .int .i64 g.fl, .int .i64 g.wnd, .slice sa sn sk] HXV.out rfl ?_)
                    | ((with_reducible refine gAl 42 28 ?_); refine nwB hv #[.int .i64 0, .int .i64 0, .int .u32 0, .int .u32 0, .int .i64 0, .int .i64 0, .slice none 0 0] 42 ?_; clear hv; intro b_28 w2 hv)
                    | ((with_reducible refine gSt 42 ?_); refine stV hv b_28 7 infoG7 ?_; clear hv; intro w2 hv)
                    | ((with_reducible refine at_slice (T := 32) ?_); refine wl_tailG rfl rfl rfl HQX.out hv.q4 Try.underlying32 infoG7 ?_; intro xa7 n7 xk7 s7 hn7 hq7 hv7; clear hv; have hv := hv7; clear hv7; simp only [List.append_assoc, List.cons_append, List.nil_append] at hv; have HN7 := Lib.hid hn7; have HQ7 := Lib.hid hq7; clear hn7 hq7)
                    | ((with_reducible refine gSt 32 ?_); refine stC hv b_11 41 (.slice xa7 n7 xk7) ?_ (hs := ⟨(SetM.s SetM.z), rowP_set41 (rowT_size _ _ _ _) (rowT_size _ _ _ _)⟩) (h0 := by rw [rowP_size (rowT_size _ _ _ _) (rowT_size _ _ _ _)]; decide); clear hv; intro w2 hv))
                  have HSC : Hid (∃ v R', TkQ R5 1 g tb v R') := Lib.hid (Bny.some_of (Take_Q hv (fun x hx => hx) HI2.out HCK.out (nw := 1) HGG.out))
                  have HR1 := Lib.hid HQO.out.reads
                  have HR2 := Lib.hid HQ7.out.reads
                  have HR3 := Lib.hid HG1.out.reads
                  have HR4 := Lib.hid HG2.out.reads
                  have hv0 := Mem.cast hv (show _ = (([.row b_28 #[.int .i64 g.src, .int .i64 g.dst, .int .u32 g.seq, .int .u32 g.ack, .int .i64 g.fl, .int .i64 g.wnd, .slice sa sn sk], .row b_11 (rowP (rowT ta (.slice da1 dn1 dk1) (.slice ba1 bn1 bk1) (.slice pa1 pn1 pk1)) (.slice xa1 n1 xk1) 0 (.slice ya1 yn1 yk1) (rowT tb (.slice da2 dn2 dk2) (.slice ba2 bn2 bk2) (.slice pa2 pn2 pk2)) (.slice xa7 n7 xk7) 0 (.slice ya2 yn2 yk2)), s1, s7, t1, t2] : List Bny.Slot).flatMap Bny.Slot.rows ++ []) from by simp [Bny.Slot.rows])
                  clear hv
                  try simp only [Act.put]
                  refine Bny.wp_region_walkS [.row b_28 #[.int .i64 g.src, .int .i64 g.dst, .int .u32 g.seq, .int .u32 g.ack, .int .i64 g.fl, .int .i64 g.wnd, .slice sa sn sk], .row b_11 (rowP (rowT ta (.slice da1 dn1 dk1) (.slice ba1 bn1 bk1) (.slice pa1 pn1 pk1)) (.slice xa1 n1 xk1) 0 (.slice ya1 yn1 yk1) (rowT tb (.slice da2 dn2 dk2) (.slice ba2 bn2 bk2) (.slice pa2 pn2 pk2)) (.slice xa7 n7 xk7) 0 (.slice ya2 yn2 yk2)), s1, s7, t1, t2] [] [⟨[], none⟩, ⟨[], none⟩, ⟨[], none⟩, ⟨[1001], none⟩, ⟨[1000], none⟩, ⟨[], none⟩, ⟨[], some 6⟩, ⟨[], none⟩, ⟨[], none⟩, ⟨[], none⟩, ⟨[], some 10⟩, ⟨[10], some 10⟩] [.val, .val, .val, .val, .val, .val, .mem (TkQ R5 1 g tb), .pure, .pure, .pure, .lay #[.int .i64 0, .int .i64 0, .int .u32 0, .int .i64 0, .int .u32 0, .int .u32 0, .int .u32 0, .slice none 0 0, .int .i64 0, .bool false, .bool false, .int .u32 0, .slice none 0 0, .slice none 0 0, .bool false, .int .u64 0, .int .i64 0, .int .i64 0, .int .i64 0], .put, .pure] (by kernel_rfl) (by kernel_rfl) hv0 (by exact slots6 HR1.out HR2.out HR3.out HR4.out) ?_
                  clear hv0
                  simp only [List.length_cons, List.length_nil, Nat.zero_add, Any.someVals]
                  iterate 13 apply Exists.intro
                  repeat (first
                    | (refine Bny.E_off rfl ?_; simp only [Act.put, sia, scs, scz])
                    | ((with_reducible refine Bny.at_ealloc ?_); refine Bny.E_lay (t := 31) rfl rfl rfl (fun _ => rfl) ?_; intro b_29; simp only [Act.put, sia, scs, scz])
                    | ((with_reducible refine Bny.gE 31 ?_); refine Bny.eX 1001 22 19 (rowT tb (.slice da2 dn2 dk2) (.slice ba2 bn2 bk2) (.slice pa2 pn2 pk2)) Try.underlying31 infoT19 (rowP_t1 (rowT_size _ _ _ _) (rowT_size _ _ _ _)) (Nat.le_trans (by decide : 22 + 19 ≤ 44) (Nat.le_of_eq (rowP_size (rowT_size _ _ _ _) (rowT_size _ _ _ _)).symm)) ?_; simp only [Act.put, sia, scs, scz])
                    | ((with_reducible refine Bny.at_estore (T := 31) ?_); refine Bny.E_putv (T := 31) rfl rfl rfl rfl rfl rfl 19 infoT19 rfl rfl (rowT_one _ _ _ _ _ _ _ _ _ _) ?_; simp only [Act.put, sia, scs, scz])
                    | ((with_reducible refine Bny.at_ecallf (f := 13) ?_); refine Bny.E_callmem rfl rfl rfl (Go.Proofs.enters_of Try.func13 (by kernel_rfl) rfl) rfl [.agg (rowT tb (.slice da2 dn2 dk2) (.slice ba2 bn2 bk2) (.slice pa2 pn2 pk2)), .agg #[.int .i64 g.src, .int .i64 g.dst, .int .u32 g.seq, .int .u32 g.ack, .int .i64 g.fl, .int .i64 g.wnd, .slice sa sn sk], .int .u64 1] rfl HSC.out R5 (fun x hx => .inl hx) (fun w0 w L R' hm hs => by have h := Take_Q hm hs HI2.out HCK.out (nw := 1) HGG.out; exact h) ?_; rintro v R7 ⟨c3, da3, dn3, dk3, ba3, bn3, bk3, pa3, pn3, pk3, l3', ov3, he, ht3, hi3, ho3, hs3⟩; obtain rfl : v = .tuple #[.agg (rowT c3.t (.slice da3 dn3 dk3) (.slice ba3 bn3 bk3) (.slice pa3 pn3 pk3)), ov3] := he; have HT3 := Lib.hid ht3; have HI3' := Lib.hid hi3; have HO3 := Lib.hid ho3; have HS3' := Lib.hid hs3; clear ht3 hi3 ho3 hs3; simp only [Act.put, sia, scs, scz])
                    | (apply Bny.E_pureq rfl rfl rfl
                       case h => intro K hK; go_big_quiet_op; (refine hK _ ?_; rfl)
                       case hr => exact fun _ => rfl
                       simp only [Act.put, sia, scs, scz])
                    | (apply Bny.E_val rfl rfl rfl rfl
                       case h =>
                         intro E' hA K hK
                         first
                           | ((with_reducible refine Bny.at_qload (T := 42) ?_); refine Bny.q_ldv 1000 hA (by decide) rfl rfl 7 _ Try.underlying42 rfl infoG7 (by decide) rfl ?_; refine hK _ ?_; rfl)
                           | (go_big_quiet_op; first
                             | (refine hK _ ?_; rfl)
                             | (refine ⟨_, fun _ _ => rfl, ?_⟩; refine hK _ ?_; rfl)
                             | (apply Exists.intro; refine ⟨fun w1 hw1 => ?_, ?_⟩; · (first
                                 | fail)
                                refine hK _ ?_; rfl))
                       case hD => rfl
                       simp only [Act.put, sia, scs, scz]))
                  try any_goals exact undef
                  refine Bny.E_nil ?_
                  intro w9 hE9
                  have hv : Mem w w9 (((b_29, (rowT c3.t (.slice da3 dn3 dk3) (.slice ba3 bn3 bk3) (.slice pa3 pn3 pk3))) :: (b_11, (rowP (rowT ta (.slice da1 dn1 dk1) (.slice ba1 bn1 bk1) (.slice pa1 pn1 pk1)) (.slice xa1 n1 xk1) 0 (.slice ya1 yn1 yk1) (rowT tb (.slice da2 dn2 dk2) (.slice ba2 bn2 bk2) (.slice pa2 pn2 pk2)) (.slice xa7 n7 xk7) 0 (.slice ya2 yn2 yk2))) :: (s1.rows ++ (s7.rows ++ (t1.rows ++ (t2.rows ++ []))))) ++ []) R7 := hE9.mem1 [10, 1001, 1002, 1003, 1004, 1005] (by decide) 6 rfl
                  clear hE9
                  simp only [List.cons_append, List.nil_append, List.append_nil] at hv
                  have HCK3 := Lib.hid (take_kept HCK.out HT3.out).chk
                  obtain ⟨S', hk', hr'⟩ := HK.out.stepB hd hm HRK.out HT3.out
                  have HK' := Lib.hid hk'
                  have HRN' := Lib.hid hr'
                  clear hk' hr'
                  go_wp2_with (first
                    | ((with_reducible refine gLd 31 ?_); refine ldV hv b_29 19 Try.underlying31 infoT19 ?_)
                    | (go_at_call 14; (refine (Read_Q hv HI3'.out HCK3.out (n := 300)).mono ?_); rintro e w1 ⟨R8, da4, dn4, dk4, ba4, bn4, bk4, pa4, pn4, pk4, l4, ga4, gn4, gk4, ov4, rfl, hm4, hs4, hi4, ho4, hg4⟩; clear hv; have hv := hm4; clear hm4; have HS4' := Lib.hid hs4; have HI4' := Lib.hid hi4; have HO4 := Lib.hid ho4; have HGM4 := Lib.hid hg4; clear hs4 hi4 ho4 hg4)
                    | ((with_reducible refine gSt 31 ?_); refine stV hv b_29 19 infoT19 ?_ (h1 := (rowT_one _ _ _ _ _ _ _ _ _ _)); clear hv; intro w2 hv))
                  have HBG : Hid (gb.length + (Tp.read 300 c3.t).2.length ≤ 2000) := Lib.hid (by
                    have h1 := congrArg List.length HK'.out.fgb
                    rw [List.length_append, List.length_take] at h1
                    omega)
                  have HGX := Lib.hid HG2.out
                  have hv0 := Mem.cast hv (show _ = (([.row b_29 (rowT (Tp.read 300 c3.t).1.t (.slice da4 dn4 dk4) (.slice ba4 bn4 bk4) (.slice pa4 pn4 pk4)), .row b_11 (rowP (rowT ta (.slice da1 dn1 dk1) (.slice ba1 bn1 bk1) (.slice pa1 pn1 pk1)) (.slice xa1 n1 xk1) 0 (.slice ya1 yn1 yk1) (rowT tb (.slice da2 dn2 dk2) (.slice ba2 bn2 bk2) (.slice pa2 pn2 pk2)) (.slice xa7 n7 xk7) 0 (.slice ya2 yn2 yk2)), s1, s7, t1, t2] : List Bny.Slot).flatMap Bny.Slot.rows ++ []) from by simp [Bny.Slot.rows])
                  clear hv
                  try simp only [Act.put]
                  refine Bny.wp_region_walkS [.row b_29 (rowT (Tp.read 300 c3.t).1.t (.slice da4 dn4 dk4) (.slice ba4 bn4 bk4) (.slice pa4 pn4 pk4)), .row b_11 (rowP (rowT ta (.slice da1 dn1 dk1) (.slice ba1 bn1 bk1) (.slice pa1 pn1 pk1)) (.slice xa1 n1 xk1) 0 (.slice ya1 yn1 yk1) (rowT tb (.slice da2 dn2 dk2) (.slice ba2 bn2 bk2) (.slice pa2 pn2 pk2)) (.slice xa7 n7 xk7) 0 (.slice ya2 yn2 yk2)), s1, s7, t1, t2] [] [⟨[], none⟩, ⟨[], none⟩, ⟨[1000], none⟩, ⟨[], none⟩, ⟨[], none⟩, ⟨[], none⟩, ⟨[1001], none⟩, ⟨[], none⟩, ⟨[], some 1005⟩, ⟨[], none⟩, ⟨[], none⟩, ⟨[1001], some 1001⟩, ⟨[], none⟩, ⟨[], none⟩, ⟨[1001], some 1001⟩] [.val, .val, .val, .val, .val, .val, .val, .val, .slot (Bny.QS 1 (cellsB gb ++ cellsB (Tp.read 300 c3.t).2)), .val, .val, .put, .val, .val, .put] (by kernel_rfl) (by kernel_rfl) hv0 (by exact slots6 HR1.out HR2.out HR3.out HR4.out) ?_
                  clear hv0
                  simp only [List.length_cons, List.length_nil, Nat.zero_add, Any.someVals]
                  iterate 15 apply Exists.intro
                  repeat (first
                    | (refine Bny.E_off rfl ?_; simp only [Act.put, sia, scs, scz])
                    | ((with_reducible refine Bny.gE 23 ?_); refine Bny.eC 1001 (.slice ya2 yn2 yk2) Try.underlying23 ?_ (hc := rowP_g1 (rowT_size _ _ _ _) (rowT_size _ _ _ _)); simp only [Act.put, sia, scs, scz])
                    | ((with_reducible refine Bny.at_eappQ (t := 23) ?_); refine Bny.E_appQ rfl rfl rfl rfl rfl HGX.out rfl (Or.inl HGM4.out) (.int .u8 0) 1 Try.underlying23 infoBz rfl (by decide) ⟨_, (Nat.mul_one _).symm⟩ (cellsB_one _) (bdQ HBG.out).1 (bdQ HBG.out).2 ?_; intro v9 sl9 hq9; obtain ⟨o9, n9, k9, rfl, hn9⟩ := hq9.own.slice; clear hn9; have HQ9 := Lib.hid hq9; clear hq9; simp only [Act.put, sia, scs, scz])
                    | ((with_reducible refine Bny.at_estore (T := 31) ?_); refine Bny.E_putp (T := 31) (off := 22) rfl rfl rfl rfl rfl rfl 19 infoT19 rfl (by rw [rowP_size (rowT_size _ _ _ _) (rowT_size _ _ _ _)]; decide) (rowT_one _ _ _ _ _ _ _ _ _ _) (rowP_s1 (rowT_size _ _ _ _) (rowT_size _ _ _ _) (rowT_size _ _ _ _)) ?_; simp only [Act.put, sia, scs, scz])
                    | ((with_reducible refine Bny.at_estore (T := 23) ?_); refine Bny.eP 43 (rowP_set43 (rowT_size _ _ _ _) (rowT_size _ _ _ _)) (Nat.lt_of_lt_of_eq (by decide : 43 < 44) (rowP_size (rowT_size _ _ _ _) (rowT_size _ _ _ _)).symm) (by kernel_rfl) ?_; simp only [Act.put, sia, scs, scz])
                    | (apply Bny.E_pureq rfl rfl rfl
                       case h => intro K hK; go_big_quiet_op; (refine hK _ ?_; rfl)
                       case hr => exact fun _ => rfl
                       simp only [Act.put, sia, scs, scz])
                    | (apply Bny.E_val rfl rfl rfl rfl
                       case h =>
                         intro E' hA K hK
                         first
                           | ((with_reducible refine Bny.at_qload (T := 31) ?_); refine Bny.q_ldv 1000 hA (by decide) rfl rfl 19 _ Try.underlying31 rfl infoT19 (by decide) rfl ?_; refine hK _ ?_; rfl)
                           | (go_big_quiet_op; first
                             | (refine hK _ ?_; rfl)
                             | (refine ⟨_, fun _ _ => rfl, ?_⟩; refine hK _ ?_; rfl)
                             | (apply Exists.intro; refine ⟨fun w1 hw1 => ?_, ?_⟩; · (first
                                 | fail)
                                refine hK _ ?_; rfl))
                       case hD => rfl
                       simp only [Act.put, sia, scs, scz]))
                  try any_goals exact undef
                  refine Bny.E_nil ?_
                  intro w9 hE9
                  have hv : Mem w w9 (((b_11, (rowP (rowT ta (.slice da1 dn1 dk1) (.slice ba1 bn1 bk1) (.slice pa1 pn1 pk1)) (.slice xa1 n1 xk1) 0 (.slice ya1 yn1 yk1) (rowT (Tp.read 300 c3.t).1.t (.slice da4 dn4 dk4) (.slice ba4 bn4 bk4) (.slice pa4 pn4 pk4)) (.slice xa7 n7 xk7) 0 (.slice o9 n9 k9))) :: (s1.rows ++ (s7.rows ++ (t1.rows ++ (sl9.rows ++ []))))) ++ []) R8 := hE9.mem0 [1001, 1002, 1003, 1004, 1005] (by decide)
                  clear hE9
                  simp only [List.cons_append, List.nil_append, List.append_nil] at hv
                  have HO34 := Lib.hid (HO3.out.mono HS4'.out)
                  have HQO4 := Lib.hid ((HQO.out.mono HS3'.out).mono HS4'.out)
                  have HB31 : Hid (qa.length + c3.out.length ≤ 100000) := Lib.hid (by have h1 := HLN.out; have h2 := take_len HT3.out; omega)
                  have HB32 : Hid ((qa ++ c3.out).length + (Tp.read 300 c3.t).1.out.length ≤ 100000) := Lib.hid (by have h1 := HLN.out; have h2 := take_len HT3.out; have h3 := read_len 300 c3.t; rw [List.length_append]; omega)
                  go_wp2_with (first
                    | ((with_reducible refine gLd 32 ?_); refine ldC hv b_11 19 (.slice xa1 n1 xk1) Try.underlying32 ?_ (hc := rowP_i0 (rowT_size _ _ _ _)))
                    | ((with_reducible refine at_append (t := 32) (dst := some 184) ?_); refine wl_appG rfl rfl rfl HQO4.out hv.q1 Try.underlying32 infoGz HO34.out HB31.out ?_; intro xa5 n5 xk5 w5 s5 hn5 hq5 hv5; clear hv; have hv := hv5; clear hv5; simp only [List.append_assoc, List.cons_append, List.nil_append] at hv; have HQ5 := Lib.hid hq5; clear hq5 hn5)
                    | ((with_reducible refine at_append (t := 32) (dst := some 186) ?_); refine wl_appG rfl rfl rfl HQ5.out hv.q1 Try.underlying32 infoGz HO4.out HB32.out ?_; intro xa6 n6 xk6 w6 s6 hn6 hq6 hv6; clear hv; have hv := hv6; clear hv6; simp only [List.append_assoc, List.cons_append, List.nil_append] at hv; have HQ6 := Lib.hid hq6; clear hq6 hn6)
                    | ((with_reducible refine gSt 32 ?_); refine stC hv b_11 19 (.slice xa6 n6 xk6) ?_ (hs := ⟨SetM.z, rowP_set19 (rowT_size _ _ _ _) (rowT_size _ _ _ _)⟩) (h0 := by rw [rowP_size (rowT_size _ _ _ _) (rowT_size _ _ _ _)]; decide); clear hv; intro w2 hv))
                  refine ⟨?rel, ?measure⟩
                  case rel =>
                    refine ⟨n + 1, S', ta, (Tp.read 300 c3.t).1.t, qa ++ c3.out ++ (Tp.read 300 c3.t).1.out, r, ga, gb ++ (Tp.read 300 c3.t).2, R8, rfl, by omega, ⟨da1, dn1, dk1, ba1, bn1, bk1, pa1, pn1, pk1, l1, da4, dn4, dk4, ba4, bn4, bk4, pa4, pn4, pk4, l4, _, _, _, _, s6, s7, t1, sl9, hv, (HI1.out.mono HS3'.out).mono HS4'.out, HI4'.out, HQ6.out, (HQ7.out.mono HS3'.out).mono HS4'.out, HG1.out, (by have h := HQ9.out; rwa [← cellsB_appQ] at h)⟩, HK', Lib.hid (by rw [show 200 - (n + 1) = 199 - n from by omega]; exact HRN'.out), Lib.hid (fun x hx => HS4'.out x (HS3'.out x (HS.out x hx)))⟩
                  case measure =>
                    show 200 - ((n : Int) + 1).toNat < 200 - ((n : Nat) : Int).toNat
                    omega

              · have y7 : decide ((n : Int) < 200) = false := decide_eq_false (by omega)
                have z7 : decide (n < 200) = false := decide_eq_false hn
                have hSF : S = F := by
                  have h := HRN.out
                  rw [show 200 - n = 0 from by omega] at h
                  exact h.zero.1
                go_wp2
                refine ⟨?rel, ?measure⟩
                case rel =>
                  first
                    | exact ⟨S, ta, tb, _, _, ga, gb, R5, ⟨da1, dn1, dk1, ba1, bn1, bk1, pa1, pn1, pk1, l1, da2, dn2, dk2, ba2, bn2, bk2, pa2, pn2, pk2, l2, _, _, _, _, s1, s2, t1, t2, hv, HI1.out, HI2.out, hQ1, hQ2, hG1, hG2⟩, HK, .inl (.inr ⟨rfl, hSF.trans HF.out⟩), HS⟩
                    | exact ⟨S, ta, tb, _, _, ga, gb, R5, ⟨da1, dn1, dk1, ba1, bn1, bk1, pa1, pn1, pk1, l1, da2, dn2, dk2, ba2, bn2, bk2, pa2, pn2, pk2, l2, _, _, _, _, s1, s2, t1, t2, hv, HI1.out, HI2.out, hQ1, hQ2, hG1, hG2⟩, HK, .inr ⟨rfl, hSF.trans HF.out⟩, HS⟩
                    | (repeat apply Exists.intro
                       refine ⟨?r2, rfl⟩
                       first
                         | exact ⟨S, ta, tb, _, _, ga, gb, R5, ⟨da1, dn1, dk1, ba1, bn1, bk1, pa1, pn1, pk1, l1, da2, dn2, dk2, ba2, bn2, bk2, pa2, pn2, pk2, l2, _, _, _, _, s1, s2, t1, t2, hv, HI1.out, HI2.out, hQ1, hQ2, hG1, hG2⟩, HK, .inl (.inr ⟨rfl, hSF.trans HF.out⟩), HS⟩
                         | exact ⟨S, ta, tb, _, _, ga, gb, R5, ⟨da1, dn1, dk1, ba1, bn1, bk1, pa1, pn1, pk1, l1, da2, dn2, dk2, ba2, bn2, bk2, pa2, pn2, pk2, l2, _, _, _, _, s1, s2, t1, t2, hv, HI1.out, HI2.out, hQ1, hQ2, hG1, hG2⟩, HK, .inr ⟨rfl, hSF.trans HF.out⟩, HS⟩)
                case measure =>
                  first
                    | (show 2 - (1 : Int).toNat < 2 - (0 : Int).toNat; decide)
                    | (show 2 - (2 : Int).toNat < 2 - (1 : Int).toNat; decide))
     · as_aux_lemma =>
       obtain ⟨e1, e2, e3, e4, e5, e6, e7, e8⟩ := HK.out.fine HC5.out
       have HE1 := Lib.hid e1
       have HE2 := Lib.hid e2
       have y11 : ((ta.er : Int) == 0) = true := by rw [e5]; rfl
       have y12 : ((tb.er : Int) == 0) = true := by rw [e6]; rfl
       have hv8 := hG2.own.yield (A := (b_11, (rowP (rowT ta (.slice da1 dn1 dk1) (.slice ba1 bn1 bk1) (.slice pa1 pn1 pk1)) (x1) 0 (.slice ya1 yn1 yk1) (rowT tb (.slice da2 dn2 dk2) (.slice ba2 bn2 bk2) (.slice pa2 pn2 pk2)) (x2) 0 (.slice ya2 yn2 yk2))) :: (s1.rows ++ (s2.rows ++ t1.rows))) (B := []) (hv.castL (by simp))
       have hv9 := hG1.own.yield (A := (b_11, (rowP (rowT ta (.slice da1 dn1 dk1) (.slice ba1 bn1 bk1) (.slice pa1 pn1 pk1)) (x1) 0 (.slice ya1 yn1 yk1) (rowT tb (.slice da2 dn2 dk2) (.slice ba2 bn2 bk2) (.slice pa2 pn2 pk2)) (x2) 0 (.slice ya2 yn2 yk2))) :: (s1.rows ++ s2.rows)) (B := []) (hv8.castL (by simp))
       obtain ⟨R6, hR6⟩ : ∃ R6, R6 = (1, Value.slice ya1 yn1 yk1, cellsB ga) :: (1, Value.slice ya2 yn2 yk2, cellsB gb) :: R5 := ⟨_, rfl⟩
       rw [← hR6] at hv9
       have HG1R : Hid ((1, Value.slice ya1 yn1 yk1, cellsB more) ∈ R6) := Lib.hid (by rw [hR6, ← e7]; exact Mem.z)
       have HG2R : Hid ((1, Value.slice ya2 yn2 yk2, cellsB data) ∈ R6) := Lib.hid (by rw [hR6, ← e8]; exact Mem.s Mem.z)
       have HAM5 : Hid ((1, .slice aa an ac, cellsB data) ∈ R6) := Lib.hid (by rw [hR6]; exact Mem.s (Mem.s (HS.out _ HAM.out)))
       have HMM5 : Hid ((1, .slice ma mn mc, cellsB more) ∈ R6) := Lib.hid (by rw [hR6]; exact Mem.s (Mem.s (HS.out _ HMM.out)))
       have HED1 := Lib.hid e3
       have HED2 := Lib.hid e4
       clear hv hv8
       have hv := hv9
       clear hv9 hR6 e1 e2 e3 e4 e5 e6 e7 e8 hG1 hG2 hQ1 hQ2 HI1 HI2
       simp only [List.append_nil, List.cons_append] at hv
       go_wp2_with (first
         | ((with_reducible refine at_load (T := 31) ?_); refine wl_ldp rfl b_11 0 rfl _ hv.vars.ro 19 _ Try.underlying31 rfl infoT19 (by decide) (by rw [rowP_size (rowT_size _ _ _ _) (rowT_size _ _ _ _)]; decide) (rowT ta (.slice da1 dn1 dk1) (.slice ba1 bn1 bk1) (.slice pa1 pn1 pk1)) (rowP_t0 (rowT_size _ _ _ _) (rowT_size _ _ _ _)) ?_)
         | ((with_reducible refine at_load (T := 31) ?_); refine wl_ldp rfl b_11 22 rfl _ hv.vars.ro 19 _ Try.underlying31 rfl infoT19 (by decide) (by rw [rowP_size (rowT_size _ _ _ _) (rowT_size _ _ _ _)]; decide) (rowT tb (.slice da2 dn2 dk2) (.slice ba2 bn2 bk2) (.slice pa2 pn2 pk2)) (rowP_t1 (rowT_size _ _ _ _) (rowT_size _ _ _ _)) ?_)
         | (go_at_call 15; (with_reducible refine (over_any HE1.out _).mono ?_); rintro e w1 ⟨rfl, hn1⟩; replace hv := hv.new hn1; clear hn1)
         | (go_at_call 15; (with_reducible refine (over_any HE2.out _).mono ?_); rintro e w1 ⟨rfl, hn1⟩; replace hv := hv.new hn1; clear hn1)
         | ((with_reducible refine gLd 4 ?_); refine ldC hv b_11 14 (.bool true) Try.underlying4 ?_ (hc := (rowP_a (rowT_size _ _ _ _) (by decide)).trans (congrArg (fun b => some (Value.bool b)) HED1.out)))
         | ((with_reducible refine gLd 4 ?_); refine ldC hv b_11 36 (.bool true) Try.underlying4 ?_ (hc := (rowP_b (rowT_size _ _ _ _) (rowT_size _ _ _ _) (k := 14) (by decide)).trans (congrArg (fun b => some (Value.bool b)) HED2.out)))
         | ((with_reducible refine gLd 29 ?_); refine ldC hv b_11 18 (.int .i64 ta.er) Try.underlying29 ?_ (hc := (rowP_a (rowT_size _ _ _ _) (by decide)).trans rfl))
         | ((with_reducible refine gLd 29 ?_); refine ldC hv b_11 40 (.int .i64 tb.er) Try.underlying29 ?_ (hc := (rowP_b (rowT_size _ _ _ _) (rowT_size _ _ _ _) (k := 18) (by decide)).trans rfl))
         | ((with_reducible refine gLd 23 ?_); refine ldC hv b_11 43 (.slice ya2 yn2 yk2) Try.underlying23 ?_ (hc := rowP_g1 (rowT_size _ _ _ _) (rowT_size _ _ _ _)))
         | ((with_reducible refine gLd 23 ?_); refine ldC hv b_11 21 (.slice ya1 yn1 yk1) Try.underlying23 ?_ (hc := rowP_g0 (rowT_size _ _ _ _)))
         | (go_at_call 16; (refine (Bytes_Q _ _ _ _ (hv.rd HG2R.out) (hv.rd HAM5.out) HGA.out).mono ?_); rintro e w1 ⟨rfl, rfl⟩)
         | (go_at_call 16; (refine (Bytes_Q _ _ _ _ (hv.rd HG1R.out) (hv.rd HMM5.out) HGM.out).mono ?_); rintro e w1 ⟨rfl, rfl⟩)
         | (go_at_call 9; (with_reducible refine (heads26 _).mono ?_); rintro e w1 ⟨rfl, hn1⟩; replace hv := hv.new hn1; clear hn1))
       go_ret
       exact ⟨rfl, hv.below⟩
theorem TcpEnds_any {W : World} {av mv : Value} {data more : List Nat} {f : Bool} (ha : Rd W 1 av (cellsB data)) (hga : goodB data) (hm : Rd W 1 mv (cellsB more)) (hgm : goodB more) {iss irs : Nat} (his : iss < 4294967296) (hir : irs < 4294967296) : Calls Try.prog 3 #[.int .u32 iss, .int .u32 irs, av, mv, .bool f] W fun e w' => e = .returned (.bool true) ∧ New W w' := by
 obtain ⟨aa, an, ac, rfl, _⟩ := id ha
 obtain ⟨ma, mn, mc, rfl, _⟩ := id hm
 obtain ⟨R, hR⟩ : ∃ R : LR, R = [(1, .slice aa an ac, cellsB data), (1, .slice ma mn mc, cellsB more)] := ⟨_, rfl⟩
 have hv : Mem W W [] R := Mem.all (fun x hx => by
   subst hR
   rcases List.mem_cons.1 hx with rfl | hx
   · exact ha
   · rw [List.mem_singleton.1 hx]; exact hm)
 have h1 : (1, Value.slice aa an ac, cellsB data) ∈ R := by subst hR; exact Mem.z
 have h2 : (1, Value.slice ma mn mc, cellsB more) ∈ R := by subst hR; exact Mem.s Mem.z
 by_cases h0 : 100 < an
 · exact Ends_a aa ma an ac mn mc iss irs data more f W R hv h1 h2 h0
 · by_cases h3 : 100 < mn
   · exact Ends_b aa ma an ac mn mc iss irs data more f W R hv h1 h2 h0 h3
   · exact Ends_c aa ma an ac mn mc iss irs data more f W R hv h1 h2 hga hgm his hir h0 h3
end Go.Proofs.Ythenepdbgeafkaa
