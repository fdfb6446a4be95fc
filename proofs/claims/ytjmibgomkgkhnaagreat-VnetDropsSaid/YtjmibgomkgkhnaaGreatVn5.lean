/-
 A card behind two rings (layer 10): a frame that came is taken.
-/
import Derived.Test.YtjmibgomkgkhnaaGreatVn4
set_option maxRecDepth 100000
set_option maxHeartbeats 16000000
set_option linter.unusedVariables false
set_option linter.unusedSimpArgs false
namespace Go.Proofs.Qu
open Go Go.RowKit Go.Proofs.Nm
theorem getD1 (x : Nat) : ([x] : List Nat).getD 0 0 = x := rfl
def GetNW (R0 : List (Nat × Value × List Value)) (n : Nat) (D : List Nat) (v : Value) (R' : List (Nat × Value × List Value)) : Prop := ∃ gv, v = .tuple #[gv, .int .i64 0] ∧ (0 < n → ∃ gb gc : Nat, gv = .slice (some ⟨gb, 0, none⟩) n gc ∧ (1, gv, cellsB D) ∈ R') ∧ ∀ x ∈ R0, x ∈ R'
end Go.Proofs.Qu
namespace Go.Proofs.YtjmibgomkgkhnaaGreat
open Go.Proofs.Qu Go.Proofs.Nm Go.RowKit Go.Proofs
theorem Get_N {w0 w : World} {L : List (Nat × Array Value)} {R R0 : List (Nat × Value × List Value)} (hv : Mem w0 w L R) (hR : ∀ x ∈ R0, x ∈ R) {vb vc n : Nat} {M D : List Nat} (hm : InM R0 vb 0 1900 vc M) (pi : Int) (p : Nat) (hpi : pi = (p : Nat)) (hp : p + n ≤ 1900) (hg : getB M p n = D) : Calls Tryz.prog 27 #[.agg #[.slice (some ⟨vb, 0, none⟩) 1900 vc], .int .i64 pi, .int .i64 n] w fun e w' => ∃ v R', e = .returned v ∧ GetNW R0 n D v R' ∧ Mem w0 w' L R' ∧ ∀ x ∈ R, x ∈ R' := by
 subst hpi
 by_cases h0 : 0 < n
 · refine (Get_ok hv (hm.mono hR) p n h0 hp).mono ?_
   rintro e w' ⟨b, c, R', rfl, hv1, hi, hs⟩
   rw [hg] at hi
   exact ⟨_, R', rfl, ⟨_, rfl, fun _ => ⟨b, c, rfl, hi⟩, fun x hx => hs x (hR x hx)⟩, hv1, hs⟩
 · obtain rfl : n = 0 := by omega
   refine (Get_zero hv (hm.mono hR) p (by omega)).mono ?_
   rintro e w' ⟨u, rfl, hn⟩
   exact ⟨_, R, rfl, ⟨u, rfl, fun h => absurd h h0, hR⟩, hv.new hn, fun x hx => hx⟩
theorem Poll_r {w0 w : World} {L : List (Nat × Array Value)} {R : List (Nat × Value × List Value)} (hv : Mem w0 w L R) {vb vc rfc rcc rav la us ah hd n la1 : Nat} {rfa rca : Option Addr} {M : List Nat} {c0 : Chn} {rest : List Chn} (hm : InM R vb 0 1900 vc M) (hq : InQ R (.slice rfa 0 rfc) (.slice rca 4 rcc) [] (c0 :: rest)) (ho : OkQ 4 [] (c0 :: rest)) (hus : getN M (0 + (backN 4 + 2)) 2 = us) (hah : (us + 65536 - la) % 65536 = ah) (hla : la + 1 < 65536) (hah0 : ah ≠ 0) (hah4 : ah ≤ 4) (hid : getN M (0 + (backN 4 + (4 + 8 * (la % 4)))) 4 = hd) (hlen : getN M (0 + (backN 4 + (4 + 8 * (la % 4))) + 4) 4 = n) (hch : c0.h = hd) (hcd : c0.ds = [hd]) (hrm : n ≤ c0.rm) (hla1 : la + 1 = la1) : Calls Tryz.prog 32 #[.agg #[.slice (some ⟨vb, 0, none⟩) 1900 vc], .agg #[.int .i64 0, .int .i64 4, .slice rfa 0 rfc, .int .u16 rav, .int .u16 la, .slice rca 4 rcc]] w fun e w' => ∃ fc cc fa ca R', e = .returned (.tuple #[.agg #[.int .i64 0, .int .i64 4, .slice fa 1 fc, .int .u16 rav, .int .u16 la1, .slice ca 3 cc], .int .i64 hd, .int .i64 n, .int .i64 0]) ∧ Mem w0 w' L R' ∧ InQ R' (.slice fa 1 fc) (.slice ca 3 cc) [hd] rest ∧ OkQ 4 [hd] rest ∧ ∀ x ∈ R, x ∈ R' := by
 have hcl : (c0 :: rest).length = 4 := by
   obtain ⟨_, _, _, e, g, _⟩ := hv.rd hq.ch
   cases e
   rw [cellsC_len] at g; omega
 refine (Poll_D (base := 0) (n := 4) (av := rav) (la := la) hv ⟨hm, hq, ho⟩ (by decide) (us := us) (ah := ah) hus hah (by omega) hah0 (by rw [hcl]; exact hah4) (id_ := hd) (len_ := n) hid hlen (at_ := 0) (c := c0) (idxF_some (k := 0) (x := c0) rfl (by rw [hch]; exact beq_self_eq_true _) (fun j hj => absurd hj (Nat.not_lt_zero _))) rfl hrm).mono ?_
 rintro e w' ⟨fa', fc', ca', cc', free', R', rfl, hv1, hd1, hp, hs, hr⟩
 rw [hcd, List.nil_append] at hp
 obtain rfl := List.perm_singleton.1 hp
 rw [hcl, hcd] at hd1 ⊢
 rw [Nat.mod_eq_of_lt hla, hla1]
 exact ⟨fc', cc', fa', ca', R', rfl, hv1, hd1.q, hd1.ok, hr⟩
theorem Take_0_yes {w0 w : World} {L : List (Nat × Array Value)} {R : List (Nat × Value × List Value)} (hv : Mem w0 w L R) {rav la us ah hd n av1 la1 tav tla rfc rcc tfn tfc tcn tcc vb vc : Nat} {rfa rca tfa tca : Option Addr} {tfree : List Nat} {c0 : Chn} {rest tchs : List Chn} {i0 i1 i2 i3 o0 o1 o2 o3 : Nat} {M D : List Nat} (hn : NetQ R (.slice rfa 0 rfc) (.slice rca 4 rcc) (.slice tfa tfn tfc) (.slice tca tcn tcc) [] (c0 :: rest) tfree tchs [i0, i1, i2, i3] [o0, o1, o2, o3]) (hm : InM R vb 0 1900 vc M) (hus : getN M (0 + (backN 4 + 2)) 2 = us) (hah : (us + 65536 - la) % 65536 = ah) (hla : la + 1 < 65536) (hah0 : ah ≠ 0) (hah4 : ah ≤ 4) (hid : getN M (0 + (backN 4 + (4 + 8 * (la % 4)))) 4 = hd) (hlen : getN M (0 + (backN 4 + (4 + 8 * (la % 4))) + 4) 4 = n) (hch : c0.h = hd) (hcd : c0.ds = [hd]) (hrm : n ≤ c0.rm) (hla1 : la + 1 = la1) (hav : rav < 65535) (hav1 : rav + 1 = av1) (hd0 : hd = 0) (hih : hd + 1 = i0) (hi : idxF (· == hd + 1) [i0, i1, i2, i3] = 0) (hg : getB M 300 n = D) (hn192 : n ≤ 192) (hn1 : 1 ≤ n) (hn2 : n ≤ 180) :
   Calls Tryz.prog 11 #[.agg #[.slice (some ⟨vb, 0, none⟩) 1900 vc], .agg #[.int .i64 0, .int .i64 4, .slice rfa 0 rfc, .int .u16 rav, .int .u16 la, .slice rca 4 rcc, .int .i64 120, .int .i64 4, .slice tfa tfn tfc, .int .u16 tav, .int .u16 tla, .slice tca tcn tcc, .int .i64 300, .int .i64 i0, .int .i64 i1, .int .i64 i2, .int .i64 i3, .int .i64 o0, .int .i64 o1, .int .i64 o2, .int .i64 o3]] w fun e w' => ∃ vb5 vc5 fc5 cc5 fa5 ca5 c5 R5 gb gc, e = .returned (.tuple #[.agg #[.slice (some ⟨vb5, 0, none⟩) 1900 vc5], .agg #[.int .i64 0, .int .i64 4, .slice fa5 0 fc5, .int .u16 av1, .int .u16 la1, .slice ca5 4 cc5, .int .i64 120, .int .i64 4, .slice tfa tfn tfc, .int .u16 tav, .int .u16 tla, .slice tca tcn tcc, .int .i64 300, .int .i64 i0, .int .i64 i1, .int .i64 i2, .int .i64 i3, .int .i64 o0, .int .i64 o1, .int .i64 o2, .int .i64 o3], .slice (some ⟨gb, 0, none⟩) n gc, .int .i64 0]) ∧ Mem w0 w' L R5 ∧ InM R5 vb5 0 1900 vc5 (addM M 0 4 rav [0] [(300, 192, true)]) ∧ InQ R5 (.slice fa5 0 fc5) (.slice ca5 4 cc5) [] (rest ++ [c5]) ∧ OkQ 4 [] (rest ++ [c5]) ∧ c5.h = 0 ∧ c5.ds = [0] ∧ c5.rm = 192 ∧ (1, .slice (some ⟨gb, 0, none⟩) n gc, cellsB D) ∈ R5 ∧ ∀ x ∈ R, x ∈ R5 := by
 have HN := Lib.hid hn
 have HM := Lib.hid hm
 have HUS := Lib.hid hus
 have HAH := Lib.hid hah
 have HLA := Lib.hid hla
 have HAH0 := Lib.hid hah0
 have HAH4 := Lib.hid hah4
 have HID := Lib.hid hid
 have HLEN := Lib.hid hlen
 have HCH := Lib.hid hch
 have HCD := Lib.hid hcd
 have HRM := Lib.hid hrm
 have HLA1 := Lib.hid hla1
 have HAV := Lib.hid hav
 have HAV1 := Lib.hid hav1
 have HX := Lib.hid hih
 have HI := Lib.hid hi
 have HGB := Lib.hid hg
 have HDH := Lib.hid hd0
 have HH1 : Hid (hd ≤ 1000) := Lib.hid (by omega)
 have HH2 : Hid (hd < 1000) := Lib.hid (by omega)
 have HP9 : Hid (300 + n ≤ 1900) := Lib.hid (by omega)
 have HN0 : Hid (0 < n) := Lib.hid (by omega)
 have y1 : decide ((n : Int) < 1) = false := decide_eq_false (by omega)
 have z1 : decide (n < 1) = false := decide_eq_false (by omega)
 have y2 : decide ((180 : Int) < (n : Int)) = false := decide_eq_false (by omega)
 have z2 : decide (180 < n) = false := decide_eq_false (by omega)
 clear hn hm hus hah hla hah0 hah4 hid hlen hch hcd hrm hla1 hav hav1 hih hi hg hd0 hn192 hn1 hn2
 go_enter Tryz.func11, Tryz.ntmps11
 go_wp2_with (first
   | ((with_reducible refine at_box (T := 26) (dst := some 2) ?_); refine wl_newb rfl #[.slice (some ⟨vb, 0, none⟩) 1900 vc] 26 (fun _ => rfl) ?_; intro b_2 w2 hm2; replace hv := hv.madeAt hm2; clear hm2)
   | ((with_reducible refine at_box (T := 33) (dst := some 3) ?_); refine wl_newb rfl #[.int .i64 0, .int .i64 4, .slice rfa 0 rfc, .int .u16 rav, .int .u16 la, .slice rca 4 rcc, .int .i64 120, .int .i64 4, .slice tfa tfn tfc, .int .u16 tav, .int .u16 tla, .slice tca tcn tcc, .int .i64 300, .int .i64 i0, .int .i64 i1, .int .i64 i2, .int .i64 i3, .int .i64 o0, .int .i64 o1, .int .i64 o2, .int .i64 o3] 33 (fun _ => rfl) ?_; intro b_3 w2 hm2; replace hv := hv.madeAt hm2; clear hm2)
   | ((with_reducible refine at_alloc (T := 26) (dst := some 4) ?_); refine wl_newb rfl #[.slice none 0 0] 26 (fun _ => rfl) ?_; intro b_4 w2 hm2; replace hv := hv.madeAt hm2; clear hm2)
   | ((with_reducible refine at_alloc (T := 33) (dst := some 5) ?_); refine wl_newb rfl #[.int .i64 0, .int .i64 0, .slice none 0 0, .int .u16 0, .int .u16 0, .slice none 0 0, .int .i64 0, .int .i64 0, .slice none 0 0, .int .u16 0, .int .u16 0, .slice none 0 0, .int .i64 0, .int .i64 0, .int .i64 0, .int .i64 0, .int .i64 0, .int .i64 0, .int .i64 0, .int .i64 0, .int .i64 0] 33 (fun _ => rfl) ?_; intro b_5 w2 hm2; replace hv := hv.madeAt hm2; clear hm2)
   | ((with_reducible refine at_load (T := 33) ?_); refine wl_ldv rfl b_3 rfl _ hv.vars.ro 21 _ Tryz.underlying33 rfl infoN (by decide) rfl ?_)
   | (go_at_call 12; (with_reducible refine (NCheck_ok hv HN.out).mono ?_); rintro e w1 ⟨rfl, hn1⟩; replace hv := hv.new hn1; clear hn1)
   | ((with_reducible refine at_load (T := 26) ?_); refine wl_ldv rfl b_2 rfl _ hv.vars.ro 1 _ Tryz.underlying26 rfl infoM (by decide) rfl ?_)
   | ((with_reducible refine at_load (T := 30) ?_); refine wl_ldp rfl b_3 0 rfl _ hv.vars.ro 6 _ Tryz.underlying30 rfl infoQ (by decide) (by show 0 + 6 ≤ 21; decide) #[.int .i64 0, .int .i64 4, .slice rfa 0 rfc, .int .u16 rav, .int .u16 la, .slice rca 4 rcc] rfl ?_)
   | (go_at_call 32; (with_reducible refine (Poll_r hv HM.out HN.out.rq HN.out.ro HUS.out HAH.out HLA.out HAH0.out HAH4.out HID.out HLEN.out HCH.out HCD.out HRM.out HLA1.out).mono ?_); rintro e w1 ⟨fc3, cc3, fa3, ca3, R3, rfl, hv1, hq3, ho3, hs3⟩; replace hv := hv1; have HQ3 := Lib.hid hq3; have HO3 := Lib.hid ho3; have HS3 := Lib.hid hs3; clear hv1 hq3 ho3 hs3)
   | ((with_reducible refine at_alloc (T := 30) (dst := some 8) ?_); refine wl_newb rfl #[.int .i64 0, .int .i64 0, .slice none 0 0, .int .u16 0, .int .u16 0, .slice none 0 0] 30 (fun _ => rfl) ?_; intro b_8 w2 hm2; replace hv := hv.madeAt hm2; clear hm2)
   | ((with_reducible refine at_store (T := 30) ?_); refine wl_stv rfl b_8 rfl _ rfl _ hv.vars.ro hv.vars.so 6 infoQ rfl rfl (by simp [Value.oneCell']) ?_; intro w2 hw2; replace hv := hv.sets (by repeat first | exact .z | apply SetM.s) hw2; clear hw2)
   | ((with_reducible refine at_load (T := 30) ?_); refine wl_ldv rfl b_8 rfl _ hv.vars.ro 6 _ Tryz.underlying30 rfl infoQ (by decide) rfl ?_)
   | ((with_reducible refine at_store (T := 30) ?_); refine wl_stp rfl b_3 0 rfl _ rfl _ hv.vars.ro hv.vars.so 6 infoQ rfl (by show 0 + 6 ≤ 21; decide) (by simp [Value.oneCell']) #[.int .i64 0, .int .i64 4, .slice fa3 1 fc3, .int .u16 rav, .int .u16 la1, .slice ca3 3 cc3, .int .i64 120, .int .i64 4, .slice tfa tfn tfc, .int .u16 tav, .int .u16 tla, .slice tca tcn tcc, .int .i64 300, .int .i64 i0, .int .i64 i1, .int .i64 i2, .int .i64 i3, .int .i64 o0, .int .i64 o1, .int .i64 o2, .int .i64 o3] (splice_21_0_6 _ _ _ _ _ _ _ _ _ _ _ _ _ _ _ _ _ _ _ _ _ _ _ _ _ _ _) ?_; intro w2 hw2; replace hv := hv.sets (by repeat first | exact .z | apply SetM.s) hw2; clear hw2)
   | ((with_reducible refine at_load (T := 31) ?_); refine wl_ldp rfl b_3 13 rfl _ hv.vars.ro 4 _ Tryz.underlying31 rfl infoA4 (by decide) (by show 13 + 4 ≤ 21; decide) #[.int .i64 i0, .int .i64 i1, .int .i64 i2, .int .i64 i3] rfl ?_)
   | (go_at_call 33; (with_reducible refine (of_any i0 i1 i2 i3 hd HN.out.bl HH1.out _).mono ?_); rw [HI.out]; rintro e w1 ⟨rfl, hn1⟩; replace hv := hv.new hn1; clear hn1)
   | ((with_reducible refine at_store (T := 3) ?_); refine wl_stc rfl b_3 13 rfl (.int .i64 0) rfl _ hv.vars.ro hv.vars.so (by kernel_rfl) rfl (by show 13 < 21; decide) ?_; intro w2 hw2; replace hv := hv.sets (by repeat first | exact .z | apply SetM.s) hw2; clear hw2; simp only [sia, scs, scz] at hv))
 have HM3 : Hid (InM R3 vb 0 1900 vc M) := Lib.hid (HM.out.mono HS3.out)
 have HSO : Hid (∃ v R', GetNW R3 n D v R') := Lib.hid (Bny.some_of (Get_N hv (fun x hx => hx) HM3.out 300 300 rfl HP9.out HGB.out))
 replace hv : Mem w0 _ ([(b_8, _), (b_5, _), (b_4, _), (b_3, _), (b_2, _)] ++ L) R3 := hv
 try simp only [Act.put]
 refine Bny.wp_region_walk _ _ [⟨[1004], none⟩, ⟨[1003], none⟩, ⟨[], none⟩, ⟨[], none⟩, ⟨[], none⟩, ⟨[], some 5⟩, ⟨[], none⟩, ⟨[], none⟩, ⟨[], none⟩, ⟨[], none⟩, ⟨[], none⟩] [.val, .val, .val, .val, .val, .mem (GetNW R3 n D), .pure, .pure, .pure, .pure, .pure] (by kernel_rfl) (by kernel_rfl) hv ?_
 simp only [List.length_cons, List.length_nil, Nat.zero_add, Any.someVals]
 iterate 11 apply Exists.intro
 repeat (first
   | (refine Bny.E_off rfl ?_; simp only [Act.put, sia, scs, scz])
   | ((with_reducible refine Bny.at_ecallf (f := 27) ?_); refine Bny.E_callmem rfl rfl rfl (Go.Proofs.enters_of Tryz.func27 (by kernel_rfl) rfl) rfl [.agg #[.slice (some ⟨vb, 0, none⟩) 1900 vc], .int .i64 300, .int .i64 n] rfl HSO.out R3 (fun x hx => .inl hx) (fun w0 w L R' hm hs => Get_N hm hs HM3.out 300 300 rfl HP9.out HGB.out) ?_; rintro v R4 ⟨gv, rfl, hg4, hs4⟩; have HG4 := Lib.hid hg4; have HS4 := Lib.hid hs4; clear hg4 hs4; simp only [Act.put, sia, scs, scz])
   | (apply Bny.E_pureq rfl rfl rfl
      case h => intro K hK; go_big_quiet_op; (refine hK _ ?_; rfl)
      case hr => exact fun _ => rfl
      simp only [Act.put, sia, scs, scz])
   | (apply Bny.E_val rfl rfl rfl rfl
      case h =>
        intro E' hA K hK
        first
          | ((with_reducible refine Bny.at_qload (T := 26) ?_); refine Bny.q_ldv 1004 hA (by decide) rfl rfl 1 _ Tryz.underlying26 rfl infoM (by decide) rfl ?_; refine hK _ ?_; rfl)
          | ((with_reducible refine Bny.at_qload (T := 33) ?_); refine Bny.q_ldv 1003 hA (by decide) rfl rfl 21 _ Tryz.underlying33 rfl infoN (by decide) rfl ?_; refine hK _ ?_; rfl)
          | (go_big_quiet_op; first
            | (refine hK _ ?_; rfl)
            | (refine ⟨_, fun _ _ => rfl, ?_⟩; refine hK _ ?_; rfl)
            | (apply Exists.intro; refine ⟨fun w1 hw1 => ?_, ?_⟩; · (first
                | (go_at_call 34; exact Bny.calls_VE (inc_0 _) hw1))
               refine hK _ ?_; rfl))
      case hD => rfl
      simp only [Act.put, sia, scs, scz]))
 try any_goals exact undef
 refine Bny.E_nil ?_
 intro w9 hE9
 replace hv : Mem w0 w9 ([(b_8, #[.int .i64 0, .int .i64 4, .slice fa3 1 fc3, .int .u16 rav, .int .u16 la1, .slice ca3 3 cc3]), (b_5, #[.int .i64 0, .int .i64 0, .slice none 0 0, .int .u16 0, .int .u16 0, .slice none 0 0, .int .i64 0, .int .i64 0, .slice none 0 0, .int .u16 0, .int .u16 0, .slice none 0 0, .int .i64 0, .int .i64 0, .int .i64 0, .int .i64 0, .int .i64 0, .int .i64 0, .int .i64 0, .int .i64 0, .int .i64 0]), (b_4, #[.slice none 0 0]), (b_3, #[.int .i64 0, .int .i64 4, .slice fa3 1 fc3, .int .u16 rav, .int .u16 la1, .slice ca3 3 cc3, .int .i64 120, .int .i64 4, .slice tfa tfn tfc, .int .u16 tav, .int .u16 tla, .slice tca tcn tcc, .int .i64 300, .int .i64 0, .int .i64 i1, .int .i64 i2, .int .i64 i3, .int .i64 o0, .int .i64 o1, .int .i64 o2, .int .i64 o3]), (b_2, #[.slice (some ⟨vb, 0, none⟩) 1900 vc])] ++ L) R4 := hE9.mem1 [1000, 1001, 1002, 1003, 1004] (by decide) 5 rfl
 clear hE9
 simp only [List.cons_append, List.nil_append] at hv
 have HSS : Hid (∀ x ∈ R, x ∈ R4) := Lib.hid (fun x hx => HS4.out x (HS3.out x hx))
 have HQ5 : Hid (InQ R4 (.slice fa3 1 fc3) (.slice ca3 3 cc3) [hd] rest) := Lib.hid (HQ3.out.mono HS4.out)
 go_wp2_with (first
   | ((with_reducible refine at_load (T := 26) ?_); refine wl_ldv rfl b_2 rfl _ hv.vars.ro 1 _ Tryz.underlying26 rfl infoM (by decide) rfl ?_)
   | ((with_reducible refine at_load (T := 33) ?_); refine wl_ldv rfl b_3 rfl _ hv.vars.ro 21 _ Tryz.underlying33 rfl infoN (by decide) rfl ?_)
   | (go_at_call 28; (with_reducible refine (hand_0 (nf1 := 0) (nc1 := 4) hv (HM.out.mono HSS.out) HQ5.out HO3.out HAV.out HAV1.out rfl rfl (getD1 hd) HX.out HH2.out).mono ?_); rintro e w1 ⟨vb5, vc5, fc5, cc5, fa5, ca5, c5, R5, rfl, hv1, hi5, hq5, ho5, k1, k2, k3, hs5⟩; replace hv := hv1; have HI5 := Lib.hid hi5; have HQ9 := Lib.hid hq5; have HO9 := Lib.hid ho5; have K1 := Lib.hid k1; have K2 := Lib.hid k2; have K3 := Lib.hid k3; have HS5 := Lib.hid hs5; clear hv1 hi5 hq5 ho5 k1 k2 k3 hs5)
   | ((with_reducible refine at_store (T := 26) ?_); refine wl_stv rfl b_2 rfl _ rfl _ hv.vars.ro hv.vars.so 1 infoM rfl rfl (by simp [Value.oneCell']) ?_; intro w2 hw2; replace hv := hv.sets (by repeat first | exact .z | apply SetM.s) hw2; clear hw2)
   | ((with_reducible refine at_store (T := 33) ?_); refine wl_stv rfl b_3 rfl _ rfl _ hv.vars.ro hv.vars.so 21 infoN rfl rfl (by simp [Value.oneCell']) ?_; intro w2 hw2; replace hv := hv.sets (by repeat first | exact .z | apply SetM.s) hw2; clear hw2))
 replace hv : Mem w0 _ ([(b_8, _), (b_5, _), (b_4, _), (b_3, _), (b_2, _)] ++ L) R5 := hv
 try simp only [Act.put]
 refine Bny.wp_region_walk _ _ [⟨[1004], none⟩, ⟨[1003], none⟩, ⟨[], none⟩, ⟨[1002], some 1002⟩, ⟨[1001], some 1001⟩, ⟨[], none⟩, ⟨[], none⟩] [.val, .val, .val, .put, .put, .val, .val] (by kernel_rfl) (by kernel_rfl) hv ?_
 simp only [List.length_cons, List.length_nil, Nat.zero_add, Any.someVals]
 iterate 7 apply Exists.intro
 repeat (first
   | (refine Bny.E_off rfl ?_; simp only [Act.put, sia, scs, scz])
   | ((with_reducible refine Bny.at_estore (T := 26) ?_); refine Bny.E_putv (T := 26) rfl rfl rfl rfl rfl rfl 1 infoM rfl rfl (by simp [Value.oneCell']) ?_; simp only [Act.put, sia, scs, scz])
   | ((with_reducible refine Bny.at_estore (T := 33) ?_); refine Bny.E_putv (T := 33) rfl rfl rfl rfl rfl rfl 21 infoN rfl rfl (by simp [Value.oneCell']) ?_; simp only [Act.put, sia, scs, scz])
   | (apply Bny.E_pureq rfl rfl rfl
      case h => intro K hK; go_big_quiet_op; (refine hK _ ?_; rfl)
      case hr => exact fun _ => rfl
      simp only [Act.put, sia, scs, scz])
   | (apply Bny.E_val rfl rfl rfl rfl
      case h =>
        intro E' hA K hK
        first
          | ((with_reducible refine Bny.at_qload (T := 26) ?_); refine Bny.q_ldv 1004 hA (by decide) rfl rfl 1 _ Tryz.underlying26 rfl infoM (by decide) rfl ?_; refine hK _ ?_; rfl)
          | ((with_reducible refine Bny.at_qload (T := 33) ?_); refine Bny.q_ldv 1003 hA (by decide) rfl rfl 21 _ Tryz.underlying33 rfl infoN (by decide) rfl ?_; refine hK _ ?_; rfl)
          | (go_big_quiet_op; first
            | (refine hK _ ?_; rfl)
            | (refine ⟨_, fun _ _ => rfl, ?_⟩; refine hK _ ?_; rfl)
            | (apply Exists.intro; refine ⟨fun w1 hw1 => ?_, ?_⟩; · (first
                | fail)
               refine hK _ ?_; rfl))
      case hD => rfl
      simp only [Act.put, sia, scs, scz]))
 try any_goals exact undef
 refine Bny.E_nil ?_
 intro w9 hE9
 replace hv : Mem w0 w9 ([(b_8, #[.int .i64 0, .int .i64 4, .slice fa3 1 fc3, .int .u16 rav, .int .u16 la1, .slice ca3 3 cc3]), (b_5, #[.int .i64 0, .int .i64 4, .slice fa5 0 fc5, .int .u16 av1, .int .u16 la1, .slice ca5 4 cc5, .int .i64 120, .int .i64 4, .slice tfa tfn tfc, .int .u16 tav, .int .u16 tla, .slice tca tcn tcc, .int .i64 300, .int .i64 i0, .int .i64 i1, .int .i64 i2, .int .i64 i3, .int .i64 o0, .int .i64 o1, .int .i64 o2, .int .i64 o3]), (b_4, #[.slice (some ⟨vb5, 0, none⟩) 1900 vc5]), (b_3, #[.int .i64 0, .int .i64 4, .slice fa5 0 fc5, .int .u16 av1, .int .u16 la1, .slice ca5 4 cc5, .int .i64 120, .int .i64 4, .slice tfa tfn tfc, .int .u16 tav, .int .u16 tla, .slice tca tcn tcc, .int .i64 300, .int .i64 i0, .int .i64 i1, .int .i64 i2, .int .i64 i3, .int .i64 o0, .int .i64 o1, .int .i64 o2, .int .i64 o3]), (b_2, #[.slice (some ⟨vb5, 0, none⟩) 1900 vc5])] ++ L) R5 := hE9.mem0 [1000, 1001, 1002, 1003, 1004] (by decide)
 clear hE9
 simp only [List.cons_append, List.nil_append] at hv
 go_wp2
 try simp only [Exit.inBlock, Exit.then]
 obtain ⟨gb, gc, rfl, hgr⟩ := HG4.out HN0.out
 refine ret_cctt (v := .agg #[.slice (some ⟨vb5, 0, none⟩) 1900 vc5]) (v' := .agg #[.int .i64 0, .int .i64 4, .slice fa5 0 fc5, .int .u16 av1, .int .u16 la1, .slice ca5 4 cc5, .int .i64 120, .int .i64 4, .slice tfa tfn tfc, .int .u16 tav, .int .u16 tla, .slice tca tcn tcc, .int .i64 300, .int .i64 i0, .int .i64 i1, .int .i64 i2, .int .i64 i3, .int .i64 o0, .int .i64 o1, .int .i64 o2, .int .i64 o3]) (v1 := .slice (some ⟨gb, 0, none⟩) n gc) (v2 := .int .i64 0) rfl rfl rfl (read_row _ b_4 26 _ (hv.vars.ro (b := b_4)) 1 _ Tryz.underlying26 rfl infoM (by decide) rfl) (read_row _ b_5 33 _ (hv.vars.ro (b := b_5)) 21 _ Tryz.underlying33 rfl infoN (by decide) rfl) rfl rfl rfl ?_
 have hdh := HDH.out
 subst hdh
 exact ⟨vb5, vc5, fc5, cc5, fa5, ca5, c5, R5, gb, gc, rfl, hv.keep (by exact List.sublist_append_right [_, _, _, _, _] L), HI5.out, HQ9.out, HO9.out, K1.out, K2.out, K3.out, HS5.out _ hgr, fun x hx => HS5.out x (HSS.out x hx)⟩
theorem Take_0_drop {w0 w : World} {L : List (Nat × Array Value)} {R : List (Nat × Value × List Value)} (hv : Mem w0 w L R) {rav la us ah hd n av1 la1 tav tla rfc rcc tfn tfc tcn tcc vb vc : Nat} {rfa rca tfa tca : Option Addr} {tfree : List Nat} {c0 : Chn} {rest tchs : List Chn} {i0 i1 i2 i3 o0 o1 o2 o3 : Nat} {M D : List Nat} (hn : NetQ R (.slice rfa 0 rfc) (.slice rca 4 rcc) (.slice tfa tfn tfc) (.slice tca tcn tcc) [] (c0 :: rest) tfree tchs [i0, i1, i2, i3] [o0, o1, o2, o3]) (hm : InM R vb 0 1900 vc M) (hus : getN M (0 + (backN 4 + 2)) 2 = us) (hah : (us + 65536 - la) % 65536 = ah) (hla : la + 1 < 65536) (hah0 : ah ≠ 0) (hah4 : ah ≤ 4) (hid : getN M (0 + (backN 4 + (4 + 8 * (la % 4)))) 4 = hd) (hlen : getN M (0 + (backN 4 + (4 + 8 * (la % 4))) + 4) 4 = n) (hch : c0.h = hd) (hcd : c0.ds = [hd]) (hrm : n ≤ c0.rm) (hla1 : la + 1 = la1) (hav : rav < 65535) (hav1 : rav + 1 = av1) (hd0 : hd = 0) (hih : hd + 1 = i0) (hi : idxF (· == hd + 1) [i0, i1, i2, i3] = 0) (hg : getB M 300 n = D) (hn192 : n ≤ 192) (hbad : n = 0 ∨ 180 < n) :
   Calls Tryz.prog 11 #[.agg #[.slice (some ⟨vb, 0, none⟩) 1900 vc], .agg #[.int .i64 0, .int .i64 4, .slice rfa 0 rfc, .int .u16 rav, .int .u16 la, .slice rca 4 rcc, .int .i64 120, .int .i64 4, .slice tfa tfn tfc, .int .u16 tav, .int .u16 tla, .slice tca tcn tcc, .int .i64 300, .int .i64 i0, .int .i64 i1, .int .i64 i2, .int .i64 i3, .int .i64 o0, .int .i64 o1, .int .i64 o2, .int .i64 o3]] w fun e w' => ∃ vb5 vc5 fc5 cc5 fa5 ca5 c5 R5, e = .returned (.tuple #[.agg #[.slice (some ⟨vb5, 0, none⟩) 1900 vc5], .agg #[.int .i64 0, .int .i64 4, .slice fa5 0 fc5, .int .u16 av1, .int .u16 la1, .slice ca5 4 cc5, .int .i64 120, .int .i64 4, .slice tfa tfn tfc, .int .u16 tav, .int .u16 tla, .slice tca tcn tcc, .int .i64 300, .int .i64 i0, .int .i64 i1, .int .i64 i2, .int .i64 i3, .int .i64 o0, .int .i64 o1, .int .i64 o2, .int .i64 o3], .slice none 0 0, .int .i64 180]) ∧ Mem w0 w' L R5 ∧ InM R5 vb5 0 1900 vc5 (addM M 0 4 rav [0] [(300, 192, true)]) ∧ InQ R5 (.slice fa5 0 fc5) (.slice ca5 4 cc5) [] (rest ++ [c5]) ∧ OkQ 4 [] (rest ++ [c5]) ∧ c5.h = 0 ∧ c5.ds = [0] ∧ c5.rm = 192 ∧ ∀ x ∈ R, x ∈ R5 := by
 have HN := Lib.hid hn
 have HM := Lib.hid hm
 have HUS := Lib.hid hus
 have HAH := Lib.hid hah
 have HLA := Lib.hid hla
 have HAH0 := Lib.hid hah0
 have HAH4 := Lib.hid hah4
 have HID := Lib.hid hid
 have HLEN := Lib.hid hlen
 have HCH := Lib.hid hch
 have HCD := Lib.hid hcd
 have HRM := Lib.hid hrm
 have HLA1 := Lib.hid hla1
 have HAV := Lib.hid hav
 have HAV1 := Lib.hid hav1
 have HX := Lib.hid hih
 have HI := Lib.hid hi
 have HGB := Lib.hid hg
 have HDH := Lib.hid hd0
 have HH1 : Hid (hd ≤ 1000) := Lib.hid (by omega)
 have HH2 : Hid (hd < 1000) := Lib.hid (by omega)
 have HP9 : Hid (300 + n ≤ 1900) := Lib.hid (by omega)
 have yb : (decide ((n : Int) < 1) || decide ((180 : Int) < (n : Int))) = true := by
   rcases hbad with h | h
   · rw [decide_eq_true (show (n : Int) < 1 by omega)]; rfl
   · rw [decide_eq_true (show (180 : Int) < (n : Int) by omega), Bool.or_true]
 have HBAD := Lib.hid hbad
 clear hn hm hus hah hla hah0 hah4 hid hlen hch hcd hrm hla1 hav hav1 hih hi hg hd0 hn192 hbad yb
 go_enter Tryz.func11, Tryz.ntmps11
 go_wp2_with (first
   | ((with_reducible refine at_box (T := 26) (dst := some 2) ?_); refine wl_newb rfl #[.slice (some ⟨vb, 0, none⟩) 1900 vc] 26 (fun _ => rfl) ?_; intro b_2 w2 hm2; replace hv := hv.madeAt hm2; clear hm2)
   | ((with_reducible refine at_box (T := 33) (dst := some 3) ?_); refine wl_newb rfl #[.int .i64 0, .int .i64 4, .slice rfa 0 rfc, .int .u16 rav, .int .u16 la, .slice rca 4 rcc, .int .i64 120, .int .i64 4, .slice tfa tfn tfc, .int .u16 tav, .int .u16 tla, .slice tca tcn tcc, .int .i64 300, .int .i64 i0, .int .i64 i1, .int .i64 i2, .int .i64 i3, .int .i64 o0, .int .i64 o1, .int .i64 o2, .int .i64 o3] 33 (fun _ => rfl) ?_; intro b_3 w2 hm2; replace hv := hv.madeAt hm2; clear hm2)
   | ((with_reducible refine at_alloc (T := 26) (dst := some 4) ?_); refine wl_newb rfl #[.slice none 0 0] 26 (fun _ => rfl) ?_; intro b_4 w2 hm2; replace hv := hv.madeAt hm2; clear hm2)
   | ((with_reducible refine at_alloc (T := 33) (dst := some 5) ?_); refine wl_newb rfl #[.int .i64 0, .int .i64 0, .slice none 0 0, .int .u16 0, .int .u16 0, .slice none 0 0, .int .i64 0, .int .i64 0, .slice none 0 0, .int .u16 0, .int .u16 0, .slice none 0 0, .int .i64 0, .int .i64 0, .int .i64 0, .int .i64 0, .int .i64 0, .int .i64 0, .int .i64 0, .int .i64 0, .int .i64 0] 33 (fun _ => rfl) ?_; intro b_5 w2 hm2; replace hv := hv.madeAt hm2; clear hm2)
   | ((with_reducible refine at_load (T := 33) ?_); refine wl_ldv rfl b_3 rfl _ hv.vars.ro 21 _ Tryz.underlying33 rfl infoN (by decide) rfl ?_)
   | (go_at_call 12; (with_reducible refine (NCheck_ok hv HN.out).mono ?_); rintro e w1 ⟨rfl, hn1⟩; replace hv := hv.new hn1; clear hn1)
   | ((with_reducible refine at_load (T := 26) ?_); refine wl_ldv rfl b_2 rfl _ hv.vars.ro 1 _ Tryz.underlying26 rfl infoM (by decide) rfl ?_)
   | ((with_reducible refine at_load (T := 30) ?_); refine wl_ldp rfl b_3 0 rfl _ hv.vars.ro 6 _ Tryz.underlying30 rfl infoQ (by decide) (by show 0 + 6 ≤ 21; decide) #[.int .i64 0, .int .i64 4, .slice rfa 0 rfc, .int .u16 rav, .int .u16 la, .slice rca 4 rcc] rfl ?_)
   | (go_at_call 32; (with_reducible refine (Poll_r hv HM.out HN.out.rq HN.out.ro HUS.out HAH.out HLA.out HAH0.out HAH4.out HID.out HLEN.out HCH.out HCD.out HRM.out HLA1.out).mono ?_); rintro e w1 ⟨fc3, cc3, fa3, ca3, R3, rfl, hv1, hq3, ho3, hs3⟩; replace hv := hv1; have HQ3 := Lib.hid hq3; have HO3 := Lib.hid ho3; have HS3 := Lib.hid hs3; clear hv1 hq3 ho3 hs3)
   | ((with_reducible refine at_alloc (T := 30) (dst := some 8) ?_); refine wl_newb rfl #[.int .i64 0, .int .i64 0, .slice none 0 0, .int .u16 0, .int .u16 0, .slice none 0 0] 30 (fun _ => rfl) ?_; intro b_8 w2 hm2; replace hv := hv.madeAt hm2; clear hm2)
   | ((with_reducible refine at_store (T := 30) ?_); refine wl_stv rfl b_8 rfl _ rfl _ hv.vars.ro hv.vars.so 6 infoQ rfl rfl (by simp [Value.oneCell']) ?_; intro w2 hw2; replace hv := hv.sets (by repeat first | exact .z | apply SetM.s) hw2; clear hw2)
   | ((with_reducible refine at_load (T := 30) ?_); refine wl_ldv rfl b_8 rfl _ hv.vars.ro 6 _ Tryz.underlying30 rfl infoQ (by decide) rfl ?_)
   | ((with_reducible refine at_store (T := 30) ?_); refine wl_stp rfl b_3 0 rfl _ rfl _ hv.vars.ro hv.vars.so 6 infoQ rfl (by show 0 + 6 ≤ 21; decide) (by simp [Value.oneCell']) #[.int .i64 0, .int .i64 4, .slice fa3 1 fc3, .int .u16 rav, .int .u16 la1, .slice ca3 3 cc3, .int .i64 120, .int .i64 4, .slice tfa tfn tfc, .int .u16 tav, .int .u16 tla, .slice tca tcn tcc, .int .i64 300, .int .i64 i0, .int .i64 i1, .int .i64 i2, .int .i64 i3, .int .i64 o0, .int .i64 o1, .int .i64 o2, .int .i64 o3] (splice_21_0_6 _ _ _ _ _ _ _ _ _ _ _ _ _ _ _ _ _ _ _ _ _ _ _ _ _ _ _) ?_; intro w2 hw2; replace hv := hv.sets (by repeat first | exact .z | apply SetM.s) hw2; clear hw2)
   | ((with_reducible refine at_load (T := 31) ?_); refine wl_ldp rfl b_3 13 rfl _ hv.vars.ro 4 _ Tryz.underlying31 rfl infoA4 (by decide) (by show 13 + 4 ≤ 21; decide) #[.int .i64 i0, .int .i64 i1, .int .i64 i2, .int .i64 i3] rfl ?_)
   | (go_at_call 33; (with_reducible refine (of_any i0 i1 i2 i3 hd HN.out.bl HH1.out _).mono ?_); rw [HI.out]; rintro e w1 ⟨rfl, hn1⟩; replace hv := hv.new hn1; clear hn1)
   | ((with_reducible refine at_store (T := 3) ?_); refine wl_stc rfl b_3 13 rfl (.int .i64 0) rfl _ hv.vars.ro hv.vars.so (by kernel_rfl) rfl (by show 13 < 21; decide) ?_; intro w2 hw2; replace hv := hv.sets (by repeat first | exact .z | apply SetM.s) hw2; clear hw2; simp only [sia, scs, scz] at hv))
 have HM3 : Hid (InM R3 vb 0 1900 vc M) := Lib.hid (HM.out.mono HS3.out)
 have HSO : Hid (∃ v R', GetNW R3 n D v R') := Lib.hid (Bny.some_of (Get_N hv (fun x hx => hx) HM3.out 300 300 rfl HP9.out HGB.out))
 replace hv : Mem w0 _ ([(b_8, _), (b_5, _), (b_4, _), (b_3, _), (b_2, _)] ++ L) R3 := hv
 try simp only [Act.put]
 refine Bny.wp_region_walk _ _ [⟨[1004], none⟩, ⟨[1003], none⟩, ⟨[], none⟩, ⟨[], none⟩, ⟨[], none⟩, ⟨[], some 5⟩, ⟨[], none⟩, ⟨[], none⟩, ⟨[], none⟩, ⟨[], none⟩, ⟨[], none⟩] [.val, .val, .val, .val, .val, .mem (GetNW R3 n D), .pure, .pure, .pure, .pure, .pure] (by kernel_rfl) (by kernel_rfl) hv ?_
 simp only [List.length_cons, List.length_nil, Nat.zero_add, Any.someVals]
 iterate 11 apply Exists.intro
 repeat (first
   | (refine Bny.E_off rfl ?_; simp only [Act.put, sia, scs, scz])
   | ((with_reducible refine Bny.at_ecallf (f := 27) ?_); refine Bny.E_callmem rfl rfl rfl (Go.Proofs.enters_of Tryz.func27 (by kernel_rfl) rfl) rfl [.agg #[.slice (some ⟨vb, 0, none⟩) 1900 vc], .int .i64 300, .int .i64 n] rfl HSO.out R3 (fun x hx => .inl hx) (fun w0 w L R' hm hs => Get_N hm hs HM3.out 300 300 rfl HP9.out HGB.out) ?_; rintro v R4 ⟨gv, rfl, hg4, hs4⟩; have HG4 := Lib.hid hg4; have HS4 := Lib.hid hs4; clear hg4 hs4; simp only [Act.put, sia, scs, scz])
   | (apply Bny.E_pureq rfl rfl rfl
      case h => intro K hK; go_big_quiet_op; (refine hK _ ?_; rfl)
      case hr => exact fun _ => rfl
      simp only [Act.put, sia, scs, scz])
   | (apply Bny.E_val rfl rfl rfl rfl
      case h =>
        intro E' hA K hK
        first
          | ((with_reducible refine Bny.at_qload (T := 26) ?_); refine Bny.q_ldv 1004 hA (by decide) rfl rfl 1 _ Tryz.underlying26 rfl infoM (by decide) rfl ?_; refine hK _ ?_; rfl)
          | ((with_reducible refine Bny.at_qload (T := 33) ?_); refine Bny.q_ldv 1003 hA (by decide) rfl rfl 21 _ Tryz.underlying33 rfl infoN (by decide) rfl ?_; refine hK _ ?_; rfl)
          | (go_big_quiet_op; first
            | (refine hK _ ?_; rfl)
            | (refine ⟨_, fun _ _ => rfl, ?_⟩; refine hK _ ?_; rfl)
            | (apply Exists.intro; refine ⟨fun w1 hw1 => ?_, ?_⟩; · (first
                | (go_at_call 34; exact Bny.calls_VE (inc_0 _) hw1))
               refine hK _ ?_; rfl))
      case hD => rfl
      simp only [Act.put, sia, scs, scz]))
 try any_goals exact undef
 refine Bny.E_nil ?_
 intro w9 hE9
 replace hv : Mem w0 w9 ([(b_8, #[.int .i64 0, .int .i64 4, .slice fa3 1 fc3, .int .u16 rav, .int .u16 la1, .slice ca3 3 cc3]), (b_5, #[.int .i64 0, .int .i64 0, .slice none 0 0, .int .u16 0, .int .u16 0, .slice none 0 0, .int .i64 0, .int .i64 0, .slice none 0 0, .int .u16 0, .int .u16 0, .slice none 0 0, .int .i64 0, .int .i64 0, .int .i64 0, .int .i64 0, .int .i64 0, .int .i64 0, .int .i64 0, .int .i64 0, .int .i64 0]), (b_4, #[.slice none 0 0]), (b_3, #[.int .i64 0, .int .i64 4, .slice fa3 1 fc3, .int .u16 rav, .int .u16 la1, .slice ca3 3 cc3, .int .i64 120, .int .i64 4, .slice tfa tfn tfc, .int .u16 tav, .int .u16 tla, .slice tca tcn tcc, .int .i64 300, .int .i64 0, .int .i64 i1, .int .i64 i2, .int .i64 i3, .int .i64 o0, .int .i64 o1, .int .i64 o2, .int .i64 o3]), (b_2, #[.slice (some ⟨vb, 0, none⟩) 1900 vc])] ++ L) R4 := hE9.mem1 [1000, 1001, 1002, 1003, 1004] (by decide) 5 rfl
 clear hE9
 simp only [List.cons_append, List.nil_append] at hv
 have HSS : Hid (∀ x ∈ R, x ∈ R4) := Lib.hid (fun x hx => HS4.out x (HS3.out x hx))
 have HQ5 : Hid (InQ R4 (.slice fa3 1 fc3) (.slice ca3 3 cc3) [hd] rest) := Lib.hid (HQ3.out.mono HS4.out)
 rcases HBAD.out with hb0 | hb0
 all_goals (
   first
     | (have y1 : decide ((n : Int) < 1) = true := decide_eq_true (by omega))
     | (have y1 : decide ((n : Int) < 1) = false := decide_eq_false (by omega))
   first
     | (have z1 : decide (n < 1) = true := decide_eq_true (by omega))
     | (have z1 : decide (n < 1) = false := decide_eq_false (by omega))
   first
     | (have y2 : decide ((180 : Int) < (n : Int)) = true := decide_eq_true (by omega))
     | (have y2 : decide ((180 : Int) < (n : Int)) = false := decide_eq_false (by omega))
   first
     | (have z2 : decide (180 < n) = true := decide_eq_true (by omega))
     | (have z2 : decide (180 < n) = false := decide_eq_false (by omega))
   clear hb0)
 all_goals (
   go_wp2_with (first
     | ((with_reducible refine at_load (T := 26) ?_); refine wl_ldv rfl b_2 rfl _ hv.vars.ro 1 _ Tryz.underlying26 rfl infoM (by decide) rfl ?_)
     | ((with_reducible refine at_load (T := 33) ?_); refine wl_ldv rfl b_3 rfl _ hv.vars.ro 21 _ Tryz.underlying33 rfl infoN (by decide) rfl ?_)
     | (go_at_call 28; (with_reducible refine (hand_0 (nf1 := 0) (nc1 := 4) hv (HM.out.mono HSS.out) HQ5.out HO3.out HAV.out HAV1.out rfl rfl (getD1 hd) HX.out HH2.out).mono ?_); rintro e w1 ⟨vb5, vc5, fc5, cc5, fa5, ca5, c5, R5, rfl, hv1, hi5, hq5, ho5, k1, k2, k3, hs5⟩; replace hv := hv1; have HI5 := Lib.hid hi5; have HQ9 := Lib.hid hq5; have HO9 := Lib.hid ho5; have K1 := Lib.hid k1; have K2 := Lib.hid k2; have K3 := Lib.hid k3; have HS5 := Lib.hid hs5; clear hv1 hi5 hq5 ho5 k1 k2 k3 hs5)
     | ((with_reducible refine at_store (T := 26) ?_); refine wl_stv rfl b_2 rfl _ rfl _ hv.vars.ro hv.vars.so 1 infoM rfl rfl (by simp [Value.oneCell']) ?_; intro w2 hw2; replace hv := hv.sets (by repeat first | exact .z | apply SetM.s) hw2; clear hw2)
     | ((with_reducible refine at_store (T := 33) ?_); refine wl_stv rfl b_3 rfl _ rfl _ hv.vars.ro hv.vars.so 21 infoN rfl rfl (by simp [Value.oneCell']) ?_; intro w2 hw2; replace hv := hv.sets (by repeat first | exact .z | apply SetM.s) hw2; clear hw2))
   replace hv : Mem w0 _ ([(b_8, _), (b_5, _), (b_4, _), (b_3, _), (b_2, _)] ++ L) R5 := hv
   try simp only [Act.put]
   refine Bny.wp_region_walk _ _ [⟨[1004], none⟩, ⟨[1003], none⟩, ⟨[1002], some 1002⟩, ⟨[1001], some 1001⟩, ⟨[], none⟩, ⟨[], none⟩] [.val, .val, .put, .put, .val, .val] (by kernel_rfl) (by kernel_rfl) hv ?_
   simp only [List.length_cons, List.length_nil, Nat.zero_add, Any.someVals]
   iterate 6 apply Exists.intro
   repeat (first
     | (refine Bny.E_off rfl ?_; simp only [Act.put, sia, scs, scz])
     | ((with_reducible refine Bny.at_estore (T := 26) ?_); refine Bny.E_putv (T := 26) rfl rfl rfl rfl rfl rfl 1 infoM rfl rfl (by simp [Value.oneCell']) ?_; simp only [Act.put, sia, scs, scz])
     | ((with_reducible refine Bny.at_estore (T := 33) ?_); refine Bny.E_putv (T := 33) rfl rfl rfl rfl rfl rfl 21 infoN rfl rfl (by simp [Value.oneCell']) ?_; simp only [Act.put, sia, scs, scz])
     | (apply Bny.E_pureq rfl rfl rfl
        case h => intro K hK; go_big_quiet_op; (refine hK _ ?_; rfl)
        case hr => exact fun _ => rfl
        simp only [Act.put, sia, scs, scz])
     | (apply Bny.E_val rfl rfl rfl rfl
        case h =>
          intro E' hA K hK
          first
            | ((with_reducible refine Bny.at_qload (T := 26) ?_); refine Bny.q_ldv 1004 hA (by decide) rfl rfl 1 _ Tryz.underlying26 rfl infoM (by decide) rfl ?_; refine hK _ ?_; rfl)
            | ((with_reducible refine Bny.at_qload (T := 33) ?_); refine Bny.q_ldv 1003 hA (by decide) rfl rfl 21 _ Tryz.underlying33 rfl infoN (by decide) rfl ?_; refine hK _ ?_; rfl)
            | (go_big_quiet_op; first
              | (refine hK _ ?_; rfl)
              | (refine ⟨_, fun _ _ => rfl, ?_⟩; refine hK _ ?_; rfl)
              | (apply Exists.intro; refine ⟨fun w1 hw1 => ?_, ?_⟩; · (first
                  | fail)
                 refine hK _ ?_; rfl))
        case hD => rfl
        simp only [Act.put, sia, scs, scz]))
   try any_goals exact undef
   refine Bny.E_nil ?_
   intro w9 hE9
   replace hv : Mem w0 w9 ([(b_8, #[.int .i64 0, .int .i64 4, .slice fa3 1 fc3, .int .u16 rav, .int .u16 la1, .slice ca3 3 cc3]), (b_5, #[.int .i64 0, .int .i64 4, .slice fa5 0 fc5, .int .u16 av1, .int .u16 la1, .slice ca5 4 cc5, .int .i64 120, .int .i64 4, .slice tfa tfn tfc, .int .u16 tav, .int .u16 tla, .slice tca tcn tcc, .int .i64 300, .int .i64 i0, .int .i64 i1, .int .i64 i2, .int .i64 i3, .int .i64 o0, .int .i64 o1, .int .i64 o2, .int .i64 o3]), (b_4, #[.slice (some ⟨vb5, 0, none⟩) 1900 vc5]), (b_3, #[.int .i64 0, .int .i64 4, .slice fa5 0 fc5, .int .u16 av1, .int .u16 la1, .slice ca5 4 cc5, .int .i64 120, .int .i64 4, .slice tfa tfn tfc, .int .u16 tav, .int .u16 tla, .slice tca tcn tcc, .int .i64 300, .int .i64 i0, .int .i64 i1, .int .i64 i2, .int .i64 i3, .int .i64 o0, .int .i64 o1, .int .i64 o2, .int .i64 o3]), (b_2, #[.slice (some ⟨vb5, 0, none⟩) 1900 vc5])] ++ L) R5 := hE9.mem0 [1000, 1001, 1002, 1003, 1004] (by decide)
   clear hE9
   simp only [List.cons_append, List.nil_append] at hv
   go_wp2
   try simp only [Exit.inBlock, Exit.then]
   refine ret_cctt (v := .agg #[.slice (some ⟨vb5, 0, none⟩) 1900 vc5]) (v' := .agg #[.int .i64 0, .int .i64 4, .slice fa5 0 fc5, .int .u16 av1, .int .u16 la1, .slice ca5 4 cc5, .int .i64 120, .int .i64 4, .slice tfa tfn tfc, .int .u16 tav, .int .u16 tla, .slice tca tcn tcc, .int .i64 300, .int .i64 i0, .int .i64 i1, .int .i64 i2, .int .i64 i3, .int .i64 o0, .int .i64 o1, .int .i64 o2, .int .i64 o3]) (v1 := .slice none 0 0) (v2 := .int .i64 180) rfl rfl rfl (read_row _ b_4 26 _ (hv.vars.ro (b := b_4)) 1 _ Tryz.underlying26 rfl infoM (by decide) rfl) (read_row _ b_5 33 _ (hv.vars.ro (b := b_5)) 21 _ Tryz.underlying33 rfl infoN (by decide) rfl) rfl rfl rfl ?_
   have hdh := HDH.out
   subst hdh
   exact ⟨vb5, vc5, fc5, cc5, fa5, ca5, c5, R5, rfl, hv.keep (by exact List.sublist_append_right [_, _, _, _, _] L), HI5.out, HQ9.out, HO9.out, K1.out, K2.out, K3.out, fun x hx => HS5.out x (HSS.out x hx)⟩)
theorem Take_1_yes {w0 w : World} {L : List (Nat × Array Value)} {R : List (Nat × Value × List Value)} (hv : Mem w0 w L R) {rav la us ah hd n av1 la1 tav tla rfc rcc tfn tfc tcn tcc vb vc : Nat} {rfa rca tfa tca : Option Addr} {tfree : List Nat} {c0 : Chn} {rest tchs : List Chn} {i0 i1 i2 i3 o0 o1 o2 o3 : Nat} {M D : List Nat} (hn : NetQ R (.slice rfa 0 rfc) (.slice rca 4 rcc) (.slice tfa tfn tfc) (.slice tca tcn tcc) [] (c0 :: rest) tfree tchs [i0, i1, i2, i3] [o0, o1, o2, o3]) (hm : InM R vb 0 1900 vc M) (hus : getN M (0 + (backN 4 + 2)) 2 = us) (hah : (us + 65536 - la) % 65536 = ah) (hla : la + 1 < 65536) (hah0 : ah ≠ 0) (hah4 : ah ≤ 4) (hid : getN M (0 + (backN 4 + (4 + 8 * (la % 4)))) 4 = hd) (hlen : getN M (0 + (backN 4 + (4 + 8 * (la % 4))) + 4) 4 = n) (hch : c0.h = hd) (hcd : c0.ds = [hd]) (hrm : n ≤ c0.rm) (hla1 : la + 1 = la1) (hav : rav < 65535) (hav1 : rav + 1 = av1) (hd1 : hd = 1) (hih : hd + 1 = i1) (hi : idxF (· == hd + 1) [i0, i1, i2, i3] = 1) (hg : getB M 492 n = D) (hn192 : n ≤ 192) (hn1 : 1 ≤ n) (hn2 : n ≤ 180) :
   Calls Tryz.prog 11 #[.agg #[.slice (some ⟨vb, 0, none⟩) 1900 vc], .agg #[.int .i64 0, .int .i64 4, .slice rfa 0 rfc, .int .u16 rav, .int .u16 la, .slice rca 4 rcc, .int .i64 120, .int .i64 4, .slice tfa tfn tfc, .int .u16 tav, .int .u16 tla, .slice tca tcn tcc, .int .i64 300, .int .i64 i0, .int .i64 i1, .int .i64 i2, .int .i64 i3, .int .i64 o0, .int .i64 o1, .int .i64 o2, .int .i64 o3]] w fun e w' => ∃ vb5 vc5 fc5 cc5 fa5 ca5 c5 R5 gb gc, e = .returned (.tuple #[.agg #[.slice (some ⟨vb5, 0, none⟩) 1900 vc5], .agg #[.int .i64 0, .int .i64 4, .slice fa5 0 fc5, .int .u16 av1, .int .u16 la1, .slice ca5 4 cc5, .int .i64 120, .int .i64 4, .slice tfa tfn tfc, .int .u16 tav, .int .u16 tla, .slice tca tcn tcc, .int .i64 300, .int .i64 i0, .int .i64 i1, .int .i64 i2, .int .i64 i3, .int .i64 o0, .int .i64 o1, .int .i64 o2, .int .i64 o3], .slice (some ⟨gb, 0, none⟩) n gc, .int .i64 0]) ∧ Mem w0 w' L R5 ∧ InM R5 vb5 0 1900 vc5 (addM M 0 4 rav [1] [(492, 192, true)]) ∧ InQ R5 (.slice fa5 0 fc5) (.slice ca5 4 cc5) [] (rest ++ [c5]) ∧ OkQ 4 [] (rest ++ [c5]) ∧ c5.h = 1 ∧ c5.ds = [1] ∧ c5.rm = 192 ∧ (1, .slice (some ⟨gb, 0, none⟩) n gc, cellsB D) ∈ R5 ∧ ∀ x ∈ R, x ∈ R5 := by
 have HN := Lib.hid hn
 have HM := Lib.hid hm
 have HUS := Lib.hid hus
 have HAH := Lib.hid hah
 have HLA := Lib.hid hla
 have HAH0 := Lib.hid hah0
 have HAH4 := Lib.hid hah4
 have HID := Lib.hid hid
 have HLEN := Lib.hid hlen
 have HCH := Lib.hid hch
 have HCD := Lib.hid hcd
 have HRM := Lib.hid hrm
 have HLA1 := Lib.hid hla1
 have HAV := Lib.hid hav
 have HAV1 := Lib.hid hav1
 have HX := Lib.hid hih
 have HI := Lib.hid hi
 have HGB := Lib.hid hg
 have HDH := Lib.hid hd1
 have HH1 : Hid (hd ≤ 1000) := Lib.hid (by omega)
 have HH2 : Hid (hd < 1000) := Lib.hid (by omega)
 have HP9 : Hid (492 + n ≤ 1900) := Lib.hid (by omega)
 have HN0 : Hid (0 < n) := Lib.hid (by omega)
 have y1 : decide ((n : Int) < 1) = false := decide_eq_false (by omega)
 have z1 : decide (n < 1) = false := decide_eq_false (by omega)
 have y2 : decide ((180 : Int) < (n : Int)) = false := decide_eq_false (by omega)
 have z2 : decide (180 < n) = false := decide_eq_false (by omega)
 clear hn hm hus hah hla hah0 hah4 hid hlen hch hcd hrm hla1 hav hav1 hih hi hg hd1 hn192 hn1 hn2
 go_enter Tryz.func11, Tryz.ntmps11
 go_wp2_with (first
   | ((with_reducible refine at_box (T := 26) (dst := some 2) ?_); refine wl_newb rfl #[.slice (some ⟨vb, 0, none⟩) 1900 vc] 26 (fun _ => rfl) ?_; intro b_2 w2 hm2; replace hv := hv.madeAt hm2; clear hm2)
   | ((with_reducible refine at_box (T := 33) (dst := some 3) ?_); refine wl_newb rfl #[.int .i64 0, .int .i64 4, .slice rfa 0 rfc, .int .u16 rav, .int .u16 la, .slice rca 4 rcc, .int .i64 120, .int .i64 4, .slice tfa tfn tfc, .int .u16 tav, .int .u16 tla, .slice tca tcn tcc, .int .i64 300, .int .i64 i0, .int .i64 i1, .int .i64 i2, .int .i64 i3, .int .i64 o0, .int .i64 o1, .int .i64 o2, .int .i64 o3] 33 (fun _ => rfl) ?_; intro b_3 w2 hm2; replace hv := hv.madeAt hm2; clear hm2)
   | ((with_reducible refine at_alloc (T := 26) (dst := some 4) ?_); refine wl_newb rfl #[.slice none 0 0] 26 (fun _ => rfl) ?_; intro b_4 w2 hm2; replace hv := hv.madeAt hm2; clear hm2)
   | ((with_reducible refine at_alloc (T := 33) (dst := some 5) ?_); refine wl_newb rfl #[.int .i64 0, .int .i64 0, .slice none 0 0, .int .u16 0, .int .u16 0, .slice none 0 0, .int .i64 0, .int .i64 0, .slice none 0 0, .int .u16 0, .int .u16 0, .slice none 0 0, .int .i64 0, .int .i64 0, .int .i64 0, .int .i64 0, .int .i64 0, .int .i64 0, .int .i64 0, .int .i64 0, .int .i64 0] 33 (fun _ => rfl) ?_; intro b_5 w2 hm2; replace hv := hv.madeAt hm2; clear hm2)
   | ((with_reducible refine at_load (T := 33) ?_); refine wl_ldv rfl b_3 rfl _ hv.vars.ro 21 _ Tryz.underlying33 rfl infoN (by decide) rfl ?_)
   | (go_at_call 12; (with_reducible refine (NCheck_ok hv HN.out).mono ?_); rintro e w1 ⟨rfl, hn1⟩; replace hv := hv.new hn1; clear hn1)
   | ((with_reducible refine at_load (T := 26) ?_); refine wl_ldv rfl b_2 rfl _ hv.vars.ro 1 _ Tryz.underlying26 rfl infoM (by decide) rfl ?_)
   | ((with_reducible refine at_load (T := 30) ?_); refine wl_ldp rfl b_3 0 rfl _ hv.vars.ro 6 _ Tryz.underlying30 rfl infoQ (by decide) (by show 0 + 6 ≤ 21; decide) #[.int .i64 0, .int .i64 4, .slice rfa 0 rfc, .int .u16 rav, .int .u16 la, .slice rca 4 rcc] rfl ?_)
   | (go_at_call 32; (with_reducible refine (Poll_r hv HM.out HN.out.rq HN.out.ro HUS.out HAH.out HLA.out HAH0.out HAH4.out HID.out HLEN.out HCH.out HCD.out HRM.out HLA1.out).mono ?_); rintro e w1 ⟨fc3, cc3, fa3, ca3, R3, rfl, hv1, hq3, ho3, hs3⟩; replace hv := hv1; have HQ3 := Lib.hid hq3; have HO3 := Lib.hid ho3; have HS3 := Lib.hid hs3; clear hv1 hq3 ho3 hs3)
   | ((with_reducible refine at_alloc (T := 30) (dst := some 8) ?_); refine wl_newb rfl #[.int .i64 0, .int .i64 0, .slice none 0 0, .int .u16 0, .int .u16 0, .slice none 0 0] 30 (fun _ => rfl) ?_; intro b_8 w2 hm2; replace hv := hv.madeAt hm2; clear hm2)
   | ((with_reducible refine at_store (T := 30) ?_); refine wl_stv rfl b_8 rfl _ rfl _ hv.vars.ro hv.vars.so 6 infoQ rfl rfl (by simp [Value.oneCell']) ?_; intro w2 hw2; replace hv := hv.sets (by repeat first | exact .z | apply SetM.s) hw2; clear hw2)
   | ((with_reducible refine at_load (T := 30) ?_); refine wl_ldv rfl b_8 rfl _ hv.vars.ro 6 _ Tryz.underlying30 rfl infoQ (by decide) rfl ?_)
   | ((with_reducible refine at_store (T := 30) ?_); refine wl_stp rfl b_3 0 rfl _ rfl _ hv.vars.ro hv.vars.so 6 infoQ rfl (by show 0 + 6 ≤ 21; decide) (by simp [Value.oneCell']) #[.int .i64 0, .int .i64 4, .slice fa3 1 fc3, .int .u16 rav, .int .u16 la1, .slice ca3 3 cc3, .int .i64 120, .int .i64 4, .slice tfa tfn tfc, .int .u16 tav, .int .u16 tla, .slice tca tcn tcc, .int .i64 300, .int .i64 i0, .int .i64 i1, .int .i64 i2, .int .i64 i3, .int .i64 o0, .int .i64 o1, .int .i64 o2, .int .i64 o3] (splice_21_0_6 _ _ _ _ _ _ _ _ _ _ _ _ _ _ _ _ _ _ _ _ _ _ _ _ _ _ _) ?_; intro w2 hw2; replace hv := hv.sets (by repeat first | exact .z | apply SetM.s) hw2; clear hw2)
   | ((with_reducible refine at_load (T := 31) ?_); refine wl_ldp rfl b_3 13 rfl _ hv.vars.ro 4 _ Tryz.underlying31 rfl infoA4 (by decide) (by show 13 + 4 ≤ 21; decide) #[.int .i64 i0, .int .i64 i1, .int .i64 i2, .int .i64 i3] rfl ?_)
   | (go_at_call 33; (with_reducible refine (of_any i0 i1 i2 i3 hd HN.out.bl HH1.out _).mono ?_); rw [HI.out]; rintro e w1 ⟨rfl, hn1⟩; replace hv := hv.new hn1; clear hn1)
   | ((with_reducible refine at_store (T := 3) ?_); refine wl_stc rfl b_3 14 rfl (.int .i64 0) rfl _ hv.vars.ro hv.vars.so (by kernel_rfl) rfl (by show 14 < 21; decide) ?_; intro w2 hw2; replace hv := hv.sets (by repeat first | exact .z | apply SetM.s) hw2; clear hw2; simp only [sia, scs, scz] at hv))
 have HM3 : Hid (InM R3 vb 0 1900 vc M) := Lib.hid (HM.out.mono HS3.out)
 have HSO : Hid (∃ v R', GetNW R3 n D v R') := Lib.hid (Bny.some_of (Get_N hv (fun x hx => hx) HM3.out 492 492 rfl HP9.out HGB.out))
 replace hv : Mem w0 _ ([(b_8, _), (b_5, _), (b_4, _), (b_3, _), (b_2, _)] ++ L) R3 := hv
 try simp only [Act.put]
 refine Bny.wp_region_walk _ _ [⟨[1004], none⟩, ⟨[1003], none⟩, ⟨[], none⟩, ⟨[], none⟩, ⟨[], none⟩, ⟨[], some 5⟩, ⟨[], none⟩, ⟨[], none⟩, ⟨[], none⟩, ⟨[], none⟩, ⟨[], none⟩] [.val, .val, .val, .val, .val, .mem (GetNW R3 n D), .pure, .pure, .pure, .pure, .pure] (by kernel_rfl) (by kernel_rfl) hv ?_
 simp only [List.length_cons, List.length_nil, Nat.zero_add, Any.someVals]
 iterate 11 apply Exists.intro
 repeat (first
   | (refine Bny.E_off rfl ?_; simp only [Act.put, sia, scs, scz])
   | ((with_reducible refine Bny.at_ecallf (f := 27) ?_); refine Bny.E_callmem rfl rfl rfl (Go.Proofs.enters_of Tryz.func27 (by kernel_rfl) rfl) rfl [.agg #[.slice (some ⟨vb, 0, none⟩) 1900 vc], .int .i64 492, .int .i64 n] rfl HSO.out R3 (fun x hx => .inl hx) (fun w0 w L R' hm hs => Get_N hm hs HM3.out 492 492 rfl HP9.out HGB.out) ?_; rintro v R4 ⟨gv, rfl, hg4, hs4⟩; have HG4 := Lib.hid hg4; have HS4 := Lib.hid hs4; clear hg4 hs4; simp only [Act.put, sia, scs, scz])
   | (apply Bny.E_pureq rfl rfl rfl
      case h => intro K hK; go_big_quiet_op; (refine hK _ ?_; rfl)
      case hr => exact fun _ => rfl
      simp only [Act.put, sia, scs, scz])
   | (apply Bny.E_val rfl rfl rfl rfl
      case h =>
        intro E' hA K hK
        first
          | ((with_reducible refine Bny.at_qload (T := 26) ?_); refine Bny.q_ldv 1004 hA (by decide) rfl rfl 1 _ Tryz.underlying26 rfl infoM (by decide) rfl ?_; refine hK _ ?_; rfl)
          | ((with_reducible refine Bny.at_qload (T := 33) ?_); refine Bny.q_ldv 1003 hA (by decide) rfl rfl 21 _ Tryz.underlying33 rfl infoN (by decide) rfl ?_; refine hK _ ?_; rfl)
          | (go_big_quiet_op; first
            | (refine hK _ ?_; rfl)
            | (refine ⟨_, fun _ _ => rfl, ?_⟩; refine hK _ ?_; rfl)
            | (apply Exists.intro; refine ⟨fun w1 hw1 => ?_, ?_⟩; · (first
                | (go_at_call 34; exact Bny.calls_VE (inc_1 _) hw1))
               refine hK _ ?_; rfl))
      case hD => rfl
      simp only [Act.put, sia, scs, scz]))
 try any_goals exact undef
 refine Bny.E_nil ?_
 intro w9 hE9
 replace hv : Mem w0 w9 ([(b_8, #[.int .i64 0, .int .i64 4, .slice fa3 1 fc3, .int .u16 rav, .int .u16 la1, .slice ca3 3 cc3]), (b_5, #[.int .i64 0, .int .i64 0, .slice none 0 0, .int .u16 0, .int .u16 0, .slice none 0 0, .int .i64 0, .int .i64 0, .slice none 0 0, .int .u16 0, .int .u16 0, .slice none 0 0, .int .i64 0, .int .i64 0, .int .i64 0, .int .i64 0, .int .i64 0, .int .i64 0, .int .i64 0, .int .i64 0, .int .i64 0]), (b_4, #[.slice none 0 0]), (b_3, #[.int .i64 0, .int .i64 4, .slice fa3 1 fc3, .int .u16 rav, .int .u16 la1, .slice ca3 3 cc3, .int .i64 120, .int .i64 4, .slice tfa tfn tfc, .int .u16 tav, .int .u16 tla, .slice tca tcn tcc, .int .i64 300, .int .i64 i0, .int .i64 0, .int .i64 i2, .int .i64 i3, .int .i64 o0, .int .i64 o1, .int .i64 o2, .int .i64 o3]), (b_2, #[.slice (some ⟨vb, 0, none⟩) 1900 vc])] ++ L) R4 := hE9.mem1 [1000, 1001, 1002, 1003, 1004] (by decide) 5 rfl
 clear hE9
 simp only [List.cons_append, List.nil_append] at hv
 have HSS : Hid (∀ x ∈ R, x ∈ R4) := Lib.hid (fun x hx => HS4.out x (HS3.out x hx))
 have HQ5 : Hid (InQ R4 (.slice fa3 1 fc3) (.slice ca3 3 cc3) [hd] rest) := Lib.hid (HQ3.out.mono HS4.out)
 go_wp2_with (first
   | ((with_reducible refine at_load (T := 26) ?_); refine wl_ldv rfl b_2 rfl _ hv.vars.ro 1 _ Tryz.underlying26 rfl infoM (by decide) rfl ?_)
   | ((with_reducible refine at_load (T := 33) ?_); refine wl_ldv rfl b_3 rfl _ hv.vars.ro 21 _ Tryz.underlying33 rfl infoN (by decide) rfl ?_)
   | (go_at_call 28; (with_reducible refine (hand_1 (nf1 := 0) (nc1 := 4) hv (HM.out.mono HSS.out) HQ5.out HO3.out HAV.out HAV1.out rfl rfl (getD1 hd) HX.out HH2.out).mono ?_); rintro e w1 ⟨vb5, vc5, fc5, cc5, fa5, ca5, c5, R5, rfl, hv1, hi5, hq5, ho5, k1, k2, k3, hs5⟩; replace hv := hv1; have HI5 := Lib.hid hi5; have HQ9 := Lib.hid hq5; have HO9 := Lib.hid ho5; have K1 := Lib.hid k1; have K2 := Lib.hid k2; have K3 := Lib.hid k3; have HS5 := Lib.hid hs5; clear hv1 hi5 hq5 ho5 k1 k2 k3 hs5)
   | ((with_reducible refine at_store (T := 26) ?_); refine wl_stv rfl b_2 rfl _ rfl _ hv.vars.ro hv.vars.so 1 infoM rfl rfl (by simp [Value.oneCell']) ?_; intro w2 hw2; replace hv := hv.sets (by repeat first | exact .z | apply SetM.s) hw2; clear hw2)
   | ((with_reducible refine at_store (T := 33) ?_); refine wl_stv rfl b_3 rfl _ rfl _ hv.vars.ro hv.vars.so 21 infoN rfl rfl (by simp [Value.oneCell']) ?_; intro w2 hw2; replace hv := hv.sets (by repeat first | exact .z | apply SetM.s) hw2; clear hw2))
 replace hv : Mem w0 _ ([(b_8, _), (b_5, _), (b_4, _), (b_3, _), (b_2, _)] ++ L) R5 := hv
 try simp only [Act.put]
 refine Bny.wp_region_walk _ _ [⟨[1004], none⟩, ⟨[1003], none⟩, ⟨[], none⟩, ⟨[1002], some 1002⟩, ⟨[1001], some 1001⟩, ⟨[], none⟩, ⟨[], none⟩] [.val, .val, .val, .put, .put, .val, .val] (by kernel_rfl) (by kernel_rfl) hv ?_
 simp only [List.length_cons, List.length_nil, Nat.zero_add, Any.someVals]
 iterate 7 apply Exists.intro
 repeat (first
   | (refine Bny.E_off rfl ?_; simp only [Act.put, sia, scs, scz])
   | ((with_reducible refine Bny.at_estore (T := 26) ?_); refine Bny.E_putv (T := 26) rfl rfl rfl rfl rfl rfl 1 infoM rfl rfl (by simp [Value.oneCell']) ?_; simp only [Act.put, sia, scs, scz])
   | ((with_reducible refine Bny.at_estore (T := 33) ?_); refine Bny.E_putv (T := 33) rfl rfl rfl rfl rfl rfl 21 infoN rfl rfl (by simp [Value.oneCell']) ?_; simp only [Act.put, sia, scs, scz])
   | (apply Bny.E_pureq rfl rfl rfl
      case h => intro K hK; go_big_quiet_op; (refine hK _ ?_; rfl)
      case hr => exact fun _ => rfl
      simp only [Act.put, sia, scs, scz])
   | (apply Bny.E_val rfl rfl rfl rfl
      case h =>
        intro E' hA K hK
        first
          | ((with_reducible refine Bny.at_qload (T := 26) ?_); refine Bny.q_ldv 1004 hA (by decide) rfl rfl 1 _ Tryz.underlying26 rfl infoM (by decide) rfl ?_; refine hK _ ?_; rfl)
          | ((with_reducible refine Bny.at_qload (T := 33) ?_); refine Bny.q_ldv 1003 hA (by decide) rfl rfl 21 _ Tryz.underlying33 rfl infoN (by decide) rfl ?_; refine hK _ ?_; rfl)
          | (go_big_quiet_op; first
            | (refine hK _ ?_; rfl)
            | (refine ⟨_, fun _ _ => rfl, ?_⟩; refine hK _ ?_; rfl)
            | (apply Exists.intro; refine ⟨fun w1 hw1 => ?_, ?_⟩; · (first
                | fail)
               refine hK _ ?_; rfl))
      case hD => rfl
      simp only [Act.put, sia, scs, scz]))
 try any_goals exact undef
 refine Bny.E_nil ?_
 intro w9 hE9
 replace hv : Mem w0 w9 ([(b_8, #[.int .i64 0, .int .i64 4, .slice fa3 1 fc3, .int .u16 rav, .int .u16 la1, .slice ca3 3 cc3]), (b_5, #[.int .i64 0, .int .i64 4, .slice fa5 0 fc5, .int .u16 av1, .int .u16 la1, .slice ca5 4 cc5, .int .i64 120, .int .i64 4, .slice tfa tfn tfc, .int .u16 tav, .int .u16 tla, .slice tca tcn tcc, .int .i64 300, .int .i64 i0, .int .i64 i1, .int .i64 i2, .int .i64 i3, .int .i64 o0, .int .i64 o1, .int .i64 o2, .int .i64 o3]), (b_4, #[.slice (some ⟨vb5, 0, none⟩) 1900 vc5]), (b_3, #[.int .i64 0, .int .i64 4, .slice fa5 0 fc5, .int .u16 av1, .int .u16 la1, .slice ca5 4 cc5, .int .i64 120, .int .i64 4, .slice tfa tfn tfc, .int .u16 tav, .int .u16 tla, .slice tca tcn tcc, .int .i64 300, .int .i64 i0, .int .i64 i1, .int .i64 i2, .int .i64 i3, .int .i64 o0, .int .i64 o1, .int .i64 o2, .int .i64 o3]), (b_2, #[.slice (some ⟨vb5, 0, none⟩) 1900 vc5])] ++ L) R5 := hE9.mem0 [1000, 1001, 1002, 1003, 1004] (by decide)
 clear hE9
 simp only [List.cons_append, List.nil_append] at hv
 go_wp2
 try simp only [Exit.inBlock, Exit.then]
 obtain ⟨gb, gc, rfl, hgr⟩ := HG4.out HN0.out
 refine ret_cctt (v := .agg #[.slice (some ⟨vb5, 0, none⟩) 1900 vc5]) (v' := .agg #[.int .i64 0, .int .i64 4, .slice fa5 0 fc5, .int .u16 av1, .int .u16 la1, .slice ca5 4 cc5, .int .i64 120, .int .i64 4, .slice tfa tfn tfc, .int .u16 tav, .int .u16 tla, .slice tca tcn tcc, .int .i64 300, .int .i64 i0, .int .i64 i1, .int .i64 i2, .int .i64 i3, .int .i64 o0, .int .i64 o1, .int .i64 o2, .int .i64 o3]) (v1 := .slice (some ⟨gb, 0, none⟩) n gc) (v2 := .int .i64 0) rfl rfl rfl (read_row _ b_4 26 _ (hv.vars.ro (b := b_4)) 1 _ Tryz.underlying26 rfl infoM (by decide) rfl) (read_row _ b_5 33 _ (hv.vars.ro (b := b_5)) 21 _ Tryz.underlying33 rfl infoN (by decide) rfl) rfl rfl rfl ?_
 have hdh := HDH.out
 subst hdh
 exact ⟨vb5, vc5, fc5, cc5, fa5, ca5, c5, R5, gb, gc, rfl, hv.keep (by exact List.sublist_append_right [_, _, _, _, _] L), HI5.out, HQ9.out, HO9.out, K1.out, K2.out, K3.out, HS5.out _ hgr, fun x hx => HS5.out x (HSS.out x hx)⟩
theorem Take_1_drop {w0 w : World} {L : List (Nat × Array Value)} {R : List (Nat × Value × List Value)} (hv : Mem w0 w L R) {rav la us ah hd n av1 la1 tav tla rfc rcc tfn tfc tcn tcc vb vc : Nat} {rfa rca tfa tca : Option Addr} {tfree : List Nat} {c0 : Chn} {rest tchs : List Chn} {i0 i1 i2 i3 o0 o1 o2 o3 : Nat} {M D : List Nat} (hn : NetQ R (.slice rfa 0 rfc) (.slice rca 4 rcc) (.slice tfa tfn tfc) (.slice tca tcn tcc) [] (c0 :: rest) tfree tchs [i0, i1, i2, i3] [o0, o1, o2, o3]) (hm : InM R vb 0 1900 vc M) (hus : getN M (0 + (backN 4 + 2)) 2 = us) (hah : (us + 65536 - la) % 65536 = ah) (hla : la + 1 < 65536) (hah0 : ah ≠ 0) (hah4 : ah ≤ 4) (hid : getN M (0 + (backN 4 + (4 + 8 * (la % 4)))) 4 = hd) (hlen : getN M (0 + (backN 4 + (4 + 8 * (la % 4))) + 4) 4 = n) (hch : c0.h = hd) (hcd : c0.ds = [hd]) (hrm : n ≤ c0.rm) (hla1 : la + 1 = la1) (hav : rav < 65535) (hav1 : rav + 1 = av1) (hd1 : hd = 1) (hih : hd + 1 = i1) (hi : idxF (· == hd + 1) [i0, i1, i2, i3] = 1) (hg : getB M 492 n = D) (hn192 : n ≤ 192) (hbad : n = 0 ∨ 180 < n) :
   Calls Tryz.prog 11 #[.agg #[.slice (some ⟨vb, 0, none⟩) 1900 vc], .agg #[.int .i64 0, .int .i64 4, .slice rfa 0 rfc, .int .u16 rav, .int .u16 la, .slice rca 4 rcc, .int .i64 120, .int .i64 4, .slice tfa tfn tfc, .int .u16 tav, .int .u16 tla, .slice tca tcn tcc, .int .i64 300, .int .i64 i0, .int .i64 i1, .int .i64 i2, .int .i64 i3, .int .i64 o0, .int .i64 o1, .int .i64 o2, .int .i64 o3]] w fun e w' => ∃ vb5 vc5 fc5 cc5 fa5 ca5 c5 R5, e = .returned (.tuple #[.agg #[.slice (some ⟨vb5, 0, none⟩) 1900 vc5], .agg #[.int .i64 0, .int .i64 4, .slice fa5 0 fc5, .int .u16 av1, .int .u16 la1, .slice ca5 4 cc5, .int .i64 120, .int .i64 4, .slice tfa tfn tfc, .int .u16 tav, .int .u16 tla, .slice tca tcn tcc, .int .i64 300, .int .i64 i0, .int .i64 i1, .int .i64 i2, .int .i64 i3, .int .i64 o0, .int .i64 o1, .int .i64 o2, .int .i64 o3], .slice none 0 0, .int .i64 180]) ∧ Mem w0 w' L R5 ∧ InM R5 vb5 0 1900 vc5 (addM M 0 4 rav [1] [(492, 192, true)]) ∧ InQ R5 (.slice fa5 0 fc5) (.slice ca5 4 cc5) [] (rest ++ [c5]) ∧ OkQ 4 [] (rest ++ [c5]) ∧ c5.h = 1 ∧ c5.ds = [1] ∧ c5.rm = 192 ∧ ∀ x ∈ R, x ∈ R5 := by
 have HN := Lib.hid hn
 have HM := Lib.hid hm
 have HUS := Lib.hid hus
 have HAH := Lib.hid hah
 have HLA := Lib.hid hla
 have HAH0 := Lib.hid hah0
 have HAH4 := Lib.hid hah4
 have HID := Lib.hid hid
 have HLEN := Lib.hid hlen
 have HCH := Lib.hid hch
 have HCD := Lib.hid hcd
 have HRM := Lib.hid hrm
 have HLA1 := Lib.hid hla1
 have HAV := Lib.hid hav
 have HAV1 := Lib.hid hav1
 have HX := Lib.hid hih
 have HI := Lib.hid hi
 have HGB := Lib.hid hg
 have HDH := Lib.hid hd1
 have HH1 : Hid (hd ≤ 1000) := Lib.hid (by omega)
 have HH2 : Hid (hd < 1000) := Lib.hid (by omega)
 have HP9 : Hid (492 + n ≤ 1900) := Lib.hid (by omega)
 have yb : (decide ((n : Int) < 1) || decide ((180 : Int) < (n : Int))) = true := by
   rcases hbad with h | h
   · rw [decide_eq_true (show (n : Int) < 1 by omega)]; rfl
   · rw [decide_eq_true (show (180 : Int) < (n : Int) by omega), Bool.or_true]
 have HBAD := Lib.hid hbad
 clear hn hm hus hah hla hah0 hah4 hid hlen hch hcd hrm hla1 hav hav1 hih hi hg hd1 hn192 hbad yb
 go_enter Tryz.func11, Tryz.ntmps11
 go_wp2_with (first
   | ((with_reducible refine at_box (T := 26) (dst := some 2) ?_); refine wl_newb rfl #[.slice (some ⟨vb, 0, none⟩) 1900 vc] 26 (fun _ => rfl) ?_; intro b_2 w2 hm2; replace hv := hv.madeAt hm2; clear hm2)
   | ((with_reducible refine at_box (T := 33) (dst := some 3) ?_); refine wl_newb rfl #[.int .i64 0, .int .i64 4, .slice rfa 0 rfc, .int .u16 rav, .int .u16 la, .slice rca 4 rcc, .int .i64 120, .int .i64 4, .slice tfa tfn tfc, .int .u16 tav, .int .u16 tla, .slice tca tcn tcc, .int .i64 300, .int .i64 i0, .int .i64 i1, .int .i64 i2, .int .i64 i3, .int .i64 o0, .int .i64 o1, .int .i64 o2, .int .i64 o3] 33 (fun _ => rfl) ?_; intro b_3 w2 hm2; replace hv := hv.madeAt hm2; clear hm2)
   | ((with_reducible refine at_alloc (T := 26) (dst := some 4) ?_); refine wl_newb rfl #[.slice none 0 0] 26 (fun _ => rfl) ?_; intro b_4 w2 hm2; replace hv := hv.madeAt hm2; clear hm2)
   | ((with_reducible refine at_alloc (T := 33) (dst := some 5) ?_); refine wl_newb rfl #[.int .i64 0, .int .i64 0, .slice none 0 0, .int .u16 0, .int .u16 0, .slice none 0 0, .int .i64 0, .int .i64 0, .slice none 0 0, .int .u16 0, .int .u16 0, .slice none 0 0, .int .i64 0, .int .i64 0, .int .i64 0, .int .i64 0, .int .i64 0, .int .i64 0, .int .i64 0, .int .i64 0, .int .i64 0] 33 (fun _ => rfl) ?_; intro b_5 w2 hm2; replace hv := hv.madeAt hm2; clear hm2)
   | ((with_reducible refine at_load (T := 33) ?_); refine wl_ldv rfl b_3 rfl _ hv.vars.ro 21 _ Tryz.underlying33 rfl infoN (by decide) rfl ?_)
   | (go_at_call 12; (with_reducible refine (NCheck_ok hv HN.out).mono ?_); rintro e w1 ⟨rfl, hn1⟩; replace hv := hv.new hn1; clear hn1)
   | ((with_reducible refine at_load (T := 26) ?_); refine wl_ldv rfl b_2 rfl _ hv.vars.ro 1 _ Tryz.underlying26 rfl infoM (by decide) rfl ?_)
   | ((with_reducible refine at_load (T := 30) ?_); refine wl_ldp rfl b_3 0 rfl _ hv.vars.ro 6 _ Tryz.underlying30 rfl infoQ (by decide) (by show 0 + 6 ≤ 21; decide) #[.int .i64 0, .int .i64 4, .slice rfa 0 rfc, .int .u16 rav, .int .u16 la, .slice rca 4 rcc] rfl ?_)
   | (go_at_call 32; (with_reducible refine (Poll_r hv HM.out HN.out.rq HN.out.ro HUS.out HAH.out HLA.out HAH0.out HAH4.out HID.out HLEN.out HCH.out HCD.out HRM.out HLA1.out).mono ?_); rintro e w1 ⟨fc3, cc3, fa3, ca3, R3, rfl, hv1, hq3, ho3, hs3⟩; replace hv := hv1; have HQ3 := Lib.hid hq3; have HO3 := Lib.hid ho3; have HS3 := Lib.hid hs3; clear hv1 hq3 ho3 hs3)
   | ((with_reducible refine at_alloc (T := 30) (dst := some 8) ?_); refine wl_newb rfl #[.int .i64 0, .int .i64 0, .slice none 0 0, .int .u16 0, .int .u16 0, .slice none 0 0] 30 (fun _ => rfl) ?_; intro b_8 w2 hm2; replace hv := hv.madeAt hm2; clear hm2)
   | ((with_reducible refine at_store (T := 30) ?_); refine wl_stv rfl b_8 rfl _ rfl _ hv.vars.ro hv.vars.so 6 infoQ rfl rfl (by simp [Value.oneCell']) ?_; intro w2 hw2; replace hv := hv.sets (by repeat first | exact .z | apply SetM.s) hw2; clear hw2)
   | ((with_reducible refine at_load (T := 30) ?_); refine wl_ldv rfl b_8 rfl _ hv.vars.ro 6 _ Tryz.underlying30 rfl infoQ (by decide) rfl ?_)
   | ((with_reducible refine at_store (T := 30) ?_); refine wl_stp rfl b_3 0 rfl _ rfl _ hv.vars.ro hv.vars.so 6 infoQ rfl (by show 0 + 6 ≤ 21; decide) (by simp [Value.oneCell']) #[.int .i64 0, .int .i64 4, .slice fa3 1 fc3, .int .u16 rav, .int .u16 la1, .slice ca3 3 cc3, .int .i64 120, .int .i64 4, .slice tfa tfn tfc, .int .u16 tav, .int .u16 tla, .slice tca tcn tcc, .int .i64 300, .int .i64 i0, .int .i64 i1, .int .i64 i2, .int .i64 i3, .int .i64 o0, .int .i64 o1, .int .i64 o2, .int .i64 o3] (splice_21_0_6 _ _ _ _ _ _ _ _ _ _ _ _ _ _ _ _ _ _ _ _ _ _ _ _ _ _ _) ?_; intro w2 hw2; replace hv := hv.sets (by repeat first | exact .z | apply SetM.s) hw2; clear hw2)
   | ((with_reducible refine at_load (T := 31) ?_); refine wl_ldp rfl b_3 13 rfl _ hv.vars.ro 4 _ Tryz.underlying31 rfl infoA4 (by decide) (by show 13 + 4 ≤ 21; decide) #[.int .i64 i0, .int .i64 i1, .int .i64 i2, .int .i64 i3] rfl ?_)
   | (go_at_call 33; (with_reducible refine (of_any i0 i1 i2 i3 hd HN.out.bl HH1.out _).mono ?_); rw [HI.out]; rintro e w1 ⟨rfl, hn1⟩; replace hv := hv.new hn1; clear hn1)
   | ((with_reducible refine at_store (T := 3) ?_); refine wl_stc rfl b_3 14 rfl (.int .i64 0) rfl _ hv.vars.ro hv.vars.so (by kernel_rfl) rfl (by show 14 < 21; decide) ?_; intro w2 hw2; replace hv := hv.sets (by repeat first | exact .z | apply SetM.s) hw2; clear hw2; simp only [sia, scs, scz] at hv))
 have HM3 : Hid (InM R3 vb 0 1900 vc M) := Lib.hid (HM.out.mono HS3.out)
 have HSO : Hid (∃ v R', GetNW R3 n D v R') := Lib.hid (Bny.some_of (Get_N hv (fun x hx => hx) HM3.out 492 492 rfl HP9.out HGB.out))
 replace hv : Mem w0 _ ([(b_8, _), (b_5, _), (b_4, _), (b_3, _), (b_2, _)] ++ L) R3 := hv
 try simp only [Act.put]
 refine Bny.wp_region_walk _ _ [⟨[1004], none⟩, ⟨[1003], none⟩, ⟨[], none⟩, ⟨[], none⟩, ⟨[], none⟩, ⟨[], some 5⟩, ⟨[], none⟩, ⟨[], none⟩, ⟨[], none⟩, ⟨[], none⟩, ⟨[], none⟩] [.val, .val, .val, .val, .val, .mem (GetNW R3 n D), .pure, .pure, .pure, .pure, .pure] (by kernel_rfl) (by kernel_rfl) hv ?_
 simp only [List.length_cons, List.length_nil, Nat.zero_add, Any.someVals]
 iterate 11 apply Exists.intro
 repeat (first
   | (refine Bny.E_off rfl ?_; simp only [Act.put, sia, scs, scz])
   | ((with_reducible refine Bny.at_ecallf (f := 27) ?_); refine Bny.E_callmem rfl rfl rfl (Go.Proofs.enters_of Tryz.func27 (by kernel_rfl) rfl) rfl [.agg #[.slice (some ⟨vb, 0, none⟩) 1900 vc], .int .i64 492, .int .i64 n] rfl HSO.out R3 (fun x hx => .inl hx) (fun w0 w L R' hm hs => Get_N hm hs HM3.out 492 492 rfl HP9.out HGB.out) ?_; rintro v R4 ⟨gv, rfl, hg4, hs4⟩; have HG4 := Lib.hid hg4; have HS4 := Lib.hid hs4; clear hg4 hs4; simp only [Act.put, sia, scs, scz])
   | (apply Bny.E_pureq rfl rfl rfl
      case h => intro K hK; go_big_quiet_op; (refine hK _ ?_; rfl)
      case hr => exact fun _ => rfl
      simp only [Act.put, sia, scs, scz])
   | (apply Bny.E_val rfl rfl rfl rfl
      case h =>
        intro E' hA K hK
        first
          | ((with_reducible refine Bny.at_qload (T := 26) ?_); refine Bny.q_ldv 1004 hA (by decide) rfl rfl 1 _ Tryz.underlying26 rfl infoM (by decide) rfl ?_; refine hK _ ?_; rfl)
          | ((with_reducible refine Bny.at_qload (T := 33) ?_); refine Bny.q_ldv 1003 hA (by decide) rfl rfl 21 _ Tryz.underlying33 rfl infoN (by decide) rfl ?_; refine hK _ ?_; rfl)
          | (go_big_quiet_op; first
            | (refine hK _ ?_; rfl)
            | (refine ⟨_, fun _ _ => rfl, ?_⟩; refine hK _ ?_; rfl)
            | (apply Exists.intro; refine ⟨fun w1 hw1 => ?_, ?_⟩; · (first
                | (go_at_call 34; exact Bny.calls_VE (inc_1 _) hw1))
               refine hK _ ?_; rfl))
      case hD => rfl
      simp only [Act.put, sia, scs, scz]))
 try any_goals exact undef
 refine Bny.E_nil ?_
 intro w9 hE9
 replace hv : Mem w0 w9 ([(b_8, #[.int .i64 0, .int .i64 4, .slice fa3 1 fc3, .int .u16 rav, .int .u16 la1, .slice ca3 3 cc3]), (b_5, #[.int .i64 0, .int .i64 0, .slice none 0 0, .int .u16 0, .int .u16 0, .slice none 0 0, .int .i64 0, .int .i64 0, .slice none 0 0, .int .u16 0, .int .u16 0, .slice none 0 0, .int .i64 0, .int .i64 0, .int .i64 0, .int .i64 0, .int .i64 0, .int .i64 0, .int .i64 0, .int .i64 0, .int .i64 0]), (b_4, #[.slice none 0 0]), (b_3, #[.int .i64 0, .int .i64 4, .slice fa3 1 fc3, .int .u16 rav, .int .u16 la1, .slice ca3 3 cc3, .int .i64 120, .int .i64 4, .slice tfa tfn tfc, .int .u16 tav, .int .u16 tla, .slice tca tcn tcc, .int .i64 300, .int .i64 i0, .int .i64 0, .int .i64 i2, .int .i64 i3, .int .i64 o0, .int .i64 o1, .int .i64 o2, .int .i64 o3]), (b_2, #[.slice (some ⟨vb, 0, none⟩) 1900 vc])] ++ L) R4 := hE9.mem1 [1000, 1001, 1002, 1003, 1004] (by decide) 5 rfl
 clear hE9
 simp only [List.cons_append, List.nil_append] at hv
 have HSS : Hid (∀ x ∈ R, x ∈ R4) := Lib.hid (fun x hx => HS4.out x (HS3.out x hx))
 have HQ5 : Hid (InQ R4 (.slice fa3 1 fc3) (.slice ca3 3 cc3) [hd] rest) := Lib.hid (HQ3.out.mono HS4.out)
 rcases HBAD.out with hb0 | hb0
 all_goals (
   first
     | (have y1 : decide ((n : Int) < 1) = true := decide_eq_true (by omega))
     | (have y1 : decide ((n : Int) < 1) = false := decide_eq_false (by omega))
   first
     | (have z1 : decide (n < 1) = true := decide_eq_true (by omega))
     | (have z1 : decide (n < 1) = false := decide_eq_false (by omega))
   first
     | (have y2 : decide ((180 : Int) < (n : Int)) = true := decide_eq_true (by omega))
     | (have y2 : decide ((180 : Int) < (n : Int)) = false := decide_eq_false (by omega))
   first
     | (have z2 : decide (180 < n) = true := decide_eq_true (by omega))
     | (have z2 : decide (180 < n) = false := decide_eq_false (by omega))
   clear hb0)
 all_goals (
   go_wp2_with (first
     | ((with_reducible refine at_load (T := 26) ?_); refine wl_ldv rfl b_2 rfl _ hv.vars.ro 1 _ Tryz.underlying26 rfl infoM (by decide) rfl ?_)
     | ((with_reducible refine at_load (T := 33) ?_); refine wl_ldv rfl b_3 rfl _ hv.vars.ro 21 _ Tryz.underlying33 rfl infoN (by decide) rfl ?_)
     | (go_at_call 28; (with_reducible refine (hand_1 (nf1 := 0) (nc1 := 4) hv (HM.out.mono HSS.out) HQ5.out HO3.out HAV.out HAV1.out rfl rfl (getD1 hd) HX.out HH2.out).mono ?_); rintro e w1 ⟨vb5, vc5, fc5, cc5, fa5, ca5, c5, R5, rfl, hv1, hi5, hq5, ho5, k1, k2, k3, hs5⟩; replace hv := hv1; have HI5 := Lib.hid hi5; have HQ9 := Lib.hid hq5; have HO9 := Lib.hid ho5; have K1 := Lib.hid k1; have K2 := Lib.hid k2; have K3 := Lib.hid k3; have HS5 := Lib.hid hs5; clear hv1 hi5 hq5 ho5 k1 k2 k3 hs5)
     | ((with_reducible refine at_store (T := 26) ?_); refine wl_stv rfl b_2 rfl _ rfl _ hv.vars.ro hv.vars.so 1 infoM rfl rfl (by simp [Value.oneCell']) ?_; intro w2 hw2; replace hv := hv.sets (by repeat first | exact .z | apply SetM.s) hw2; clear hw2)
     | ((with_reducible refine at_store (T := 33) ?_); refine wl_stv rfl b_3 rfl _ rfl _ hv.vars.ro hv.vars.so 21 infoN rfl rfl (by simp [Value.oneCell']) ?_; intro w2 hw2; replace hv := hv.sets (by repeat first | exact .z | apply SetM.s) hw2; clear hw2))
   replace hv : Mem w0 _ ([(b_8, _), (b_5, _), (b_4, _), (b_3, _), (b_2, _)] ++ L) R5 := hv
   try simp only [Act.put]
   refine Bny.wp_region_walk _ _ [⟨[1004], none⟩, ⟨[1003], none⟩, ⟨[1002], some 1002⟩, ⟨[1001], some 1001⟩, ⟨[], none⟩, ⟨[], none⟩] [.val, .val, .put, .put, .val, .val] (by kernel_rfl) (by kernel_rfl) hv ?_
   simp only [List.length_cons, List.length_nil, Nat.zero_add, Any.someVals]
   iterate 6 apply Exists.intro
   repeat (first
     | (refine Bny.E_off rfl ?_; simp only [Act.put, sia, scs, scz])
     | ((with_reducible refine Bny.at_estore (T := 26) ?_); refine Bny.E_putv (T := 26) rfl rfl rfl rfl rfl rfl 1 infoM rfl rfl (by simp [Value.oneCell']) ?_; simp only [Act.put, sia, scs, scz])
     | ((with_reducible refine Bny.at_estore (T := 33) ?_); refine Bny.E_putv (T := 33) rfl rfl rfl rfl rfl rfl 21 infoN rfl rfl (by simp [Value.oneCell']) ?_; simp only [Act.put, sia, scs, scz])
     | (apply Bny.E_pureq rfl rfl rfl
        case h => intro K hK; go_big_quiet_op; (refine hK _ ?_; rfl)
        case hr => exact fun _ => rfl
        simp only [Act.put, sia, scs, scz])
     | (apply Bny.E_val rfl rfl rfl rfl
        case h =>
          intro E' hA K hK
          first
            | ((with_reducible refine Bny.at_qload (T := 26) ?_); refine Bny.q_ldv 1004 hA (by decide) rfl rfl 1 _ Tryz.underlying26 rfl infoM (by decide) rfl ?_; refine hK _ ?_; rfl)
            | ((with_reducible refine Bny.at_qload (T := 33) ?_); refine Bny.q_ldv 1003 hA (by decide) rfl rfl 21 _ Tryz.underlying33 rfl infoN (by decide) rfl ?_; refine hK _ ?_; rfl)
            | (go_big_quiet_op; first
              | (refine hK _ ?_; rfl)
              | (refine ⟨_, fun _ _ => rfl, ?_⟩; refine hK _ ?_; rfl)
              | (apply Exists.intro; refine ⟨fun w1 hw1 => ?_, ?_⟩; · (first
                  | fail)
                 refine hK _ ?_; rfl))
        case hD => rfl
        simp only [Act.put, sia, scs, scz]))
   try any_goals exact undef
   refine Bny.E_nil ?_
   intro w9 hE9
   replace hv : Mem w0 w9 ([(b_8, #[.int .i64 0, .int .i64 4, .slice fa3 1 fc3, .int .u16 rav, .int .u16 la1, .slice ca3 3 cc3]), (b_5, #[.int .i64 0, .int .i64 4, .slice fa5 0 fc5, .int .u16 av1, .int .u16 la1, .slice ca5 4 cc5, .int .i64 120, .int .i64 4, .slice tfa tfn tfc, .int .u16 tav, .int .u16 tla, .slice tca tcn tcc, .int .i64 300, .int .i64 i0, .int .i64 i1, .int .i64 i2, .int .i64 i3, .int .i64 o0, .int .i64 o1, .int .i64 o2, .int .i64 o3]), (b_4, #[.slice (some ⟨vb5, 0, none⟩) 1900 vc5]), (b_3, #[.int .i64 0, .int .i64 4, .slice fa5 0 fc5, .int .u16 av1, .int .u16 la1, .slice ca5 4 cc5, .int .i64 120, .int .i64 4, .slice tfa tfn tfc, .int .u16 tav, .int .u16 tla, .slice tca tcn tcc, .int .i64 300, .int .i64 i0, .int .i64 i1, .int .i64 i2, .int .i64 i3, .int .i64 o0, .int .i64 o1, .int .i64 o2, .int .i64 o3]), (b_2, #[.slice (some ⟨vb5, 0, none⟩) 1900 vc5])] ++ L) R5 := hE9.mem0 [1000, 1001, 1002, 1003, 1004] (by decide)
   clear hE9
   simp only [List.cons_append, List.nil_append] at hv
   go_wp2
   try simp only [Exit.inBlock, Exit.then]
   refine ret_cctt (v := .agg #[.slice (some ⟨vb5, 0, none⟩) 1900 vc5]) (v' := .agg #[.int .i64 0, .int .i64 4, .slice fa5 0 fc5, .int .u16 av1, .int .u16 la1, .slice ca5 4 cc5, .int .i64 120, .int .i64 4, .slice tfa tfn tfc, .int .u16 tav, .int .u16 tla, .slice tca tcn tcc, .int .i64 300, .int .i64 i0, .int .i64 i1, .int .i64 i2, .int .i64 i3, .int .i64 o0, .int .i64 o1, .int .i64 o2, .int .i64 o3]) (v1 := .slice none 0 0) (v2 := .int .i64 180) rfl rfl rfl (read_row _ b_4 26 _ (hv.vars.ro (b := b_4)) 1 _ Tryz.underlying26 rfl infoM (by decide) rfl) (read_row _ b_5 33 _ (hv.vars.ro (b := b_5)) 21 _ Tryz.underlying33 rfl infoN (by decide) rfl) rfl rfl rfl ?_
   have hdh := HDH.out
   subst hdh
   exact ⟨vb5, vc5, fc5, cc5, fa5, ca5, c5, R5, rfl, hv.keep (by exact List.sublist_append_right [_, _, _, _, _] L), HI5.out, HQ9.out, HO9.out, K1.out, K2.out, K3.out, fun x hx => HS5.out x (HSS.out x hx)⟩)
end Go.Proofs.YtjmibgomkgkhnaaGreat
