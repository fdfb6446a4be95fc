import Derived.Test.YtjmibgomkgkhnaaGreatVbU
import Derived.Test.YtjmibgomkgkhnaaGreatQuPl
import Derived.Test.YtjmibgomkgkhnaaGreatVnP
import Derived.Test.YtjmibgomkgkhnaaGreatVnX
import Derived.Test.YtjmibgomkgkhnaaGreatBnp
set_option linter.unusedSimpArgs false
set_option linter.unusedVariables false
set_option maxRecDepth 100000
set_option maxHeartbeats 16000000
section
/-
 A disk's driver (layer 9): requests looked through; bytes put, a request's title laid.
-/
namespace Go.Proofs.Qu
open Go Go.RowKit Go.Proofs.Nm
def titleM (M : List Nat) (p kind s : Nat) : List Nat := putB (putB (putB M p (List.replicate 16 0)) p (leB kind 4)) (p + 8) (leB s 8)
theorem splice_24_23_1 (a0 a1 a2 a3 a4 a5 a6 a7 a8 a9 a10 a11 a12 a13 a14 a15 a16 a17 a18 a19 a20 a21 a22 a23 v0 : Value) : splice #[a0, a1, a2, a3, a4, a5, a6, a7, a8, a9, a10, a11, a12, a13, a14, a15, a16, a17, a18, a19, a20, a21, a22, a23] 23 #[v0] = #[a0, a1, a2, a3, a4, a5, a6, a7, a8, a9, a10, a11, a12, a13, a14, a15, a16, a17, a18, a19, a20, a21, a22, v0] := by simp [splice]
end Go.Proofs.Qu
namespace Go.Proofs.YtjmibgomkgkhnaaGreat
open Go.Proofs.Qu Go.Proofs.Nm Go.RowKit Go.Proofs
theorem infoRq4 : (Tryz.prog.info? 55).map (·.size) = some 4 := by kernel_rfl
theorem infoBk23 : (Tryz.prog.info? 58).map (·.size) = some 23 := by kernel_rfl
theorem IndexR_any {v : Value} {l : List Rq} (hl100 : l.length ≤ 100000) {f : FuncId} {cap : Array Value} (p : Rq → Bool) (hE : Enters Tryz.prog f) (w : World) (hr : Rd w 4 v (cellsR l)) (hdo : ∀ c ∈ l, ∀ w1, New w w1 → Calls Tryz.prog f (#[.agg #[.bool c.1, .int .i64 (c.2.1 : Nat), .bool c.2.2.1, .int .i64 c.2.2.2]] ++ cap) w1 fun e w' => e = .returned (.bool (p c)) ∧ New w1 w') :
   Calls Tryz.prog 45 #[v, .func (.func f) #[] cap] w fun e w' => e = .returned (.int .i64 (idxF p l)) ∧ New w w' := by
 have hv := (Mem.nil w).old hr
 obtain ⟨aa, an, ac, rfl, g1, _⟩ := id hr
 rw [cellsR_len] at g1
 have HL : Hid ((4, Value.slice aa an ac, cellsR l) ∈ [(4, Value.slice aa an ac, cellsR l)]) := Lib.hid Mem.z
 have HE := Lib.hid hE
 have HDO := Lib.hid hdo
 have hln : l.length = an := by omega
 have HLN := Lib.hid hln
 have HAB : Hid (an ≤ 100000) := Lib.hid (by omega)
 obtain ⟨res, hres⟩ : ∃ r, idxF p l = r := ⟨_, rfl⟩
 have HRES := Lib.hid hres
 rw [hres]
 clear hl100 hE hdo hr hln g1 hres
 go_enter Tryz.func45, Tryz.ntmps45
 go_wp2
 go_loopw [8] (fun kv wr => ∃ k : Nat, k ≤ an ∧ kv = .int .i64 k ∧ Hid (∀ j, j < k → ∀ y, l[j]? = some y → p y = false) ∧ Mem w wr [] [(4, Value.slice aa an ac, cellsR l)]) (fun kv _ => an - (intOf kv).toNat)
 case atStart => exact ⟨0, Nat.zero_le _, rfl, Lib.hid (fun j hj => absurd hj (Nat.not_lt_zero _)), hv⟩
 case round =>
   clear hv
   obtain ⟨k, hk0, rfl, HNO, hv⟩ := hrel
   by_cases hk : k < an
   · have hki : (k : Int) < (an : Int) := by omega
     have hkb : (k : Int) ≤ 100000 := by have := HAB.out; omega
     have hkl : k < l.length := by rw [HLN.out]; exact hk
     obtain ⟨⟨rb, rh, rf, rs⟩, hc⟩ : ∃ c, l[k] = c := ⟨_, rfl⟩
     have HX : Hid (l[k]? = some (rb, rh, rf, rs)) := Lib.hid (by rw [List.getElem?_eq_getElem hkl, hc])
     have HKC : Hid (((cellsR l).drop (k * 4)).take 4 = [.bool rb, .int .i64 rh, .bool rf, .int .i64 rs]) := Lib.hid (by
       have := cellsR_part l hkl
       rw [hc] at this; exact this)
     obtain ⟨pb, hpb⟩ : ∃ b, p (rb, rh, rf, rs) = b := ⟨_, rfl⟩
     have HP : Hid (∀ w1, New w w1 → Calls Tryz.prog f (#[.agg #[.bool rb, .int .i64 rh, .bool rf, .int .i64 rs]] ++ cap) w1 fun e w' => e = .returned (.bool pb) ∧ New w1 w') := Lib.hid (fun w1 hn => by
       have := HDO.out l[k] (List.getElem_mem _) w1 hn
       rw [hc, hpb] at this; exact this)
     obtain ⟨xb, xo, _, _, e, hq⟩ := (hv.rd HL.out).some (by rw [cellsR_len]; omega)
     clear hq
     cases e
     have HKN := Lib.hid hk
     have HPB := Lib.hid hpb
     clear hkl hc hk0 hk hpb
     cases pb with
     | false =>
       go_wp2_with (first
         | ((with_reducible refine at_load (T := 55) ?_); refine wl_rdv rfl (hv.rd HL.out) (k * 4) rfl 4 _ Tryz.underlying55 rfl infoRq4 (by decide) #[.bool rb, .int .i64 rh, .bool rf, .int .i64 rs] HKC.out rfl ?_)
         | ((with_reducible refine at_call ?_); refine wl_callv rfl HE.out rfl [.agg #[.bool rb, .int .i64 rh, .bool rf, .int .i64 rs]] rfl (HP.out _ hv.below) ?_; rintro e w1 ⟨rfl, hn1⟩; refine ⟨_, rfl, ?_⟩; replace hv := hv.new hn1; clear hn1))
       have hkn := HKN.out
       go_roundw
       case rel => exact ⟨k + 1, by omega, by go_num, Lib.hid (fun j hj y hy => by
         rcases Nat.lt_succ_iff_lt_or_eq.1 hj with h | h
         · exact HNO.out j h y hy
         · rw [h, HX.out] at hy; cases hy; exact HPB.out), hv⟩
       case measure => simp [intOf]; omega
     | true =>
       go_wp2_with (first
         | ((with_reducible refine at_load (T := 55) ?_); refine wl_rdv rfl (hv.rd HL.out) (k * 4) rfl 4 _ Tryz.underlying55 rfl infoRq4 (by decide) #[.bool rb, .int .i64 rh, .bool rf, .int .i64 rs] HKC.out rfl ?_)
         | ((with_reducible refine at_call ?_); refine wl_callv rfl HE.out rfl [.agg #[.bool rb, .int .i64 rh, .bool rf, .int .i64 rs]] rfl (HP.out _ hv.below) ?_; rintro e w1 ⟨rfl, hn1⟩; refine ⟨_, rfl, ?_⟩; replace hv := hv.new hn1; clear hn1))
       go_ret
       exact ⟨ret_i (by rw [← HRES.out]; exact (idxF_some HX.out HPB.out HNO.out).symm), hv.below⟩
   · have hki : ¬ (k : Int) < (an : Int) := by omega
     have hn : ∀ j, j < l.length → ∀ y, l[j]? = some y → p y = false := fun j hj => HNO.out j (by rw [HLN.out] at hj; omega)
     have HN := Lib.hid hn
     clear hk hk0 hn
     go_wp2
     go_ret
     exact ⟨ret_i (by rw [← HRES.out]; exact (idxF_none HN.out).symm), hv.below⟩
theorem ContainsC_none {v : Value} {l : List Chn} (hl100 : l.length ≤ 100000) {f : FuncId} {cap : Array Value} (hE : Enters Tryz.prog f) (w : World) (hr : Rd w 3 v (cellsC l)) (hdo : ∀ c ∈ l, ∀ w1, New w w1 → Calls Tryz.prog f (#[.agg #[.int .i64 (c.h : Nat), .slice (some ⟨c.db, c.d0, none⟩) c.dn c.dc, .int .i64 (c.rm : Nat)]] ++ cap) w1 fun e w' => e = .returned (.bool false) ∧ New w1 w') :
   Calls Tryz.prog 52 #[v, .func (.func f) #[] cap] w fun e w' => e = .returned (.bool false) ∧ New w w' := by
 have hv := Mem.nil w
 have hx := IndexC_any hl100 (fun _ => false) hE w hr hdo
 rw [idxF_none (fun _ _ _ _ => rfl)] at hx
 have HX := Lib.hid hx
 clear hl100 hE hdo hr hx
 go_enter Tryz.func52, Tryz.ntmps52
 go_wp2_with (first
   | (go_at_call 64; (with_reducible refine (HX.out).mono ?_); rintro e w1 ⟨rfl, hn1⟩; replace hv := hv.new hn1; clear hn1))
 go_ret
 exact ⟨rfl, hv.below⟩
theorem put_w {w0 w : World} {L : List (Nat × Array Value)} {R : List (Nat × Value × List Value)} {a0 a1 a2 a3 a4 a5 a6 a7 a8 a9 a10 a11 a12 a13 a14 a15 a16 a17 a18 a19 a20 a21 a22 : Value} {bw mb mc : Nat} {M : List Nat} (hv : Mem w0 w ((bw, #[a0, a1, a2, a3, a4, a5, a6, a7, a8, a9, a10, a11, a12, a13, a14, a15, a16, a17, a18, a19, a20, a21, a22, .slice (some ⟨mb, 0, none⟩) 1700 mc]) :: L) R) (hm : InM R mb 0 1700 mc M) (p : Nat) {db do_ dn dc : Nat} {D : List Nat} (hd : (1, .slice (some ⟨db, do_, none⟩) dn dc, cellsB D) ∈ R) (hg : goodB D) (h0 : 0 < dn) (hp : p + dn ≤ 1700) :
   Calls Tryz.prog 43 #[.pointer (some ⟨bw, 0, none⟩), .int .i64 p, .slice (some ⟨db, do_, none⟩) dn dc] w fun e w' => ∃ vb vc R1, e = .returned (.int .i64 0) ∧ Mem w0 w' ((bw, #[a0, a1, a2, a3, a4, a5, a6, a7, a8, a9, a10, a11, a12, a13, a14, a15, a16, a17, a18, a19, a20, a21, a22, .slice (some ⟨vb, 0, none⟩) 1700 vc]) :: L) R1 ∧ InM R1 vb 0 1700 vc (putB M p D) ∧ ∀ x ∈ R, x ∈ R1 := by
 have HM := Lib.hid hm
 have HD := Lib.hid hd
 have HG := Lib.hid hg
 have H0 := Lib.hid h0
 have HP := Lib.hid hp
 clear hm hd hg h0 hp
 go_enter Tryz.func43, Tryz.ntmps43
 go_wp2_with (first
   | ((with_reducible refine at_load (T := 26) ?_); refine wl_ldp rfl bw 23 rfl _ (hv.vars.ro (b := bw)) 1 _ Tryz.underlying26 rfl infoM (by decide) (by show 23 + 1 ≤ 24; decide) #[.slice (some ⟨mb, 0, none⟩) 1700 mc] rfl ?_)
   | (go_at_call 30; (with_reducible refine (Put_ok hv HM.out p HD.out HG.out H0.out HP.out).mono ?_); rintro e w1 ⟨vb, vc, R1, rfl, hv1, hm1, hs1⟩; replace hv := hv1; have HM1 := Lib.hid hm1; have HS1 := Lib.hid hs1; clear hv1 hm1 hs1)
   | ((with_reducible refine at_alloc (T := 26) (dst := some 7) ?_); refine wl_newb rfl #[.slice none 0 0] 26 (fun _ => rfl) ?_; intro b_7 w2 hm2; replace hv := hv.madeAt hm2; clear hm2)
   | ((with_reducible refine at_store (T := 26) ?_); refine wl_stv rfl b_7 rfl _ rfl _ hv.vars.ro hv.vars.so 1 infoM rfl rfl (by simp [Value.oneCell']) ?_; intro w2 hw2; replace hv := hv.sets (by repeat first | exact .z | apply SetM.s) hw2; clear hw2)
   | ((with_reducible refine at_load (T := 26) ?_); refine wl_ldv rfl b_7 rfl _ hv.vars.ro 1 _ Tryz.underlying26 rfl infoM (by decide) rfl ?_)
   | ((with_reducible refine at_store (T := 26) ?_); refine wl_stp rfl bw 23 rfl _ rfl _ hv.vars.ro hv.vars.so 1 infoM rfl (by show 23 + 1 ≤ 24; decide) (by simp [Value.oneCell']) #[a0, a1, a2, a3, a4, a5, a6, a7, a8, a9, a10, a11, a12, a13, a14, a15, a16, a17, a18, a19, a20, a21, a22, .slice (some ⟨vb, 0, none⟩) 1700 vc] (splice_24_23_1 _ _ _ _ _ _ _ _ _ _ _ _ _ _ _ _ _ _ _ _ _ _ _ _ _) ?_; intro w2 hw2; replace hv := hv.sets (by repeat first | exact .z | apply SetM.s) hw2; clear hw2))
 go_ret
 exact ⟨vb, vc, R1, rfl, hv.drop, HM1.out, HS1.out⟩
theorem PutNum_4 {w0 w : World} {L : List (Nat × Array Value)} {R : List (Nat × Value × List Value)} (hv : Mem w0 w L R) {mb mc : Nat} {M : List Nat} (hm : InM R mb 0 1700 mc M) (p n : Nat) (h : p + 4 ≤ 1700) (hn : n < 18446744073709551616) :
   Calls Tryz.prog 107 #[.agg #[.slice (some ⟨mb, 0, none⟩) 1700 mc], .int .i64 p, .int .i64 4, .int .u64 n] w fun e w' => ∃ b c R', e = .returned (.tuple #[.agg #[.slice (some ⟨b, 0, none⟩) 1700 c], .int .i64 0]) ∧ Mem w0 w' L R' ∧ InM R' b 0 1700 c (putB M p (leB n 4)) ∧ ∀ x ∈ R, x ∈ R' := PutNum_gen hv hm p n 4 (by decide) (by decide) h (fun w => LeR_4 n hn w)
theorem PutNum_8 {w0 w : World} {L : List (Nat × Array Value)} {R : List (Nat × Value × List Value)} (hv : Mem w0 w L R) {mb mc : Nat} {M : List Nat} (hm : InM R mb 0 1700 mc M) (p n : Nat) (h : p + 8 ≤ 1700) (hn : n < 18446744073709551616) :
   Calls Tryz.prog 107 #[.agg #[.slice (some ⟨mb, 0, none⟩) 1700 mc], .int .i64 p, .int .i64 8, .int .u64 n] w fun e w' => ∃ b c R', e = .returned (.tuple #[.agg #[.slice (some ⟨b, 0, none⟩) 1700 c], .int .i64 0]) ∧ Mem w0 w' L R' ∧ InM R' b 0 1700 c (putB M p (leB n 8)) ∧ ∀ x ∈ R, x ∈ R' := PutNum_gen hv hm p n 8 (by decide) (by decide) h (fun w => LeR_8 n hn w)
theorem title_w {w0 w : World} {L : List (Nat × Array Value)} {R : List (Nat × Value × List Value)} {a0 a1 a2 a3 a4 a5 a6 a7 a8 a9 a10 a11 a12 a13 a14 a15 a16 a17 a18 a19 a20 a21 a22 : Value} {bw mb mc : Nat} {M : List Nat} (hv : Mem w0 w ((bw, #[a0, a1, a2, a3, a4, a5, a6, a7, a8, a9, a10, a11, a12, a13, a14, a15, a16, a17, a18, a19, a20, a21, a22, .slice (some ⟨mb, 0, none⟩) 1700 mc]) :: L) R) (hm : InM R mb 0 1700 mc M) (p kind s_ : Nat) (hk : kind < 1000) (hs : s_ < 1000) (hp : p + 16 ≤ 1700) :
   Calls Tryz.prog 76 #[.pointer (some ⟨bw, 0, none⟩), .int .i64 p, .int .i64 kind, .int .i64 s_] w fun e w' => ∃ vb vc R1, e = .returned (.int .i64 0) ∧ Mem w0 w' ((bw, #[a0, a1, a2, a3, a4, a5, a6, a7, a8, a9, a10, a11, a12, a13, a14, a15, a16, a17, a18, a19, a20, a21, a22, .slice (some ⟨vb, 0, none⟩) 1700 vc]) :: L) R1 ∧ InM R1 vb 0 1700 vc (titleM M p kind s_) ∧ ∀ x ∈ R, x ∈ R1 := by
 obtain ⟨p8, hp8⟩ : ∃ p8, p + 8 = p8 := ⟨_, rfl⟩
 have HM := Lib.hid hm
 have HP8E := Lib.hid hp8
 have HZG := Lib.hid (zeros_good 16)
 have HZ0 : Hid (0 < 16) := Lib.hid (by decide)
 have HZP : Hid (p + 16 ≤ 1700) := Lib.hid hp
 have HP4 : Hid (p + 4 ≤ 1700) := Lib.hid (by omega)
 have HP8 : Hid (p8 + 8 ≤ 1700) := Lib.hid (by omega)
 have HKB : Hid (kind < 18446744073709551616) := Lib.hid (by omega)
 have HSB : Hid (s_ < 18446744073709551616) := Lib.hid (by omega)
 have q1 : IntKind.i64.wrap ((p : Int) + 8) = (p8 : Int) := by rw [IntWalk.i64_in _ (by omega)]; omega
 have q2 : IntKind.u64.wrap (kind : Int) = (kind : Int) := IntWalk.u64_in _ (by omega)
 have q3 : IntKind.u64.wrap (s_ : Int) = (s_ : Int) := IntWalk.u64_in _ (by omega)
 clear hm hk hs hp hp8
 go_enter Tryz.func76, Tryz.ntmps76
 go_wp2_with (first
   | ((with_reducible refine at_mkslice (T := 24) ?_); refine wl_mkz rfl 16 rfl rfl (by decide) ?_; intro b_12 w2 hm2; have hv1 := Mem.yield (L1 := []) (hv.madeAt hm2) (zeros_row b_12 16 (by decide)); simp only [List.nil_append] at hv1; replace hv := hv1; clear hv1 hm2; replace HM := Lib.hid (HM.out.mono (R' := (1, .slice (some ⟨b_12, 0, none⟩) 16 16, cellsB (List.replicate 16 0)) :: R) fun x hx => Mem.s hx))
   | (go_at_call 43; (with_reducible refine (put_w hv HM.out p Mem.z HZG.out HZ0.out HZP.out).mono ?_); rintro e w1 ⟨vb, vc, R1, rfl, hv1, hm1, hs1⟩; replace hv := hv1; have HM1 := Lib.hid hm1; have HS1 := Lib.hid hs1; clear hv1 hm1 hs1)
   | ((with_reducible refine at_load (T := 26) ?_); refine wl_ldp rfl bw 23 rfl _ (hv.vars.ro (b := bw)) 1 _ Tryz.underlying26 rfl infoM (by decide) (by show 23 + 1 ≤ 24; decide) #[.slice (some ⟨vb, 0, none⟩) 1700 vc] rfl ?_)
   | (go_at_call 107; (with_reducible refine (PutNum_4 hv HM1.out p kind HP4.out HKB.out).mono ?_); rintro e w1 ⟨vb2, vc2, R2, rfl, hv1, hm1, hs1⟩; replace hv := hv1; have HM2 := Lib.hid hm1; have HS2 := Lib.hid hs1; clear hv1 hm1 hs1)
   | ((with_reducible refine at_store (T := 26) ?_); refine wl_stp rfl bw 23 rfl _ rfl _ hv.vars.ro hv.vars.so 1 infoM rfl (by show 23 + 1 ≤ 24; decide) (by simp [Value.oneCell']) #[a0, a1, a2, a3, a4, a5, a6, a7, a8, a9, a10, a11, a12, a13, a14, a15, a16, a17, a18, a19, a20, a21, a22, .slice (some ⟨vb2, 0, none⟩) 1700 vc2] (splice_24_23_1 _ _ _ _ _ _ _ _ _ _ _ _ _ _ _ _ _ _ _ _ _ _ _ _ _) ?_; intro w2 hw2; replace hv := hv.sets (by repeat first | exact .z | apply SetM.s) hw2; clear hw2)
   | ((with_reducible refine at_load (T := 26) ?_); refine wl_ldp rfl bw 23 rfl _ (hv.vars.ro (b := bw)) 1 _ Tryz.underlying26 rfl infoM (by decide) (by show 23 + 1 ≤ 24; decide) #[.slice (some ⟨vb2, 0, none⟩) 1700 vc2] rfl ?_)
   | (go_at_call 107; (with_reducible refine (PutNum_8 hv HM2.out p8 s_ HP8.out HSB.out).mono ?_); rintro e w1 ⟨vb3, vc3, R3, rfl, hv1, hm1, hs1⟩; replace hv := hv1; have HM3 := Lib.hid hm1; have HS3 := Lib.hid hs1; clear hv1 hm1 hs1)
   | ((with_reducible refine at_store (T := 26) ?_); refine wl_stp rfl bw 23 rfl _ rfl _ hv.vars.ro hv.vars.so 1 infoM rfl (by show 23 + 1 ≤ 24; decide) (by simp [Value.oneCell']) #[a0, a1, a2, a3, a4, a5, a6, a7, a8, a9, a10, a11, a12, a13, a14, a15, a16, a17, a18, a19, a20, a21, a22, .slice (some ⟨vb3, 0, none⟩) 1700 vc3] (splice_24_23_1 _ _ _ _ _ _ _ _ _ _ _ _ _ _ _ _ _ _ _ _ _ _ _ _ _) ?_; intro w2 hw2; replace hv := hv.sets (by repeat first | exact .z | apply SetM.s) hw2; clear hw2))
 go_ret
 refine ⟨vb3, vc3, R3, rfl, hv, ?_, fun x hx => HS3.out x (HS2.out x (HS1.out x (Mem.s hx)))⟩
 have := HM3.out
 unfold titleM
 rw [HP8E.out]; exact this
end Go.Proofs.YtjmibgomkgkhnaaGreat
end

section
/-
 A disk's driver (layer 9): which may be.
-/
namespace Go
section
variable {P : Program} {ops : Array Oper} {rest : List Oper} {a : Act} {w : World} {Q : Exit → Act → World → Prop}
variable {dst : Option Tmp} {ty T e : TypeId} {pos : String} {after : Array Edge} {g : Option (Nat × Bool)} {x y : Operand}
theorem wl_indexA (hgd : Region.wanted (⟨dst, .index T x y, ty, pos, after, g⟩ : Oper) (yielded ops a.tmps) = true) {cs : Array Value} (hx : a.eval x = .agg cs) {i : Nat} {j : Int} (hj : j = (i : Nat)) (hy : a.eval y = .int .i64 j) {n : Nat} (ht : P.underlying T = some (.array n e)) {d : TypeDesc} (he : P.underlying e = some d) (hd : d.isRow = true) (m : Nat) (hi : (P.info? e).map (·.size) = some m) (hin : i < n) {v : Array Value} (hv : cs.extract (i * m) (i * m + m) = v)
   (hk : wpList P ops Q rest (a.put dst (.agg v)) w) : wpList P ops Q (⟨dst, .index T x y, ty, pos, after, g⟩ :: rest) a w := by
 subst hj
 subst hv
 refine wpList_want hgd fun K hK => ?_
 cases hq : P.info? e with
 | none => simp [hq] at hi
 | some inf =>
   have hsz : inf.size = m := by simpa [hq] using hi
   have h1 : (0 : Int) ≤ (i : Int) ∧ (i : Int) < (n : Int) := by omega
   have hp := run_part_agg (P := P) w e m cs (i * m) d he hd hi
   have hr : (Instr.index T (.agg cs) (.int .i64 i)).run P w = .ok (.agg (cs.extract (i * m) (i * m + m))) w := by
     unfold Instr.index
     simp [run_underlying ht, asIntOf, h1, sizeOf, typeInfo, hq, hsz, hp]
     intro h; omega
   unfold Oper.wp execOp
   simp only [hx, hy, Sem.run_bind, hr, Result.andThen_ok, Sem.run_pure]
   exact hK _ _ hk
end
end Go
namespace Go.Proofs.Qu
open Go Go.RowKit Go.Proofs.Nm
def hdR (l : List Rq) (k : Nat) : List Int := ((l.take k).filter (·.1)).map fun r => ((r.2.1 : Nat) : Int)
theorem hdR_false {l : List Rq} {k : Nat} {r : Rq} (h : l[k]? = some r) (hb : r.1 = false) : hdR l (k + 1) = hdR l k := by
 unfold hdR
 obtain ⟨hk, e⟩ := List.getElem?_eq_some_iff.1 h
 rw [List.take_add_one, h]
 simp [hb]
theorem hdR_true {l : List Rq} {k : Nat} {r : Rq} (h : l[k]? = some r) (hb : r.1 = true) : hdR l (k + 1) = hdR l k ++ [((r.2.1 : Nat) : Int)] := by
 unfold hdR
 rw [List.take_add_one, h]
 simp [hb]
theorem hdR_pre (l : List Rq) {j k : Nat} (h : j ≤ k) : (hdR l j).Sublist (hdR l k) := by
 unfold hdR
 refine List.Sublist.map _ (List.Sublist.filter _ ?_)
 have : l.take j = (l.take k).take j := by rw [List.take_take, Nat.min_eq_left h]
 rw [this]
 exact List.take_sublist _ _
theorem hdR_not {l : List Rq} {j n : Nat} {r : Rq} (hn : (hdR l n).Nodup) (hj : j < n) (h : l[j]? = some r) (hb : r.1 = true) : ((r.2.1 : Nat) : Int) ∉ hdR l j := by
 have h1 := (hdR_pre l (show j + 1 ≤ n by omega)).nodup hn
 rw [hdR_true h hb, List.nodup_append] at h1
 intro h2
 exact h1.2.2 _ h2 _ (List.mem_singleton_self _) rfl
structure BlkQ (R : List (Nat × Value × List Value)) (fv cv : Value) (free : List Nat) (chs : List Chn) (S : List Rq) : Prop where
 q : InQ R fv cv free chs
 ok : OkQ 16 free chs
 off : ∀ r ∈ S, r.1 = false → r.2.1 = 0 ∧ r.2.2.1 = false ∧ r.2.2.2 = 0
 hp : (hdR S 4).Perm (chs.map fun c => ((c.h : Nat) : Int))
theorem BlkQ.mono {R R' : List (Nat × Value × List Value)} {fv cv : Value} {free : List Nat} {chs : List Chn} {S : List Rq} (h : BlkQ R fv cv free chs S) (hs : ∀ x ∈ R, x ∈ R') : BlkQ R' fv cv free chs S := ⟨h.q.mono hs, h.ok, h.off, h.hp⟩
theorem BlkQ.nd {R : List (Nat × Value × List Value)} {fv cv : Value} {free : List Nat} {chs : List Chn} {S : List Rq} (h : BlkQ R fv cv free chs S) : (hdR S 4).Nodup := by
 refine h.hp.symm.nodup ?_
 have := h.ok.heads
 rw [show (chs.map fun c => ((c.h : Nat) : Int)) = (chs.map (·.h)).map (fun x : Nat => (x : Int)) from by rw [List.map_map]; rfl]
 exact this.map _ (fun a b h => by omega)
end Go.Proofs.Qu
namespace Go.Proofs.YtjmibgomkgkhnaaGreat
open Go.Proofs.Qu Go.Proofs.Nm Go.RowKit Go.Proofs
theorem infoA16 : (Tryz.prog.info? 56).map (·.size) = some 16 := by kernel_rfl
theorem built_zrq : Tryz.prog.built 55 [] = some #[.bool false, .int .i64 0, .bool false, .int .i64 0] := by kernel_rfl
theorem fieldsRq : Tryz.prog.underlying 55 = some (.struct (Tryz.prog.fieldsOf 55)) := by kernel_rfl
theorem run_equalIn_bF (w : World) (d : Nat) (b : Bool) : (Op.equalIn (d + 1) 4 (.bool b) (.bool b)).run Tryz.prog w = .ok true w := by
 have := run_equalIn_boolT w d b
 exact this
theorem eqRq0 (w : World) (d : Nat) : (Op.equalIn (d + 2) 55 (.agg #[.bool false, .int .i64 0, .bool false, .int .i64 0]) (.agg #[.bool false, .int .i64 0, .bool false, .int .i64 0])).run Tryz.prog w = .ok true w := by
 have h := run_eqStruct (P := Tryz.prog) w (d + 1) 55 #[.bool false, .int .i64 0, .bool false, .int .i64 0] #[.bool false, .int .i64 0, .bool false, .int .i64 0] [(4, 0), (3, 1), (4, 2), (3, 3)] [true, true, true, true] fieldsRq (by kernel_rfl) (by kernel_rfl) rfl (fun i hi hc => by
   match i, hi with
   | 0, _ => exact ⟨_, _, run_part_cell w _ _ _ _ _ Tryz.underlying4 rfl rfl, run_part_cell w _ _ _ _ _ Tryz.underlying4 rfl rfl, run_equalIn_bF w d _⟩
   | 1, _ => exact ⟨_, _, run_part_cell w _ _ _ _ _ Tryz.underlying3 rfl rfl, run_part_cell w _ _ _ _ _ Tryz.underlying3 rfl rfl, run_equalIn_int w d _ _ _ _ _ Tryz.underlying3⟩
   | 2, _ => exact ⟨_, _, run_part_cell w _ _ _ _ _ Tryz.underlying4 rfl rfl, run_part_cell w _ _ _ _ _ Tryz.underlying4 rfl rfl, run_equalIn_bF w d _⟩
   | 3, _ => exact ⟨_, _, run_part_cell w _ _ _ _ _ Tryz.underlying3 rfl rfl, run_part_cell w _ _ _ _ _ Tryz.underlying3 rfl rfl, run_equalIn_int w d _ _ _ _ _ Tryz.underlying3⟩)
 rw [h]; rfl
theorem eqRq {b f : Bool} {h s : Nat} (hb : b = false) (hr : h = 0 ∧ f = false ∧ (s : Int) = 0) (w : World) : (Op.equalIn 10000 55 (.agg #[.bool b, .int .i64 h, .bool f, .int .i64 s]) (.agg #[.bool false, .int .i64 0, .bool false, .int .i64 0])).run Tryz.prog w = .ok true w := by
 obtain ⟨rfl, rfl, hs⟩ := hr
 subst hb
 rw [hs]
 exact eqRq0 w 9998
theorem lost_b (c_h c_b c_0 c_n c_c c_r b3 bm n : Nat) (ids : List Int) (w : World) (hrow : w.rowD b3 = #[.map (some bm)]) (hlt : b3 < w.heap.size) (hM : IdS Tryz.prog 3 4 w bm n ids) (hin : (c_h : Int) ∈ ids) (hc : c_h ≤ 1000) :
   Calls Tryz.prog 51 #[.agg #[.int .i64 c_h, .slice (some ⟨c_b, c_0, none⟩) c_n c_c, .int .i64 c_r], .pointer (some ⟨b3, 0, none⟩)] w fun e w' => e = .returned (.bool false) ∧ New w w' := by
 have hv := Mem.nil w
 have HROW := Lib.hid hrow
 have HLT := Lib.hid hlt
 have HM := Lib.hid hM
 have HIN : Hid (decide ((c_h : Int) ∈ ids) = true) := Lib.hid (decide_eq_true hin)
 have HWF : Hid ((Lit.int .i64 (c_h : Int)).wf = true) := Lib.hid (wf_int (by omega) (by omega))
 clear hrow hlt hM hin hc
 go_enter Tryz.func51, Tryz.ntmps51
 go_wp2_with (first
   | ((with_reducible refine at_box (T := 124) (dst := some 2) ?_); refine wl_newb rfl #[.int .i64 c_h, .slice (some ⟨c_b, c_0, none⟩) c_n c_c, .int .i64 c_r] 124 (fun _ => rfl) ?_; intro b_2 w2 hm2; replace hv := hv.madeAt hm2; clear hm2)
   | ((with_reducible refine at_load (T := 122) ?_); refine wl_ldc rfl b3 0 rfl _ ((New.row hv.below HLT.out).trans HROW.out) _ Tryz.underlying122 rfl (.map (some bm)) rfl ?_)
   | ((with_reducible refine at_load (T := 3) ?_); refine wl_ldc rfl b_2 0 rfl _ hv.vars.ro _ Tryz.underlying3 rfl (.int .i64 c_h) rfl ?_)
   | ((with_reducible refine at_lookup ?_); refine wl_idlook rfl rfl rfl (IdS.new HM.out hv.below) Tryz.underlying3 Tryz.underlying122 Tryz.underlying4 (zero_bool _) HWF.out HIN.out ?_))
 go_ret
 exact ⟨rfl, hv.below⟩
theorem QCk_16 {w0 w : World} {L : List (Nat × Array Value)} {R : List (Nat × Value × List Value)} (hv : Mem w0 w L R) {av la : Nat} {fv cv : Value} {free : List Nat} {chs : List Chn} (hq : InQ R fv cv free chs) (ho : OkQ 16 free chs) : Calls Tryz.prog 50 #[.agg #[.int .i64 0, .int .i64 16, fv, .int .u16 av, .int .u16 la, cv]] w fun e w' => e = .returned (.bool true) ∧ New w w' := QCheck_ok (base := 0) (n := 16) hv hq ho
theorem BCheck_ok {w0 w : World} {L : List (Nat × Array Value)} {R : List (Nat × Value × List Value)} (hv : Mem w0 w L R) {av la fn fc cn cc : Nat} {fa ca : Option Addr} {free : List Nat} {chs : List Chn} {b0 b1 b2 b3 f0 f1 f2 f3 : Bool} {h0 h1 h2 h3 s0 s1 s2 s3 : Nat} (hq : BlkQ R (.slice fa fn fc) (.slice ca cn cc) free chs [(b0, h0, f0, (s0 : Int)), (b1, h1, f1, (s1 : Int)), (b2, h2, f2, (s2 : Int)), (b3, h3, f3, (s3 : Int))]) :
   Calls Tryz.prog 25 #[.agg #[.int .i64 0, .int .i64 16, .slice fa fn fc, .int .u16 av, .int .u16 la, .slice ca cn cc, .int .i64 500, .bool b0, .int .i64 h0, .bool f0, .int .i64 s0, .bool b1, .int .i64 h1, .bool f1, .int .i64 s1, .bool b2, .int .i64 h2, .bool f2, .int .i64 s2, .bool b3, .int .i64 h3, .bool f3, .int .i64 s3]] w fun e w' => e = .returned (.bool true) ∧ New w w' := by
 have hv0 := hv
 clear hv
 have hv : Mem w w [] R := ⟨Vars.nil w, fun x hx => ⟨(hv0.rds x hx).1, fun _ _ _ _ _ _ p hp => (List.not_mem_nil hp).elim⟩⟩
 clear hv0
 have hcl : chs.length = cn := by
   obtain ⟨_, _, _, e, g, _⟩ := hv.rd hq.q.ch
   cases e
   rw [cellsC_len] at g; omega
 have hlen := hq.hp.length_eq
 rw [List.length_map, hcl] at hlen
 have hnd := hq.nd
 have hhl : ∀ c ∈ chs, c.h ≤ 1000 := fun c hc => by
   have h1 := hq.ok.le c.h (List.mem_append_right _ (List.mem_flatMap.2 ⟨c, hc, List.mem_of_getElem? (hq.ok.hd c hc).1⟩))
   omega
 have hhb : ∀ x ∈ hdR [(b0, h0, f0, (s0 : Int)), (b1, h1, f1, (s1 : Int)), (b2, h2, f2, (s2 : Int)), (b3, h3, f3, (s3 : Int))] 4, x ≤ 1000 := fun x hx => by
   obtain ⟨c, hc, e⟩ := List.mem_map.1 (hq.hp.mem_iff.1 hx)
   have := hhl c hc
   omega
 have hia : ∀ c ∈ chs, ((c.h : Nat) : Int) ∈ hdR [(b0, h0, f0, (s0 : Int)), (b1, h1, f1, (s1 : Int)), (b2, h2, f2, (s2 : Int)), (b3, h3, f3, (s3 : Int))] 4 := fun c hc => hq.hp.mem_iff.2 (List.mem_map.2 ⟨c, hc, rfl⟩)
 have hc1 : chs.length ≤ 100000 := by
   have h3 : chs.length ≤ (chs.flatMap (·.ds)).length := chs_len (fun c hc => (hq.ok.hd c hc).1)
   have h2 := hq.ok.len
   omega
 have hofs := hq.off
 have HOF0 : Hid (b0 = false → h0 = 0 ∧ f0 = false ∧ (s0 : Int) = 0) := Lib.hid (fun h => hofs (b0, h0, f0, (s0 : Int)) (by simp) h)
 have HOF1 : Hid (b1 = false → h1 = 0 ∧ f1 = false ∧ (s1 : Int) = 0) := Lib.hid (fun h => hofs (b1, h1, f1, (s1 : Int)) (by simp) h)
 have HOF2 : Hid (b2 = false → h2 = 0 ∧ f2 = false ∧ (s2 : Int) = 0) := Lib.hid (fun h => hofs (b2, h2, f2, (s2 : Int)) (by simp) h)
 have HOF3 : Hid (b3 = false → h3 = 0 ∧ f3 = false ∧ (s3 : Int) = 0) := Lib.hid (fun h => hofs (b3, h3, f3, (s3 : Int)) (by simp) h)
 obtain ⟨SL, hSL⟩ : ∃ SL, SL = [(b0, h0, f0, (s0 : Int)), (b1, h1, f1, (s1 : Int)), (b2, h2, f2, (s2 : Int)), (b3, h3, f3, (s3 : Int))] := ⟨_, rfl⟩
 have HSL0 : Hid (SL[0]? = some (b0, h0, f0, (s0 : Int))) := Lib.hid (by rw [hSL]; rfl)
 have HSL1 : Hid (SL[1]? = some (b1, h1, f1, (s1 : Int))) := Lib.hid (by rw [hSL]; rfl)
 have HSL2 : Hid (SL[2]? = some (b2, h2, f2, (s2 : Int))) := Lib.hid (by rw [hSL]; rfl)
 have HSL3 : Hid (SL[3]? = some (b3, h3, f3, (s3 : Int))) := Lib.hid (by rw [hSL]; rfl)
 have HHB0 : Hid (b0 = true → h0 ≤ 1000) := Lib.hid (fun h => by have h1 := hhb (h0 : Int) (by rw [← hSL]; exact (hdR_pre SL (show 0 + 1 ≤ 4 by decide)).subset (by rw [hdR_true HSL0.out h]; simp)); omega)
 have HHB1 : Hid (b1 = true → h1 ≤ 1000) := Lib.hid (fun h => by have h1 := hhb (h1 : Int) (by rw [← hSL]; exact (hdR_pre SL (show 1 + 1 ≤ 4 by decide)).subset (by rw [hdR_true HSL1.out h]; simp)); omega)
 have HHB2 : Hid (b2 = true → h2 ≤ 1000) := Lib.hid (fun h => by have h1 := hhb (h2 : Int) (by rw [← hSL]; exact (hdR_pre SL (show 2 + 1 ≤ 4 by decide)).subset (by rw [hdR_true HSL2.out h]; simp)); omega)
 have HHB3 : Hid (b3 = true → h3 ≤ 1000) := Lib.hid (fun h => by have h1 := hhb (h3 : Int) (by rw [← hSL]; exact (hdR_pre SL (show 3 + 1 ≤ 4 by decide)).subset (by rw [hdR_true HSL3.out h]; simp)); omega)
 rw [← hSL] at hq hlen hnd hia
 have HQ := Lib.hid hq
 have HLEN := Lib.hid hlen
 have HND := Lib.hid hnd
 have HHL := Lib.hid hhl
 have HIA := Lib.hid hia
 have HC1 := Lib.hid hc1
 clear hq hcl hlen hnd hhl hhb hia hc1 hofs hSL
 go_enter Tryz.func25, Tryz.ntmps25
 go_wp2_with (first
   | ((with_reducible refine at_box (T := 58) (dst := some 1) ?_); refine wl_newb rfl #[.int .i64 0, .int .i64 16, .slice fa fn fc, .int .u16 av, .int .u16 la, .slice ca cn cc, .int .i64 500, .bool b0, .int .i64 h0, .bool f0, .int .i64 s0, .bool b1, .int .i64 h1, .bool f1, .int .i64 s1, .bool b2, .int .i64 h2, .bool f2, .int .i64 s2, .bool b3, .int .i64 h3, .bool f3, .int .i64 s3] 58 (fun _ => rfl) ?_; intro b_1 w2 hm2; replace hv := hv.madeAt hm2; clear hm2)
   | ((with_reducible refine at_load (T := 30) ?_); refine wl_ldp rfl b_1 0 rfl _ hv.vars.ro 6 _ Tryz.underlying30 rfl infoQ (by decide) (by show 0 + 6 ≤ 23; decide) #[.int .i64 0, .int .i64 16, .slice fa fn fc, .int .u16 av, .int .u16 la, .slice ca cn cc] rfl ?_)
   | (go_at_call 50; (with_reducible refine (QCk_16 hv HQ.out.q HQ.out.ok).mono ?_); rintro e w1 ⟨rfl, hn1⟩; replace hv := hv.new hn1; clear hn1)
   | ((with_reducible refine at_load (T := 3) ?_); refine wl_ldc rfl b_1 1 rfl _ hv.vars.ro _ Tryz.underlying3 rfl (.int .i64 16) rfl ?_)
   | ((with_reducible refine at_load (T := 3) ?_); refine wl_ldc rfl b_1 6 rfl _ hv.vars.ro _ Tryz.underlying3 rfl (.int .i64 500) rfl ?_)
   | ((with_reducible refine at_mkmap ?_); refine wl_idmade rfl hv 3 4 ?_; intro bm w2 hge hv1 hM; replace hv := hv1; have HGE := Lib.hid hge; have HM := Lib.hid hM; clear hv1 hge hM)
   | ((with_reducible refine at_alloc (T := 122) (dst := some 3) ?_); refine wl_newb rfl #[.map none] 122 (fun _ => rfl) ?_; intro b_3 w2 hm2; replace HM := Lib.hid (IdS.new HM.out hm2.made.new); replace hv := hv.madeAt hm2; clear hm2)
   | ((with_reducible refine at_store (T := 122) ?_); refine wl_stc rfl b_3 0 rfl (.map (some bm)) rfl _ hv.vars.ro hv.vars.so (by kernel_rfl) rfl (by show 0 < 1; decide) ?_; intro w2 hw2; replace HM := Lib.hid (IdS.wrote HM.out hw2 (hv.vars.so (b := b_3))); replace hv := hv.sets (by repeat first | exact .z | apply SetM.s) hw2; clear hw2)
   | ((with_reducible refine at_load (T := 56) ?_); refine wl_ldp rfl b_1 7 rfl _ hv.vars.ro 16 _ Tryz.underlying56 rfl infoA16 (by decide) (by show 7 + 16 ≤ 23; decide) #[.bool b0, .int .i64 h0, .bool f0, .int .i64 s0, .bool b1, .int .i64 h1, .bool f1, .int .i64 s1, .bool b2, .int .i64 h2, .bool f2, .int .i64 s2, .bool b3, .int .i64 h3, .bool f3, .int .i64 s3] rfl ?_))
 go_loopw [33] (fun iv wr => ∃ (j n : Nat), j ≤ 4 ∧ iv = .int .i64 j ∧ Hid (IdS Tryz.prog 3 4 wr bm n (hdR SL j)) ∧ Hid (n ≤ j) ∧ Mem w wr [(b_3, #[.map (some bm)]), (b_1, #[.int .i64 0, .int .i64 16, .slice fa fn fc, .int .u16 av, .int .u16 la, .slice ca cn cc, .int .i64 500, .bool b0, .int .i64 h0, .bool f0, .int .i64 s0, .bool b1, .int .i64 h1, .bool f1, .int .i64 s1, .bool b2, .int .i64 h2, .bool f2, .int .i64 s2, .bool b3, .int .i64 h3, .bool f3, .int .i64 s3])] R) (fun iv _ => 4 - (intOf iv).toNat)
 case atStart => exact ⟨0, 0, by decide, rfl, HM, Lib.hid (by decide), hv⟩
 case round =>
   clear hv HM
   obtain ⟨j, n, hj, rfl, HM, HN, hv⟩ := hrel
   rcases (show j = 0 ∨ j = 1 ∨ j = 2 ∨ j = 3 ∨ j = 4 from by omega) with rfl | rfl | rfl | rfl | rfl
   · clear hj
     simp only [Int.natCast_zero]
     cases e0 : b0 with
     | true =>
       have HNI : Hid ((h0 : Int) ∉ hdR SL 0) := Lib.hid (hdR_not HND.out (by decide) (HSL0.out.trans (by rw [e0])) rfl)
       have HSU : Hid (hdR SL (0 + 1) = hdR SL 0 ++ [(h0 : Int)]) := Lib.hid (hdR_true (HSL0.out.trans (by rw [e0])) rfl)
       have HWF : Hid ((Lit.int .i64 (h0 : Int)).wf = true) := Lib.hid (wf_int (by omega) (by have := HHB0.out e0; omega))
       have HKM : Hid (n < maxLen) := Lib.hid (by have := HN.out; unfold maxLen; omega)
       have HE0 := Lib.hid e0
       clear e0
       go_wp2_with (first
         | ((with_reducible refine at_aindex ?_); refine wl_indexA rfl rfl (i := 0) (j := 0) rfl rfl Tryz.underlying56 Tryz.underlying55 rfl 4 infoRq4 (by decide) (v := #[.bool true, .int .i64 h0, .bool f0, .int .i64 s0]) rfl ?_)
         | ((with_reducible refine at_alloc (T := 55) (dst := some 5) ?_); refine wl_newb rfl #[.bool false, .int .i64 0, .bool false, .int .i64 0] 55 (fun _ => rfl) ?_; intro b_5 w2 hm2; replace HM := Lib.hid (IdS.new HM.out hm2.made.new); replace hv := hv.madeAt hm2; clear hm2)
         | ((with_reducible refine at_store (T := 55) ?_); refine wl_stv rfl b_5 rfl _ rfl _ hv.vars.ro hv.vars.so 4 infoRq4 rfl rfl (by simp [Value.oneCell']) ?_; intro w2 hw2; replace HM := Lib.hid (IdS.wrote HM.out hw2 (hv.vars.so (b := b_5))); replace hv := hv.sets (by repeat first | exact .z | apply SetM.s) hw2; clear hw2)
         | ((with_reducible refine at_load (T := 4) ?_); refine wl_ldc rfl b_5 0 rfl _ hv.vars.ro _ Tryz.underlying4 rfl (.bool true) rfl ?_)
         | ((with_reducible refine at_load (T := 122) ?_); refine wl_ldc rfl b_3 0 rfl _ hv.vars.ro _ Tryz.underlying122 rfl (.map (some bm)) rfl ?_)
         | ((with_reducible refine at_load (T := 3) ?_); refine wl_ldc rfl b_5 1 rfl _ hv.vars.ro _ Tryz.underlying3 rfl (.int .i64 h0) rfl ?_)
         | ((with_reducible refine at_mapUpdate ?_); refine wl_idput rfl hv HGE.out rfl rfl rfl HM.out Tryz.underlying3 Tryz.underlying122 Tryz.underlying4 HKM.out HWF.out HNI.out ?_; intro w2 hv1 hM1; replace hv := hv1; replace HM := Lib.hid hM1; clear hv1 hM1))
       go_roundw
       case rel => exact ⟨1, n + 1, by decide, by go_num, Lib.hid (by rw [HSU.out]; exact HM.out), Lib.hid (by have := HN.out; omega), by first | exact hv.drop | (have h9 := hv.drop; rw [HE0.out] at h9; exact h9)⟩
       case measure => simp [intOf]
     | false =>
       have HSU : Hid (hdR SL (0 + 1) = hdR SL 0) := Lib.hid (hdR_false (HSL0.out.trans (by rw [e0])) rfl)
       have HQ9 : ∀ w : World, (Op.equalIn 10000 55 (.agg #[.bool false, .int .i64 h0, .bool f0, .int .i64 s0]) (.agg #[.bool false, .int .i64 0, .bool false, .int .i64 0])).run Tryz.prog w = .ok true w := fun w => eqRq rfl (HOF0.out e0) w
       have HE0 := Lib.hid e0
       clear e0
       go_wp2_with (first
         | ((with_reducible refine at_aindex ?_); refine wl_indexA rfl rfl (i := 0) (j := 0) rfl rfl Tryz.underlying56 Tryz.underlying55 rfl 4 infoRq4 (by decide) (v := #[.bool false, .int .i64 h0, .bool f0, .int .i64 s0]) rfl ?_)
         | ((with_reducible refine at_alloc (T := 55) (dst := some 5) ?_); refine wl_newb rfl #[.bool false, .int .i64 0, .bool false, .int .i64 0] 55 (fun _ => rfl) ?_; intro b_5 w2 hm2; replace HM := Lib.hid (IdS.new HM.out hm2.made.new); replace hv := hv.madeAt hm2; clear hm2)
         | ((with_reducible refine at_store (T := 55) ?_); refine wl_stv rfl b_5 rfl _ rfl _ hv.vars.ro hv.vars.so 4 infoRq4 rfl rfl (by simp [Value.oneCell']) ?_; intro w2 hw2; replace HM := Lib.hid (IdS.wrote HM.out hw2 (hv.vars.so (b := b_5))); replace hv := hv.sets (by repeat first | exact .z | apply SetM.s) hw2; clear hw2)
         | ((with_reducible refine at_load (T := 4) ?_); refine wl_ldc rfl b_5 0 rfl _ hv.vars.ro _ Tryz.underlying4 rfl (.bool false) rfl ?_)
         | ((with_reducible refine at_load (T := 55) ?_); refine wl_ldv rfl b_5 rfl _ hv.vars.ro 4 _ Tryz.underlying55 rfl infoRq4 (by decide) rfl ?_)
         | ((with_reducible refine at_build (T := 55) ?_); refine wl_build rfl _ rfl built_zrq ?_))
       go_roundw
       case rel => exact ⟨1, n, by decide, by go_num, Lib.hid (by rw [HSU.out]; exact HM.out), Lib.hid (by have := HN.out; omega), by first | exact hv.drop | (have h9 := hv.drop; rw [HE0.out] at h9; exact h9)⟩
       case measure => simp [intOf]
   · clear hj
     simp only [Int.natCast_one]
     cases e1 : b1 with
     | true =>
       have HNI : Hid ((h1 : Int) ∉ hdR SL 1) := Lib.hid (hdR_not HND.out (by decide) (HSL1.out.trans (by rw [e1])) rfl)
       have HSU : Hid (hdR SL (1 + 1) = hdR SL 1 ++ [(h1 : Int)]) := Lib.hid (hdR_true (HSL1.out.trans (by rw [e1])) rfl)
       have HWF : Hid ((Lit.int .i64 (h1 : Int)).wf = true) := Lib.hid (wf_int (by omega) (by have := HHB1.out e1; omega))
       have HKM : Hid (n < maxLen) := Lib.hid (by have := HN.out; unfold maxLen; omega)
       have HE1 := Lib.hid e1
       clear e1
       go_wp2_with (first
         | ((with_reducible refine at_aindex ?_); refine wl_indexA rfl rfl (i := 1) (j := 1) rfl rfl Tryz.underlying56 Tryz.underlying55 rfl 4 infoRq4 (by decide) (v := #[.bool true, .int .i64 h1, .bool f1, .int .i64 s1]) rfl ?_)
         | ((with_reducible refine at_alloc (T := 55) (dst := some 5) ?_); refine wl_newb rfl #[.bool false, .int .i64 0, .bool false, .int .i64 0] 55 (fun _ => rfl) ?_; intro b_5 w2 hm2; replace HM := Lib.hid (IdS.new HM.out hm2.made.new); replace hv := hv.madeAt hm2; clear hm2)
         | ((with_reducible refine at_store (T := 55) ?_); refine wl_stv rfl b_5 rfl _ rfl _ hv.vars.ro hv.vars.so 4 infoRq4 rfl rfl (by simp [Value.oneCell']) ?_; intro w2 hw2; replace HM := Lib.hid (IdS.wrote HM.out hw2 (hv.vars.so (b := b_5))); replace hv := hv.sets (by repeat first | exact .z | apply SetM.s) hw2; clear hw2)
         | ((with_reducible refine at_load (T := 4) ?_); refine wl_ldc rfl b_5 0 rfl _ hv.vars.ro _ Tryz.underlying4 rfl (.bool true) rfl ?_)
         | ((with_reducible refine at_load (T := 122) ?_); refine wl_ldc rfl b_3 0 rfl _ hv.vars.ro _ Tryz.underlying122 rfl (.map (some bm)) rfl ?_)
         | ((with_reducible refine at_load (T := 3) ?_); refine wl_ldc rfl b_5 1 rfl _ hv.vars.ro _ Tryz.underlying3 rfl (.int .i64 h1) rfl ?_)
         | ((with_reducible refine at_mapUpdate ?_); refine wl_idput rfl hv HGE.out rfl rfl rfl HM.out Tryz.underlying3 Tryz.underlying122 Tryz.underlying4 HKM.out HWF.out HNI.out ?_; intro w2 hv1 hM1; replace hv := hv1; replace HM := Lib.hid hM1; clear hv1 hM1))
       go_roundw
       case rel => exact ⟨2, n + 1, by decide, by go_num, Lib.hid (by rw [HSU.out]; exact HM.out), Lib.hid (by have := HN.out; omega), by first | exact hv.drop | (have h9 := hv.drop; rw [HE1.out] at h9; exact h9)⟩
       case measure => simp [intOf]
     | false =>
       have HSU : Hid (hdR SL (1 + 1) = hdR SL 1) := Lib.hid (hdR_false (HSL1.out.trans (by rw [e1])) rfl)
       have HQ9 : ∀ w : World, (Op.equalIn 10000 55 (.agg #[.bool false, .int .i64 h1, .bool f1, .int .i64 s1]) (.agg #[.bool false, .int .i64 0, .bool false, .int .i64 0])).run Tryz.prog w = .ok true w := fun w => eqRq rfl (HOF1.out e1) w
       have HE1 := Lib.hid e1
       clear e1
       go_wp2_with (first
         | ((with_reducible refine at_aindex ?_); refine wl_indexA rfl rfl (i := 1) (j := 1) rfl rfl Tryz.underlying56 Tryz.underlying55 rfl 4 infoRq4 (by decide) (v := #[.bool false, .int .i64 h1, .bool f1, .int .i64 s1]) rfl ?_)
         | ((with_reducible refine at_alloc (T := 55) (dst := some 5) ?_); refine wl_newb rfl #[.bool false, .int .i64 0, .bool false, .int .i64 0] 55 (fun _ => rfl) ?_; intro b_5 w2 hm2; replace HM := Lib.hid (IdS.new HM.out hm2.made.new); replace hv := hv.madeAt hm2; clear hm2)
         | ((with_reducible refine at_store (T := 55) ?_); refine wl_stv rfl b_5 rfl _ rfl _ hv.vars.ro hv.vars.so 4 infoRq4 rfl rfl (by simp [Value.oneCell']) ?_; intro w2 hw2; replace HM := Lib.hid (IdS.wrote HM.out hw2 (hv.vars.so (b := b_5))); replace hv := hv.sets (by repeat first | exact .z | apply SetM.s) hw2; clear hw2)
         | ((with_reducible refine at_load (T := 4) ?_); refine wl_ldc rfl b_5 0 rfl _ hv.vars.ro _ Tryz.underlying4 rfl (.bool false) rfl ?_)
         | ((with_reducible refine at_load (T := 55) ?_); refine wl_ldv rfl b_5 rfl _ hv.vars.ro 4 _ Tryz.underlying55 rfl infoRq4 (by decide) rfl ?_)
         | ((with_reducible refine at_build (T := 55) ?_); refine wl_build rfl _ rfl built_zrq ?_))
       go_roundw
       case rel => exact ⟨2, n, by decide, by go_num, Lib.hid (by rw [HSU.out]; exact HM.out), Lib.hid (by have := HN.out; omega), by first | exact hv.drop | (have h9 := hv.drop; rw [HE1.out] at h9; exact h9)⟩
       case measure => simp [intOf]
   · clear hj
     cases e2 : b2 with
     | true =>
       have HNI : Hid ((h2 : Int) ∉ hdR SL 2) := Lib.hid (hdR_not HND.out (by decide) (HSL2.out.trans (by rw [e2])) rfl)
       have HSU : Hid (hdR SL (2 + 1) = hdR SL 2 ++ [(h2 : Int)]) := Lib.hid (hdR_true (HSL2.out.trans (by rw [e2])) rfl)
       have HWF : Hid ((Lit.int .i64 (h2 : Int)).wf = true) := Lib.hid (wf_int (by omega) (by have := HHB2.out e2; omega))
       have HKM : Hid (n < maxLen) := Lib.hid (by have := HN.out; unfold maxLen; omega)
       have HE2 := Lib.hid e2
       clear e2
       go_wp2_with (first
         | ((with_reducible refine at_aindex ?_); refine wl_indexA rfl rfl (i := 2) (j := 2) rfl rfl Tryz.underlying56 Tryz.underlying55 rfl 4 infoRq4 (by decide) (v := #[.bool true, .int .i64 h2, .bool f2, .int .i64 s2]) rfl ?_)
         | ((with_reducible refine at_alloc (T := 55) (dst := some 5) ?_); refine wl_newb rfl #[.bool false, .int .i64 0, .bool false, .int .i64 0] 55 (fun _ => rfl) ?_; intro b_5 w2 hm2; replace HM := Lib.hid (IdS.new HM.out hm2.made.new); replace hv := hv.madeAt hm2; clear hm2)
         | ((with_reducible refine at_store (T := 55) ?_); refine wl_stv rfl b_5 rfl _ rfl _ hv.vars.ro hv.vars.so 4 infoRq4 rfl rfl (by simp [Value.oneCell']) ?_; intro w2 hw2; replace HM := Lib.hid (IdS.wrote HM.out hw2 (hv.vars.so (b := b_5))); replace hv := hv.sets (by repeat first | exact .z | apply SetM.s) hw2; clear hw2)
         | ((with_reducible refine at_load (T := 4) ?_); refine wl_ldc rfl b_5 0 rfl _ hv.vars.ro _ Tryz.underlying4 rfl (.bool true) rfl ?_)
         | ((with_reducible refine at_load (T := 122) ?_); refine wl_ldc rfl b_3 0 rfl _ hv.vars.ro _ Tryz.underlying122 rfl (.map (some bm)) rfl ?_)
         | ((with_reducible refine at_load (T := 3) ?_); refine wl_ldc rfl b_5 1 rfl _ hv.vars.ro _ Tryz.underlying3 rfl (.int .i64 h2) rfl ?_)
         | ((with_reducible refine at_mapUpdate ?_); refine wl_idput rfl hv HGE.out rfl rfl rfl HM.out Tryz.underlying3 Tryz.underlying122 Tryz.underlying4 HKM.out HWF.out HNI.out ?_; intro w2 hv1 hM1; replace hv := hv1; replace HM := Lib.hid hM1; clear hv1 hM1))
       go_roundw
       case rel => exact ⟨3, n + 1, by decide, by go_num, Lib.hid (by rw [HSU.out]; exact HM.out), Lib.hid (by have := HN.out; omega), by first | exact hv.drop | (have h9 := hv.drop; rw [HE2.out] at h9; exact h9)⟩
       case measure => simp [intOf]
     | false =>
       have HSU : Hid (hdR SL (2 + 1) = hdR SL 2) := Lib.hid (hdR_false (HSL2.out.trans (by rw [e2])) rfl)
       have HQ9 : ∀ w : World, (Op.equalIn 10000 55 (.agg #[.bool false, .int .i64 h2, .bool f2, .int .i64 s2]) (.agg #[.bool false, .int .i64 0, .bool false, .int .i64 0])).run Tryz.prog w = .ok true w := fun w => eqRq rfl (HOF2.out e2) w
       have HE2 := Lib.hid e2
       clear e2
       go_wp2_with (first
         | ((with_reducible refine at_aindex ?_); refine wl_indexA rfl rfl (i := 2) (j := 2) rfl rfl Tryz.underlying56 Tryz.underlying55 rfl 4 infoRq4 (by decide) (v := #[.bool false, .int .i64 h2, .bool f2, .int .i64 s2]) rfl ?_)
         | ((with_reducible refine at_alloc (T := 55) (dst := some 5) ?_); refine wl_newb rfl #[.bool false, .int .i64 0, .bool false, .int .i64 0] 55 (fun _ => rfl) ?_; intro b_5 w2 hm2; replace HM := Lib.hid (IdS.new HM.out hm2.made.new); replace hv := hv.madeAt hm2; clear hm2)
         | ((with_reducible refine at_store (T := 55) ?_); refine wl_stv rfl b_5 rfl _ rfl _ hv.vars.ro hv.vars.so 4 infoRq4 rfl rfl (by simp [Value.oneCell']) ?_; intro w2 hw2; replace HM := Lib.hid (IdS.wrote HM.out hw2 (hv.vars.so (b := b_5))); replace hv := hv.sets (by repeat first | exact .z | apply SetM.s) hw2; clear hw2)
         | ((with_reducible refine at_load (T := 4) ?_); refine wl_ldc rfl b_5 0 rfl _ hv.vars.ro _ Tryz.underlying4 rfl (.bool false) rfl ?_)
         | ((with_reducible refine at_load (T := 55) ?_); refine wl_ldv rfl b_5 rfl _ hv.vars.ro 4 _ Tryz.underlying55 rfl infoRq4 (by decide) rfl ?_)
         | ((with_reducible refine at_build (T := 55) ?_); refine wl_build rfl _ rfl built_zrq ?_))
       go_roundw
       case rel => exact ⟨3, n, by decide, by go_num, Lib.hid (by rw [HSU.out]; exact HM.out), Lib.hid (by have := HN.out; omega), by first | exact hv.drop | (have h9 := hv.drop; rw [HE2.out] at h9; exact h9)⟩
       case measure => simp [intOf]
   · clear hj
     cases e3 : b3 with
     | true =>
       have HNI : Hid ((h3 : Int) ∉ hdR SL 3) := Lib.hid (hdR_not HND.out (by decide) (HSL3.out.trans (by rw [e3])) rfl)
       have HSU : Hid (hdR SL (3 + 1) = hdR SL 3 ++ [(h3 : Int)]) := Lib.hid (hdR_true (HSL3.out.trans (by rw [e3])) rfl)
       have HWF : Hid ((Lit.int .i64 (h3 : Int)).wf = true) := Lib.hid (wf_int (by omega) (by have := HHB3.out e3; omega))
       have HKM : Hid (n < maxLen) := Lib.hid (by have := HN.out; unfold maxLen; omega)
       have HE3 := Lib.hid e3
       clear e3
       go_wp2_with (first
         | ((with_reducible refine at_aindex ?_); refine wl_indexA rfl rfl (i := 3) (j := 3) rfl rfl Tryz.underlying56 Tryz.underlying55 rfl 4 infoRq4 (by decide) (v := #[.bool true, .int .i64 h3, .bool f3, .int .i64 s3]) rfl ?_)
         | ((with_reducible refine at_alloc (T := 55) (dst := some 5) ?_); refine wl_newb rfl #[.bool false, .int .i64 0, .bool false, .int .i64 0] 55 (fun _ => rfl) ?_; intro b_5 w2 hm2; replace HM := Lib.hid (IdS.new HM.out hm2.made.new); replace hv := hv.madeAt hm2; clear hm2)
         | ((with_reducible refine at_store (T := 55) ?_); refine wl_stv rfl b_5 rfl _ rfl _ hv.vars.ro hv.vars.so 4 infoRq4 rfl rfl (by simp [Value.oneCell']) ?_; intro w2 hw2; replace HM := Lib.hid (IdS.wrote HM.out hw2 (hv.vars.so (b := b_5))); replace hv := hv.sets (by repeat first | exact .z | apply SetM.s) hw2; clear hw2)
         | ((with_reducible refine at_load (T := 4) ?_); refine wl_ldc rfl b_5 0 rfl _ hv.vars.ro _ Tryz.underlying4 rfl (.bool true) rfl ?_)
         | ((with_reducible refine at_load (T := 122) ?_); refine wl_ldc rfl b_3 0 rfl _ hv.vars.ro _ Tryz.underlying122 rfl (.map (some bm)) rfl ?_)
         | ((with_reducible refine at_load (T := 3) ?_); refine wl_ldc rfl b_5 1 rfl _ hv.vars.ro _ Tryz.underlying3 rfl (.int .i64 h3) rfl ?_)
         | ((with_reducible refine at_mapUpdate ?_); refine wl_idput rfl hv HGE.out rfl rfl rfl HM.out Tryz.underlying3 Tryz.underlying122 Tryz.underlying4 HKM.out HWF.out HNI.out ?_; intro w2 hv1 hM1; replace hv := hv1; replace HM := Lib.hid hM1; clear hv1 hM1))
       go_roundw
       case rel => exact ⟨4, n + 1, by decide, by go_num, Lib.hid (by rw [HSU.out]; exact HM.out), Lib.hid (by have := HN.out; omega), by first | exact hv.drop | (have h9 := hv.drop; rw [HE3.out] at h9; exact h9)⟩
       case measure => simp [intOf]
     | false =>
       have HSU : Hid (hdR SL (3 + 1) = hdR SL 3) := Lib.hid (hdR_false (HSL3.out.trans (by rw [e3])) rfl)
       have HQ9 : ∀ w : World, (Op.equalIn 10000 55 (.agg #[.bool false, .int .i64 h3, .bool f3, .int .i64 s3]) (.agg #[.bool false, .int .i64 0, .bool false, .int .i64 0])).run Tryz.prog w = .ok true w := fun w => eqRq rfl (HOF3.out e3) w
       have HE3 := Lib.hid e3
       clear e3
       go_wp2_with (first
         | ((with_reducible refine at_aindex ?_); refine wl_indexA rfl rfl (i := 3) (j := 3) rfl rfl Tryz.underlying56 Tryz.underlying55 rfl 4 infoRq4 (by decide) (v := #[.bool false, .int .i64 h3, .bool f3, .int .i64 s3]) rfl ?_)
         | ((with_reducible refine at_alloc (T := 55) (dst := some 5) ?_); refine wl_newb rfl #[.bool false, .int .i64 0, .bool false, .int .i64 0] 55 (fun _ => rfl) ?_; intro b_5 w2 hm2; replace HM := Lib.hid (IdS.new HM.out hm2.made.new); replace hv := hv.madeAt hm2; clear hm2)
         | ((with_reducible refine at_store (T := 55) ?_); refine wl_stv rfl b_5 rfl _ rfl _ hv.vars.ro hv.vars.so 4 infoRq4 rfl rfl (by simp [Value.oneCell']) ?_; intro w2 hw2; replace HM := Lib.hid (IdS.wrote HM.out hw2 (hv.vars.so (b := b_5))); replace hv := hv.sets (by repeat first | exact .z | apply SetM.s) hw2; clear hw2)
         | ((with_reducible refine at_load (T := 4) ?_); refine wl_ldc rfl b_5 0 rfl _ hv.vars.ro _ Tryz.underlying4 rfl (.bool false) rfl ?_)
         | ((with_reducible refine at_load (T := 55) ?_); refine wl_ldv rfl b_5 rfl _ hv.vars.ro 4 _ Tryz.underlying55 rfl infoRq4 (by decide) rfl ?_)
         | ((with_reducible refine at_build (T := 55) ?_); refine wl_build rfl _ rfl built_zrq ?_))
       go_roundw
       case rel => exact ⟨4, n, by decide, by go_num, Lib.hid (by rw [HSU.out]; exact HM.out), Lib.hid (by have := HN.out; omega), by first | exact hv.drop | (have h9 := hv.drop; rw [HE3.out] at h9; exact h9)⟩
       case measure => simp [intOf]
   · clear hj
     go_wp2_with (first
       | ((with_reducible refine at_load (T := 56) ?_); refine wl_ldp rfl b_1 7 rfl _ hv.vars.ro 16 _ Tryz.underlying56 rfl infoA16 (by decide) (by show 7 + 16 ≤ 23; decide) #[.bool b0, .int .i64 h0, .bool f0, .int .i64 s0, .bool b1, .int .i64 h1, .bool f1, .int .i64 s1, .bool b2, .int .i64 h2, .bool f2, .int .i64 s2, .bool b3, .int .i64 h3, .bool f3, .int .i64 s3] rfl ?_))
     go_loopw [6, 47] (fun cv iv wr => ∃ (j m : Nat), j ≤ 4 ∧ iv = .int .i64 j ∧ cv = .int .i64 m ∧ Hid (m = (hdR SL j).length) ∧ Hid (m ≤ j) ∧ Hid (IdS Tryz.prog 3 4 wr bm n (hdR SL 4)) ∧ Mem w wr [(b_3, #[.map (some bm)]), (b_1, #[.int .i64 0, .int .i64 16, .slice fa fn fc, .int .u16 av, .int .u16 la, .slice ca cn cc, .int .i64 500, .bool b0, .int .i64 h0, .bool f0, .int .i64 s0, .bool b1, .int .i64 h1, .bool f1, .int .i64 s1, .bool b2, .int .i64 h2, .bool f2, .int .i64 s2, .bool b3, .int .i64 h3, .bool f3, .int .i64 s3])] R) (fun _ iv _ => 4 - (intOf iv).toNat)
     case atStart => exact ⟨0, 0, by decide, rfl, rfl, Lib.hid rfl, Lib.hid (by decide), HM, hv⟩
     case round =>
       clear hv HM
       obtain ⟨j, m, hj, rfl, rfl, HC, HC9, HM, hv⟩ := hrel
       rcases (show j = 0 ∨ j = 1 ∨ j = 2 ∨ j = 3 ∨ j = 4 from by omega) with rfl | rfl | rfl | rfl | rfl
       · clear hj
         simp only [Int.natCast_zero]
         cases e0 : b0 with
         | true =>
           have HSU : Hid ((hdR SL (0 + 1)).length = (hdR SL 0).length + 1) := Lib.hid (by rw [hdR_true (HSL0.out.trans (by rw [e0])) rfl, List.length_append]; rfl)
           obtain ⟨m1, hm1⟩ : ∃ m1, m + 1 = m1 := ⟨_, rfl⟩
           have hm9 : m ≤ 4 := by have := HC9.out; omega
           have q1 : IntKind.i64.wrap ((m : Int) + 1) = (m1 : Int) := by rw [IntWalk.i64_in _ (by omega)]; omega
           have HM1 := Lib.hid hm1
           have HE0 := Lib.hid e0
           clear e0 hm1 hm9
           go_wp2_with (first
             | ((with_reducible refine at_aindex ?_); refine wl_indexA rfl rfl (i := 0) (j := 0) rfl rfl Tryz.underlying56 Tryz.underlying55 rfl 4 infoRq4 (by decide) (v := #[.bool true, .int .i64 h0, .bool f0, .int .i64 s0]) rfl ?_)
             | ((with_reducible refine at_alloc (T := 55) (dst := some 8) ?_); refine wl_newb rfl #[.bool false, .int .i64 0, .bool false, .int .i64 0] 55 (fun _ => rfl) ?_; intro b_8 w2 hm2; replace HM := Lib.hid (IdS.new HM.out hm2.made.new); replace hv := hv.madeAt hm2; clear hm2)
             | ((with_reducible refine at_store (T := 55) ?_); refine wl_stv rfl b_8 rfl _ rfl _ hv.vars.ro hv.vars.so 4 infoRq4 rfl rfl (by simp [Value.oneCell']) ?_; intro w2 hw2; replace HM := Lib.hid (IdS.wrote HM.out hw2 (hv.vars.so (b := b_8))); replace hv := hv.sets (by repeat first | exact .z | apply SetM.s) hw2; clear hw2)
             | ((with_reducible refine at_load (T := 4) ?_); refine wl_ldc rfl b_8 0 rfl _ hv.vars.ro _ Tryz.underlying4 rfl (.bool true) rfl ?_))
           go_roundw
           case rel => exact ⟨1, m1, by decide, by go_num, rfl, Lib.hid (by rw [HSU.out]; have := HC.out; have := HM1.out; omega), Lib.hid (by have := HC9.out; have := HM1.out; omega), HM, by first | exact hv.drop | (have h9 := hv.drop; rw [HE0.out] at h9; exact h9)⟩
           case measure => simp [intOf]
         | false =>
           have HSU : Hid (hdR SL (0 + 1) = hdR SL 0) := Lib.hid (hdR_false (HSL0.out.trans (by rw [e0])) rfl)
           have HE0 := Lib.hid e0
           clear e0
           go_wp2_with (first
             | ((with_reducible refine at_aindex ?_); refine wl_indexA rfl rfl (i := 0) (j := 0) rfl rfl Tryz.underlying56 Tryz.underlying55 rfl 4 infoRq4 (by decide) (v := #[.bool false, .int .i64 h0, .bool f0, .int .i64 s0]) rfl ?_)
             | ((with_reducible refine at_alloc (T := 55) (dst := some 8) ?_); refine wl_newb rfl #[.bool false, .int .i64 0, .bool false, .int .i64 0] 55 (fun _ => rfl) ?_; intro b_8 w2 hm2; replace HM := Lib.hid (IdS.new HM.out hm2.made.new); replace hv := hv.madeAt hm2; clear hm2)
             | ((with_reducible refine at_store (T := 55) ?_); refine wl_stv rfl b_8 rfl _ rfl _ hv.vars.ro hv.vars.so 4 infoRq4 rfl rfl (by simp [Value.oneCell']) ?_; intro w2 hw2; replace HM := Lib.hid (IdS.wrote HM.out hw2 (hv.vars.so (b := b_8))); replace hv := hv.sets (by repeat first | exact .z | apply SetM.s) hw2; clear hw2)
             | ((with_reducible refine at_load (T := 4) ?_); refine wl_ldc rfl b_8 0 rfl _ hv.vars.ro _ Tryz.underlying4 rfl (.bool false) rfl ?_))
           go_roundw
           case rel => exact ⟨1, m, by decide, by go_num, rfl, Lib.hid (by rw [HSU.out]; exact HC.out), Lib.hid (by have := HC9.out; omega), HM, by first | exact hv.drop | (have h9 := hv.drop; rw [HE0.out] at h9; exact h9)⟩
           case measure => simp [intOf]
       · clear hj
         simp only [Int.natCast_one]
         cases e1 : b1 with
         | true =>
           have HSU : Hid ((hdR SL (1 + 1)).length = (hdR SL 1).length + 1) := Lib.hid (by rw [hdR_true (HSL1.out.trans (by rw [e1])) rfl, List.length_append]; rfl)
           obtain ⟨m1, hm1⟩ : ∃ m1, m + 1 = m1 := ⟨_, rfl⟩
           have hm9 : m ≤ 4 := by have := HC9.out; omega
           have q1 : IntKind.i64.wrap ((m : Int) + 1) = (m1 : Int) := by rw [IntWalk.i64_in _ (by omega)]; omega
           have HM1 := Lib.hid hm1
           have HE1 := Lib.hid e1
           clear e1 hm1 hm9
           go_wp2_with (first
             | ((with_reducible refine at_aindex ?_); refine wl_indexA rfl rfl (i := 1) (j := 1) rfl rfl Tryz.underlying56 Tryz.underlying55 rfl 4 infoRq4 (by decide) (v := #[.bool true, .int .i64 h1, .bool f1, .int .i64 s1]) rfl ?_)
             | ((with_reducible refine at_alloc (T := 55) (dst := some 8) ?_); refine wl_newb rfl #[.bool false, .int .i64 0, .bool false, .int .i64 0] 55 (fun _ => rfl) ?_; intro b_8 w2 hm2; replace HM := Lib.hid (IdS.new HM.out hm2.made.new); replace hv := hv.madeAt hm2; clear hm2)
             | ((with_reducible refine at_store (T := 55) ?_); refine wl_stv rfl b_8 rfl _ rfl _ hv.vars.ro hv.vars.so 4 infoRq4 rfl rfl (by simp [Value.oneCell']) ?_; intro w2 hw2; replace HM := Lib.hid (IdS.wrote HM.out hw2 (hv.vars.so (b := b_8))); replace hv := hv.sets (by repeat first | exact .z | apply SetM.s) hw2; clear hw2)
             | ((with_reducible refine at_load (T := 4) ?_); refine wl_ldc rfl b_8 0 rfl _ hv.vars.ro _ Tryz.underlying4 rfl (.bool true) rfl ?_))
           go_roundw
           case rel => exact ⟨2, m1, by decide, by go_num, rfl, Lib.hid (by rw [HSU.out]; have := HC.out; have := HM1.out; omega), Lib.hid (by have := HC9.out; have := HM1.out; omega), HM, by first | exact hv.drop | (have h9 := hv.drop; rw [HE1.out] at h9; exact h9)⟩
           case measure => simp [intOf]
         | false =>
           have HSU : Hid (hdR SL (1 + 1) = hdR SL 1) := Lib.hid (hdR_false (HSL1.out.trans (by rw [e1])) rfl)
           have HE1 := Lib.hid e1
           clear e1
           go_wp2_with (first
             | ((with_reducible refine at_aindex ?_); refine wl_indexA rfl rfl (i := 1) (j := 1) rfl rfl Tryz.underlying56 Tryz.underlying55 rfl 4 infoRq4 (by decide) (v := #[.bool false, .int .i64 h1, .bool f1, .int .i64 s1]) rfl ?_)
             | ((with_reducible refine at_alloc (T := 55) (dst := some 8) ?_); refine wl_newb rfl #[.bool false, .int .i64 0, .bool false, .int .i64 0] 55 (fun _ => rfl) ?_; intro b_8 w2 hm2; replace HM := Lib.hid (IdS.new HM.out hm2.made.new); replace hv := hv.madeAt hm2; clear hm2)
             | ((with_reducible refine at_store (T := 55) ?_); refine wl_stv rfl b_8 rfl _ rfl _ hv.vars.ro hv.vars.so 4 infoRq4 rfl rfl (by simp [Value.oneCell']) ?_; intro w2 hw2; replace HM := Lib.hid (IdS.wrote HM.out hw2 (hv.vars.so (b := b_8))); replace hv := hv.sets (by repeat first | exact .z | apply SetM.s) hw2; clear hw2)
             | ((with_reducible refine at_load (T := 4) ?_); refine wl_ldc rfl b_8 0 rfl _ hv.vars.ro _ Tryz.underlying4 rfl (.bool false) rfl ?_))
           go_roundw
           case rel => exact ⟨2, m, by decide, by go_num, rfl, Lib.hid (by rw [HSU.out]; exact HC.out), Lib.hid (by have := HC9.out; omega), HM, by first | exact hv.drop | (have h9 := hv.drop; rw [HE1.out] at h9; exact h9)⟩
           case measure => simp [intOf]
       · clear hj
         cases e2 : b2 with
         | true =>
           have HSU : Hid ((hdR SL (2 + 1)).length = (hdR SL 2).length + 1) := Lib.hid (by rw [hdR_true (HSL2.out.trans (by rw [e2])) rfl, List.length_append]; rfl)
           obtain ⟨m1, hm1⟩ : ∃ m1, m + 1 = m1 := ⟨_, rfl⟩
           have hm9 : m ≤ 4 := by have := HC9.out; omega
           have q1 : IntKind.i64.wrap ((m : Int) + 1) = (m1 : Int) := by rw [IntWalk.i64_in _ (by omega)]; omega
           have HM1 := Lib.hid hm1
           have HE2 := Lib.hid e2
           clear e2 hm1 hm9
           go_wp2_with (first
             | ((with_reducible refine at_aindex ?_); refine wl_indexA rfl rfl (i := 2) (j := 2) rfl rfl Tryz.underlying56 Tryz.underlying55 rfl 4 infoRq4 (by decide) (v := #[.bool true, .int .i64 h2, .bool f2, .int .i64 s2]) rfl ?_)
             | ((with_reducible refine at_alloc (T := 55) (dst := some 8) ?_); refine wl_newb rfl #[.bool false, .int .i64 0, .bool false, .int .i64 0] 55 (fun _ => rfl) ?_; intro b_8 w2 hm2; replace HM := Lib.hid (IdS.new HM.out hm2.made.new); replace hv := hv.madeAt hm2; clear hm2)
             | ((with_reducible refine at_store (T := 55) ?_); refine wl_stv rfl b_8 rfl _ rfl _ hv.vars.ro hv.vars.so 4 infoRq4 rfl rfl (by simp [Value.oneCell']) ?_; intro w2 hw2; replace HM := Lib.hid (IdS.wrote HM.out hw2 (hv.vars.so (b := b_8))); replace hv := hv.sets (by repeat first | exact .z | apply SetM.s) hw2; clear hw2)
             | ((with_reducible refine at_load (T := 4) ?_); refine wl_ldc rfl b_8 0 rfl _ hv.vars.ro _ Tryz.underlying4 rfl (.bool true) rfl ?_))
           go_roundw
           case rel => exact ⟨3, m1, by decide, by go_num, rfl, Lib.hid (by rw [HSU.out]; have := HC.out; have := HM1.out; omega), Lib.hid (by have := HC9.out; have := HM1.out; omega), HM, by first | exact hv.drop | (have h9 := hv.drop; rw [HE2.out] at h9; exact h9)⟩
           case measure => simp [intOf]
         | false =>
           have HSU : Hid (hdR SL (2 + 1) = hdR SL 2) := Lib.hid (hdR_false (HSL2.out.trans (by rw [e2])) rfl)
           have HE2 := Lib.hid e2
           clear e2
           go_wp2_with (first
             | ((with_reducible refine at_aindex ?_); refine wl_indexA rfl rfl (i := 2) (j := 2) rfl rfl Tryz.underlying56 Tryz.underlying55 rfl 4 infoRq4 (by decide) (v := #[.bool false, .int .i64 h2, .bool f2, .int .i64 s2]) rfl ?_)
             | ((with_reducible refine at_alloc (T := 55) (dst := some 8) ?_); refine wl_newb rfl #[.bool false, .int .i64 0, .bool false, .int .i64 0] 55 (fun _ => rfl) ?_; intro b_8 w2 hm2; replace HM := Lib.hid (IdS.new HM.out hm2.made.new); replace hv := hv.madeAt hm2; clear hm2)
             | ((with_reducible refine at_store (T := 55) ?_); refine wl_stv rfl b_8 rfl _ rfl _ hv.vars.ro hv.vars.so 4 infoRq4 rfl rfl (by simp [Value.oneCell']) ?_; intro w2 hw2; replace HM := Lib.hid (IdS.wrote HM.out hw2 (hv.vars.so (b := b_8))); replace hv := hv.sets (by repeat first | exact .z | apply SetM.s) hw2; clear hw2)
             | ((with_reducible refine at_load (T := 4) ?_); refine wl_ldc rfl b_8 0 rfl _ hv.vars.ro _ Tryz.underlying4 rfl (.bool false) rfl ?_))
           go_roundw
           case rel => exact ⟨3, m, by decide, by go_num, rfl, Lib.hid (by rw [HSU.out]; exact HC.out), Lib.hid (by have := HC9.out; omega), HM, by first | exact hv.drop | (have h9 := hv.drop; rw [HE2.out] at h9; exact h9)⟩
           case measure => simp [intOf]
       · clear hj
         cases e3 : b3 with
         | true =>
           have HSU : Hid ((hdR SL (3 + 1)).length = (hdR SL 3).length + 1) := Lib.hid (by rw [hdR_true (HSL3.out.trans (by rw [e3])) rfl, List.length_append]; rfl)
           obtain ⟨m1, hm1⟩ : ∃ m1, m + 1 = m1 := ⟨_, rfl⟩
           have hm9 : m ≤ 4 := by have := HC9.out; omega
           have q1 : IntKind.i64.wrap ((m : Int) + 1) = (m1 : Int) := by rw [IntWalk.i64_in _ (by omega)]; omega
           have HM1 := Lib.hid hm1
           have HE3 := Lib.hid e3
           clear e3 hm1 hm9
           go_wp2_with (first
             | ((with_reducible refine at_aindex ?_); refine wl_indexA rfl rfl (i := 3) (j := 3) rfl rfl Tryz.underlying56 Tryz.underlying55 rfl 4 infoRq4 (by decide) (v := #[.bool true, .int .i64 h3, .bool f3, .int .i64 s3]) rfl ?_)
             | ((with_reducible refine at_alloc (T := 55) (dst := some 8) ?_); refine wl_newb rfl #[.bool false, .int .i64 0, .bool false, .int .i64 0] 55 (fun _ => rfl) ?_; intro b_8 w2 hm2; replace HM := Lib.hid (IdS.new HM.out hm2.made.new); replace hv := hv.madeAt hm2; clear hm2)
             | ((with_reducible refine at_store (T := 55) ?_); refine wl_stv rfl b_8 rfl _ rfl _ hv.vars.ro hv.vars.so 4 infoRq4 rfl rfl (by simp [Value.oneCell']) ?_; intro w2 hw2; replace HM := Lib.hid (IdS.wrote HM.out hw2 (hv.vars.so (b := b_8))); replace hv := hv.sets (by repeat first | exact .z | apply SetM.s) hw2; clear hw2)
             | ((with_reducible refine at_load (T := 4) ?_); refine wl_ldc rfl b_8 0 rfl _ hv.vars.ro _ Tryz.underlying4 rfl (.bool true) rfl ?_))
           go_roundw
           case rel => exact ⟨4, m1, by decide, by go_num, rfl, Lib.hid (by rw [HSU.out]; have := HC.out; have := HM1.out; omega), Lib.hid (by have := HC9.out; have := HM1.out; omega), HM, by first | exact hv.drop | (have h9 := hv.drop; rw [HE3.out] at h9; exact h9)⟩
           case measure => simp [intOf]
         | false =>
           have HSU : Hid (hdR SL (3 + 1) = hdR SL 3) := Lib.hid (hdR_false (HSL3.out.trans (by rw [e3])) rfl)
           have HE3 := Lib.hid e3
           clear e3
           go_wp2_with (first
             | ((with_reducible refine at_aindex ?_); refine wl_indexA rfl rfl (i := 3) (j := 3) rfl rfl Tryz.underlying56 Tryz.underlying55 rfl 4 infoRq4 (by decide) (v := #[.bool false, .int .i64 h3, .bool f3, .int .i64 s3]) rfl ?_)
             | ((with_reducible refine at_alloc (T := 55) (dst := some 8) ?_); refine wl_newb rfl #[.bool false, .int .i64 0, .bool false, .int .i64 0] 55 (fun _ => rfl) ?_; intro b_8 w2 hm2; replace HM := Lib.hid (IdS.new HM.out hm2.made.new); replace hv := hv.madeAt hm2; clear hm2)
             | ((with_reducible refine at_store (T := 55) ?_); refine wl_stv rfl b_8 rfl _ rfl _ hv.vars.ro hv.vars.so 4 infoRq4 rfl rfl (by simp [Value.oneCell']) ?_; intro w2 hw2; replace HM := Lib.hid (IdS.wrote HM.out hw2 (hv.vars.so (b := b_8))); replace hv := hv.sets (by repeat first | exact .z | apply SetM.s) hw2; clear hw2)
             | ((with_reducible refine at_load (T := 4) ?_); refine wl_ldc rfl b_8 0 rfl _ hv.vars.ro _ Tryz.underlying4 rfl (.bool false) rfl ?_))
           go_roundw
           case rel => exact ⟨4, m, by decide, by go_num, rfl, Lib.hid (by rw [HSU.out]; exact HC.out), Lib.hid (by have := HC9.out; omega), HM, by first | exact hv.drop | (have h9 := hv.drop; rw [HE3.out] at h9; exact h9)⟩
           case measure => simp [intOf]
       · clear hj
         have HLE : Hid ((hdR SL 4).length = m) := Lib.hid HC.out.symm
         obtain rfl : m = cn := by have := HC.out; have := HLEN.out; omega
         go_wp2_with (first
           | ((with_reducible refine at_load (T := 122) ?_); refine wl_ldc rfl b_3 0 rfl _ hv.vars.ro _ Tryz.underlying122 rfl (.map (some bm)) rfl ?_)
           | ((with_reducible refine at_maplen ?_); refine wl_idlen rfl rfl HM.out Tryz.underlying122 (m := m) HLE.out ?_)
           | ((with_reducible refine at_load (T := 28) ?_); refine wl_ldc rfl b_1 5 rfl _ hv.vars.ro _ Tryz.underlying28 rfl (.slice ca m cc) rfl ?_)
           | (go_at_call 52; (refine (ContainsC_none HC1.out (f := 51) (cap := #[.pointer (some ⟨b_3, 0, none⟩)]) (Go.Proofs.enters_of Tryz.func51 (by kernel_rfl) rfl) _ (hv.rd HQ.out.q.ch) (fun c hc w1 hn => lost_b c.h c.db c.d0 c.dn c.dc c.rm b_3 bm n (hdR SL 4) w1 ((New.row hn (hv.vars.lt (b := b_3) (by repeat first | exact mz | apply ms))).trans (hv.vars.ro (b := b_3))) (Nat.lt_of_lt_of_le (hv.vars.lt (b := b_3) (by repeat first | exact mz | apply ms)) hn.size) (IdS.new HM.out hn) (HIA.out c hc) (HHL.out c hc))).mono ?_); rintro e w1 ⟨rfl, hn1⟩; replace hv := hv.new hn1; clear hn1))
         go_ret
         exact ⟨rfl, hv.below⟩
end Go.Proofs.YtjmibgomkgkhnaaGreat
end

section
/-
 A disk's driver (layer 9): what is handed in between, parts put together.
-/
namespace Go
section
variable {P : Program} {ops : Array Oper} {rest : List Oper} {a : Act} {w : World} {Q : Exit → Act → World → Prop}
variable {dst : Option Tmp} {ty T : TypeId} {pos : String} {after : Array Edge} {g : Option (Nat × Bool)} {x y z : Operand}
theorem at_bld2 (h : wpList P ops Q (⟨dst, .build T #[(0, x), (1, y)], ty, pos, after, g⟩ :: rest) a w) : wpList P ops Q (⟨dst, .build T #[(0, x), (1, y)], ty, pos, after, g⟩ :: rest) a w := h
theorem at_bld3 (h : wpList P ops Q (⟨dst, .build T #[(0, x), (1, y), (2, z)], ty, pos, after, g⟩ :: rest) a w) : wpList P ops Q (⟨dst, .build T #[(0, x), (1, y), (2, z)], ty, pos, after, g⟩ :: rest) a w := h
end
end Go
namespace Go.Proofs.Qu
open Go Go.RowKit Go.Proofs.Nm
theorem rd_partK {w : World} {b o n k : Nat} {c : Array Value} {l : List Value} (hr : w.rowD b = c) (hs : w.soft b = true) (hl : l.length = n * k) (hc : ∀ i, i < n * k → c[o + i]? = l[i]?) (hn : n ≤ maxLen) : Rd w k (.slice (some ⟨b, o, none⟩) n n) l :=
 ⟨some ⟨b, o, none⟩, n, n, rfl, hl, Nat.le_refl _, hn, (fun h => by cases h), fun i hi => ⟨b, o, rfl, soft_lt hs, by rw [cell_rowD, hr]; exact hc i (by omega)⟩⟩
end Go.Proofs.Qu
namespace Go.Proofs.YtjmibgomkgkhnaaGreat
open Go.Proofs.Qu Go.Proofs.Nm Go.RowKit Go.Proofs
theorem ConcatB_M {w0 w : World} {L : List (Nat × Array Value)} {R : List (Nat × Value × List Value)} (hv : Mem w0 w L R) {sb m : Nat} (parts : List (Value × List Pt)) (hs : (1, .slice (some ⟨sb, 0, none⟩) m m, parts.map (·.1)) ∈ R) (hal : ∀ p ∈ parts, (3, p.1, cellsPt p.2) ∈ R) (hm : m ≤ 1000) {l : List Pt} (hl : parts.flatMap (·.2) = l) {n : Nat} (hn : l.length = n) (h0 : 0 < n) (hn1 : n ≤ 100000) :
   Calls Tryz.prog 77 #[.slice (some ⟨sb, 0, none⟩) m m] w fun e w' => ∃ gb gc R', e = .returned (.slice (some ⟨gb, 0, none⟩) n gc) ∧ Mem w0 w' L R' ∧ (3, .slice (some ⟨gb, 0, none⟩) n gc, cellsPt l) ∈ R' ∧ ∀ x ∈ R, x ∈ R' := by
 refine (ConcatB_any parts sb 0 m m w0 w L R hv hs hal hm (by rw [hl]; omega) (by rw [hl]; omega)).mono ?_
 rintro e w' ⟨v, x, rfl, hrow, hnw, hge, hr, hsf⟩
 rw [hl] at hrow
 have hrd := hrow.rd hr hsf
 obtain ⟨n1, c1, rfl, _⟩ := id hrow
 have hn9 := rd_len hrd
 rw [cellsPt_len] at hn9
 obtain rfl : n1 = n := by omega
 exact ⟨x.1, c1, _, rfl, hv.fresh hnw ⟨hrd, fun _ => ⟨x.1, 0, n1, c1, rfl, hge⟩⟩, Mem.z, fun y hy => Mem.s hy⟩
theorem free_true (h_ : Nat) (f_ : Bool) (s_ : Int) (w : World) : Calls Tryz.prog 75 #[.agg #[.bool false, .int .i64 h_, .bool f_, .int .i64 s_]] w fun e w' => e = .returned (.bool true) ∧ New w w' := by
 have hv := Mem.nil w
 go_enter Tryz.func75, Tryz.ntmps75
 go_wp2_with (first
   | ((with_reducible refine at_box (T := 55) (dst := some 1) ?_); refine wl_newb rfl #[.bool false, .int .i64 h_, .bool f_, .int .i64 s_] 55 (fun _ => rfl) ?_; intro b_1 w2 hm2; replace hv := hv.madeAt hm2; clear hm2)
   | ((with_reducible refine at_load (T := 4) ?_); refine wl_ldc rfl b_1 0 rfl _ hv.vars.ro _ Tryz.underlying4 rfl (.bool false) rfl ?_))
 go_ret
 exact ⟨rfl, hv.below⟩
theorem free_false (h_ : Nat) (f_ : Bool) (s_ : Int) (w : World) : Calls Tryz.prog 75 #[.agg #[.bool true, .int .i64 h_, .bool f_, .int .i64 s_]] w fun e w' => e = .returned (.bool false) ∧ New w w' := by
 have hv := Mem.nil w
 go_enter Tryz.func75, Tryz.ntmps75
 go_wp2_with (first
   | ((with_reducible refine at_box (T := 55) (dst := some 1) ?_); refine wl_newb rfl #[.bool true, .int .i64 h_, .bool f_, .int .i64 s_] 55 (fun _ => rfl) ?_; intro b_1 w2 hm2; replace hv := hv.madeAt hm2; clear hm2)
   | ((with_reducible refine at_load (T := 4) ?_); refine wl_ldc rfl b_1 0 rfl _ hv.vars.ro _ Tryz.underlying4 rfl (.bool true) rfl ?_))
 go_ret
 exact ⟨rfl, hv.below⟩
theorem free_any (b : Bool) (h_ : Nat) (f_ : Bool) (s_ : Int) (w : World) : Calls Tryz.prog 75 #[.agg #[.bool b, .int .i64 h_, .bool f_, .int .i64 s_]] w fun e w' => e = .returned (.bool (!b)) ∧ New w w' := by
 cases b with
 | true => exact free_false h_ f_ s_ w
 | false => exact free_true h_ f_ s_ w
theorem built_b2 (x y : Int) : Tryz.prog.built 91 [(0, .int .i64 x), (1, .int .i64 y)] = some #[.int .i64 x, .int .i64 y, .bool false] := by kernel_rfl
theorem built_b3 (x y : Int) : Tryz.prog.built 91 [(0, .int .i64 x), (1, .int .i64 y), (2, .bool true)] = some #[.int .i64 x, .int .i64 y, .bool true] := by kernel_rfl
theorem wr1_w {w0 w : World} {L : List (Nat × Array Value)} {R : List (Nat × Value × List Value)} {a0 a1 a2 a3 a4 a5 a6 a7 a8 a9 a10 a11 a12 a13 a14 a15 a16 a17 a18 a19 a20 a21 a22 : Value} {bw mb mc : Nat} {M : List Nat} (hv : Mem w0 w ((bw, #[a0, a1, a2, a3, a4, a5, a6, a7, a8, a9, a10, a11, a12, a13, a14, a15, a16, a17, a18, a19, a20, a21, a22, .slice (some ⟨mb, 0, none⟩) 1700 mc]) :: L) R) (hm : InM R mb 0 1700 mc M) {b7 db do_ dc p pd : Nat} {D : List Nat} (h7 : (b7, #[.slice (some ⟨db, do_, none⟩) 256 dc]) ∈ L) (hdr : (1, .slice (some ⟨db, do_, none⟩) 256 dc, cellsB D) ∈ R) (hg : goodB D) (hpd : p + 16 = pd) (hp : pd + 256 ≤ 1700) :
   Calls Tryz.prog 42 #[.pointer (some ⟨bw, 0, none⟩), .int .i64 p, .pointer (some ⟨b7, 0, none⟩)] w fun e w' => ∃ gb vb vc R1, e = .returned (.tuple #[.slice (some ⟨gb, 0, none⟩) 1 1, .int .i64 0]) ∧ Mem w0 w' ((bw, #[a0, a1, a2, a3, a4, a5, a6, a7, a8, a9, a10, a11, a12, a13, a14, a15, a16, a17, a18, a19, a20, a21, a22, .slice (some ⟨vb, 0, none⟩) 1700 vc]) :: L) R1 ∧ InM R1 vb 0 1700 vc (putB M pd D) ∧ (3, .slice (some ⟨gb, 0, none⟩) 1 1, cellsPt [(pd, 256, false)]) ∈ R1 ∧ ∀ x ∈ R, x ∈ R1 := by
 have HM : Hid (∀ y, InM (y :: R) mb 0 1700 mc M) := Lib.hid (fun y => hm.mono fun x hx => Mem.s hx)
 have HDR : Hid (∀ y, (1, .slice (some ⟨db, do_, none⟩) 256 dc, cellsB D) ∈ y :: R) := Lib.hid (fun y => Mem.s hdr)
 have HB7 := Lib.hid h7
 have HG := Lib.hid hg
 have H25 : Hid (0 < 256) := Lib.hid (by decide)
 have HP := Lib.hid hp
 have q1 : IntKind.i64.wrap ((p : Int) + 16) = (pd : Int) := by rw [IntWalk.i64_in _ (by omega)]; omega
 clear hm h7 hdr hg hpd hp
 go_enter Tryz.func42, Tryz.ntmps42
 go_wp2_with (first
   | ((with_reducible refine at_bld2 (T := 91) ?_); refine wl_build rfl _ rfl (built_b2 _ _) ?_)
   | ((with_reducible refine at_load (T := 24) ?_); have hv1 := hv.bsl' (k := 3) (n := 1) (c := cellsPt [(pd, 256, false)]) ⟨rfl, made_alloc _ #[.int .i64 pd, .int .i64 256, .bool false] 91⟩ rfl rfl (by unfold maxLen; omega); replace hv := hv1; clear hv1; refine wl_ldc rfl b7 0 rfl _ (hv.vars.row (b := b7) (List.mem_cons_of_mem _ HB7.out)) _ Tryz.underlying24 rfl (.slice (some ⟨db, do_, none⟩) 256 dc) rfl ?_)
   | (go_at_call 43; (with_reducible refine (put_w hv (HM.out _) pd (HDR.out _) HG.out H25.out HP.out).mono ?_); rintro e w1 ⟨vb, vc, R1, rfl, hv1, hm1, hs1⟩; replace hv := hv1; have HM1 := Lib.hid hm1; have HS1 := Lib.hid hs1; clear hv1 hm1 hs1))
 go_ret2
 exact ⟨_, vb, vc, R1, rfl, hv, HM1.out, HS1.out _ Mem.z, fun x hx => HS1.out x (Mem.s hx)⟩
end Go.Proofs.YtjmibgomkgkhnaaGreat
end
