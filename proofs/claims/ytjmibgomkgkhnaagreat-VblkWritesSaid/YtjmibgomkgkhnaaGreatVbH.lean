/-
 VblkWrites (layer 9): what went well is on the disk, and what did not is not.
-/
import Derived.Test.YtjmibgomkgkhnaaGreatVbG
import Derived.Laws.BitsLemmas
set_option maxRecDepth 100000
set_option maxHeartbeats 64000000
set_option linter.unusedVariables false
set_option linter.unusedSimpArgs false
namespace Go
theorem i64_and15 (n : Int) : bits .and .i64 n 15 = n % 16 := by
 have h15 : (BitVec.ofInt 64 15).toNat = 2 ^ 4 - 1 := by decide
 have key : (BitVec.ofInt 64 n &&& BitVec.ofInt 64 15).toNat = (n % ((2 ^ 64 : Nat) : Int)).toNat % 2 ^ 4 := by
   rw [BitVec.toNat_and, BitVec.toNat_ofInt, h15, Nat.and_two_pow_sub_one_eq_mod]
 show IntKind.i64.wrap ((BitVec.ofInt 64 n &&& BitVec.ofInt 64 15).toNat : Nat) = n % 16
 rw [key, IntKind.wrap_i64]
 omega
theorem u8_nat (n : Int) : ∃ a : Nat, a < 256 ∧ IntKind.u8.wrap n = (a : Nat) := by
 refine ⟨(n % 256).toNat, by omega, ?_⟩
 have : IntKind.u8.wrap n = n % 256 := by simp [IntKind.wrap, IntKind.bits, IntKind.signed]
 rw [this]; omega
end Go
namespace Go.Proofs.Qu
open Go Go.RowKit Go.Proofs.Nm
def WrSt (w : World) (R : List (Nat × Value × List Value)) (b7 b8 b10 b12 k : Nat) (wr : World) : Prop :=
 ∃ (vb vc fc cc sc cn2 c2 : Nat) (fa ca sa a2 : Option Addr) (ss : List (Value × List Nat)) (cs : List Wr) (M : List Nat) (Rk : List (Nat × Value × List Value)), Mem w wr [(b12, #[.int .i64 0, .int .i64 16, .int .u16 k, .int .u16 k]), (b10, #[.slice sa 8 sc, .slice a2 cn2 c2]), (b8, #[.int .i64 0, .int .i64 16, .slice fa 16 fc, .int .u16 ((k : Nat) : Int), .int .u16 ((k : Nat) : Int), .slice ca 0 cc, .int .i64 500, .bool false, .int .i64 ((0 : Nat) : Int), .bool false, .int .i64 ((0 : Nat) : Int), .bool false, .int .i64 ((0 : Nat) : Int), .bool false, .int .i64 ((0 : Nat) : Int), .bool false, .int .i64 ((0 : Nat) : Int), .bool false, .int .i64 ((0 : Nat) : Int), .bool false, .int .i64 ((0 : Nat) : Int), .bool false, .int .i64 ((0 : Nat) : Int)]), (b7, #[.slice (some ⟨vb, 0, none⟩) 1700 vc])] Rk ∧ InM Rk vb 0 1700 vc M ∧ getN M 294 2 = k ∧ InQ Rk (.slice fa 16 fc) (.slice ca 0 cc) (List.range 16) [] ∧ OkQ 16 (List.range 16) [] ∧ DiskQ Rk (.slice sa 8 sc) (.slice a2 cn2 c2) ss cs ∧ ss.length = 8 ∧ cn2 ≤ k ∧ ∀ x ∈ R, x ∈ Rk
theorem free_back {free5 ds : List Nat} (hp : free5.Perm ((List.range 16).drop 3 ++ ds)) (hd : ds = (List.range 16).take 3) (hs : free5.Pairwise (· ≤ ·)) : free5 = List.range 16 := by
 subst hd
 exact sorted_eq hs ((List.pairwise_lt_range (n := 16)).imp fun h => Nat.le_of_lt h) (hp.trans (by decide))
end Go.Proofs.Qu
namespace Go.Proofs.YtjmibgomkgkhnaaGreat
open Go.Proofs.Qu Go.Proofs.Nm Go.RowKit Go.Proofs
theorem Writes_c1 (la : Option Addr) (ln lc : Nat) (xs : List Int) (ba : Option Addr) (bn bc : Nat) (bs : List Nat) (sta : Option Addr) (stn stc : Nat) (sts : List Int) (w : World) (R : List (Nat × Value × List Value)) (hv : Mem w w [] R) (hl : (1, .slice la ln lc, xs.map (Value.int .i64)) ∈ R) (hc : (1, .slice ba bn bc, cellsB bs) ∈ R) (hg : goodB bs) (hst : (1, .slice sta stn stc, sts.map (Value.int .i64)) ∈ R) (h0 : 30 < ln) : Calls Tryz.prog 6 #[.slice la ln lc, .slice ba bn bc, .slice sta stn stc] w (fun e w' => e = .returned (.bool true) ∧ New w w') := by
 have y0 : decide ((30 : Int) < (ln : Int)) = true := decide_eq_true (by omega)
 have z0 : decide (30 < ln) = true := decide_eq_true (by omega)
 clear hl hc hg hst h0
 go_enter Tryz.func6, Tryz.ntmps6
 try simp only [List.append_eq, List.cons_append, List.nil_append]
 go_wp2_with (first
   | (go_at_call 19; (with_reducible refine (heads09 _).mono ?_); rintro e w1 ⟨rfl, hn1⟩; replace hv := hv.new hn1; clear hn1))
 go_ret
 exact ⟨rfl, hv.below⟩
theorem Writes_c2 (la : Option Addr) (ln lc : Nat) (xs : List Int) (ba : Option Addr) (bn bc : Nat) (bs : List Nat) (sta : Option Addr) (stn stc : Nat) (sts : List Int) (w : World) (R : List (Nat × Value × List Value)) (hv : Mem w w [] R) (hl : (1, .slice la ln lc, xs.map (Value.int .i64)) ∈ R) (hc : (1, .slice ba bn bc, cellsB bs) ∈ R) (hg : goodB bs) (hst : (1, .slice sta stn stc, sts.map (Value.int .i64)) ∈ R) (h0 : ¬ 30 < ln) (h1 : bn < ln) : Calls Tryz.prog 6 #[.slice la ln lc, .slice ba bn bc, .slice sta stn stc] w (fun e w' => e = .returned (.bool true) ∧ New w w') := by
 have y0 : decide ((30 : Int) < (ln : Int)) = false := decide_eq_false (by omega)
 have z0 : decide (30 < ln) = false := decide_eq_false (by omega)
 have y1 : decide ((bn : Int) < (ln : Int)) = true := decide_eq_true (by omega)
 have z1 : decide (bn < ln) = true := decide_eq_true (by omega)
 clear hl hc hg hst h0 h1
 go_enter Tryz.func6, Tryz.ntmps6
 try simp only [List.append_eq, List.cons_append, List.nil_append]
 go_wp2_with (first
   | (go_at_call 19; (with_reducible refine (heads09 _).mono ?_); rintro e w1 ⟨rfl, hn1⟩; replace hv := hv.new hn1; clear hn1))
 go_ret
 exact ⟨rfl, hv.below⟩
theorem Writes_c3 (la : Option Addr) (ln lc : Nat) (xs : List Int) (ba : Option Addr) (bn bc : Nat) (bs : List Nat) (sta : Option Addr) (stn stc : Nat) (sts : List Int) (w : World) (R : List (Nat × Value × List Value)) (hv : Mem w w [] R) (hl : (1, .slice la ln lc, xs.map (Value.int .i64)) ∈ R) (hc : (1, .slice ba bn bc, cellsB bs) ∈ R) (hg : goodB bs) (hst : (1, .slice sta stn stc, sts.map (Value.int .i64)) ∈ R) (h0 : ¬ 30 < ln) (h1 : ¬ bn < ln) (h2 : stn < ln) : Calls Tryz.prog 6 #[.slice la ln lc, .slice ba bn bc, .slice sta stn stc] w (fun e w' => e = .returned (.bool true) ∧ New w w') := by
 have y0 : decide ((30 : Int) < (ln : Int)) = false := decide_eq_false (by omega)
 have z0 : decide (30 < ln) = false := decide_eq_false (by omega)
 have y1 : decide ((bn : Int) < (ln : Int)) = false := decide_eq_false (by omega)
 have z1 : decide (bn < ln) = false := decide_eq_false (by omega)
 have y2 : decide ((stn : Int) < (ln : Int)) = true := decide_eq_true (by omega)
 have z2 : decide (stn < ln) = true := decide_eq_true (by omega)
 clear hl hc hg hst h0 h1 h2
 go_enter Tryz.func6, Tryz.ntmps6
 try simp only [List.append_eq, List.cons_append, List.nil_append]
 go_wp2_with (first
   | (go_at_call 19; (with_reducible refine (heads09 _).mono ?_); rintro e w1 ⟨rfl, hn1⟩; replace hv := hv.new hn1; clear hn1))
 go_ret
 exact ⟨rfl, hv.below⟩
theorem Writes_yes (la : Option Addr) (ln lc : Nat) (xs : List Int) (ba : Option Addr) (bn bc : Nat) (bs : List Nat) (sta : Option Addr) (stn stc : Nat) (sts : List Int) (w : World) (R : List (Nat × Value × List Value)) (hv : Mem w w [] R) (hl : (1, .slice la ln lc, xs.map (Value.int .i64)) ∈ R) (hc : (1, .slice ba bn bc, cellsB bs) ∈ R) (hg : goodB bs) (hst : (1, .slice sta stn stc, sts.map (Value.int .i64)) ∈ R) (h0 : ¬ 30 < ln) (h1 : ¬ bn < ln) (h2 : ¬ stn < ln) : Calls Tryz.prog 6 #[.slice la ln lc, .slice ba bn bc, .slice sta stn stc] w (fun e w' => e = .returned (.bool true) ∧ New w w') := by
 have hln : xs.length = ln := by
   obtain ⟨_, _, _, e, g, _⟩ := hv.rd hl
   cases e
   simpa using g
 have hbn : bs.length = bn := by
   obtain ⟨_, _, _, e, g, _⟩ := hv.rd hc
   cases e
   rw [cellsB_len] at g; omega
 have hsn : sts.length = stn := by
   obtain ⟨_, _, _, e, g, _⟩ := hv.rd hst
   cases e
   simpa using g
 have HXM0 := Lib.hid hl
 have HC0 := Lib.hid hc
 have HG := Lib.hid hg
 have HST0 := Lib.hid hst
 have HLN := Lib.hid hln
 have HBN := Lib.hid hbn
 have HSN := Lib.hid hsn
 have HL30 : Hid (ln ≤ 30) := Lib.hid (by omega)
 have HLB : Hid (ln ≤ bn) := Lib.hid (by omega)
 have HLS : Hid (ln ≤ stn) := Lib.hid (by omega)
 have y0 : decide ((30 : Int) < (ln : Int)) = false := decide_eq_false (by omega)
 have z0 : decide (30 < ln) = false := decide_eq_false h0
 have y1 : decide ((bn : Int) < (ln : Int)) = false := decide_eq_false (by omega)
 have z1 : decide (bn < ln) = false := decide_eq_false h1
 have y2 : decide ((stn : Int) < (ln : Int)) = false := decide_eq_false (by omega)
 have z2 : decide (stn < ln) = false := decide_eq_false h2
 clear hl hc hg hst h0 h1 h2 hln hbn hsn
 go_enter Tryz.func6, Tryz.ntmps6
 try simp only [List.append_eq, List.cons_append, List.nil_append]
 go_wp2_with (first
   | ((with_reducible refine at_mkslice (T := 24) ?_); refine wl_mkz rfl 1700 rfl rfl (by decide) ?_; intro bz w2 hm2; have hv1 := Mem.yield (L1 := []) (hv.madeAt hm2) (zeros_row bz 1700 (by decide)); simp only [List.nil_append] at hv1; replace hv := hv1; clear hv1 hm2; have HMZ : Hid (InM ((1, .slice (some ⟨bz, 0, none⟩) 1700 1700, cellsB (List.replicate 1700 0)) :: R) bz 0 1700 1700 (List.replicate 1700 0)) := Lib.hid ⟨Mem.z, List.length_replicate, by decide, by decide, zeros_good 1700⟩)
   | ((with_reducible refine at_build (T := 26) ?_); refine wl_build rfl _ rfl (built_mem _ _ _) ?_)
   | (go_at_call 17; (refine (BNew_K hv HMZ.out).mono ?_); rintro e w1 ⟨vb, vc, fa, fc, R1, rfl, hv1, hm1, hq1, ho1, hs1⟩; rw [zeros_put] at hm1; replace hv := hv1; have HM1 := Lib.hid hm1; have HQ1 := Lib.hid hq1; have HO1 := Lib.hid ho1; have HS1 := Lib.hid hs1; clear hv1 hm1 hq1 ho1 hs1)
   | ((with_reducible refine at_alloc (T := 26) (dst := some 7) ?_); refine wl_newb rfl #[.slice none 0 0] 26 (fun _ => rfl) ?_; intro b_7 w2 hm2; replace hv := hv.madeAt hm2; clear hm2)
   | ((with_reducible refine at_alloc (T := 58) (dst := some 8) ?_); refine wl_newb rfl #[.int .i64 0, .int .i64 0, .slice none 0 0, .int .u16 0, .int .u16 0, .slice none 0 0, .int .i64 0, .bool false, .int .i64 0, .bool false, .int .i64 0, .bool false, .int .i64 0, .bool false, .int .i64 0, .bool false, .int .i64 0, .bool false, .int .i64 0, .bool false, .int .i64 0, .bool false, .int .i64 0] 58 (fun _ => rfl) ?_; intro b_8 w2 hm2; replace hv := hv.madeAt hm2; clear hm2)
   | ((with_reducible refine at_store (T := 26) ?_); refine wl_stv rfl b_7 rfl _ rfl _ hv.vars.ro hv.vars.so 1 infoM rfl rfl (by simp [Value.oneCell']) ?_; intro w2 hw2; replace hv := hv.sets (by repeat first | exact .z | apply SetM.s) hw2; clear hw2)
   | ((with_reducible refine at_store (T := 58) ?_); refine wl_stv rfl b_8 rfl _ rfl _ hv.vars.ro hv.vars.so 23 infoBk23 rfl rfl (by simp [Value.oneCell']) ?_; intro w2 hw2; replace hv := hv.sets (by repeat first | exact .z | apply SetM.s) hw2; clear hw2)
   | (go_at_call 18; (refine (RDNew_ok hv 8 (by decide) (by decide)).mono ?_); rintro e w1 ⟨sa, sc, ss, R2, rfl, hv1, hd1, hsl, hs1⟩; replace hv := hv1; have HD2 := Lib.hid hd1; have HSL := Lib.hid hsl; have HS2 := Lib.hid hs1; clear hv1 hd1 hsl hs1)
   | ((with_reducible refine at_alloc (T := 63) (dst := some 10) ?_); refine wl_newb rfl #[.slice none 0 0, .slice none 0 0] 63 (fun _ => rfl) ?_; intro b_10 w2 hm2; replace hv := hv.madeAt hm2; clear hm2)
   | ((with_reducible refine at_store (T := 63) ?_); refine wl_stv rfl b_10 rfl _ rfl _ hv.vars.ro hv.vars.so 2 infoD2 rfl rfl (by simp [Value.oneCell']) ?_; intro w2 hw2; replace hv := hv.sets (by repeat first | exact .z | apply SetM.s) hw2; clear hw2)
   | (go_at_call 9; (refine (RServe16 _).mono ?_); rintro e w1 ⟨rfl, hn1⟩; replace hv := hv.new hn1; clear hn1)
   | ((with_reducible refine at_alloc (T := 38) (dst := some 12) ?_); refine wl_newb rfl #[.int .i64 0, .int .i64 0, .int .u16 0, .int .u16 0] 38 (fun _ => rfl) ?_; intro b_12 w2 hm2; replace hv := hv.madeAt hm2; clear hm2)
   | ((with_reducible refine at_store (T := 38) ?_); refine wl_stv rfl b_12 rfl _ rfl _ hv.vars.ro hv.vars.so 4 infoS4 rfl rfl (by simp [Value.oneCell']) ?_; intro w2 hw2; replace hv := hv.sets (by repeat first | exact .z | apply SetM.s) hw2; clear hw2))
 clear y0 y1 y2 z0 z1 z2
 go_loopw [13] (fun iv wr => ∃ k : Nat, k ≤ ln ∧ iv = .int .i64 k ∧ WrSt w R b_7 b_8 b_10 b_12 k wr) (fun iv _ => ln - (intOf iv).toNat)
 case atStart => exact ⟨0, Nat.zero_le _, rfl, vb, vc, fc, 0, sc, 0, 0, fa, none, sa, none, ss, [], List.replicate 1700 0, R2, hv, HM1.out.mono HS2.out, zeros_getN2 (by decide), HQ1.out.mono HS2.out, HO1.out, HD2.out, HSL.out, Nat.le_refl _, fun x hx => HS2.out x (HS1.out x (Mem.s hx))⟩
 case round =>
   clear hv HM1 HQ1 HO1 HD2 HSL HS1 HS2 HMZ
   obtain ⟨k, hk0, rfl, hrel⟩ := hrel
   obtain ⟨vb, vc, fc, cc, sc, cn2, c2, fa, ca, sa, a2, ss, cs, M, Rk, hv, hm, hu, hq, ho, hd, hsl, hcn, hrk⟩ := hrel
   have HM := Lib.hid hm
   have HUI := Lib.hid hu
   have HB := Lib.hid (BlkQ.zero hq ho)
   have HD := Lib.hid hd
   have HSL := Lib.hid hsl
   have HCK2 := Lib.hid hcn
   have HRK := Lib.hid hrk
   have HXM := Lib.hid (hrk _ HXM0.out)
   have HC := Lib.hid (hrk _ HC0.out)
   have HSTR0 := Lib.hid (hrk _ HST0.out)
   clear hm hu hq ho hd hsl hcn hrk
   by_cases hk : k < ln
   · have hki : (k : Int) < (ln : Int) := by omega
     have hkb : (k : Int) < (bn : Int) := by have := HLB.out; omega
     have hks : (k : Int) < (stn : Int) := by have := HLS.out; omega
     have hk3 : (k : Int) ≤ 30 := by have := HL30.out; omega
     obtain ⟨k1, hk1⟩ : ∃ k1, k + 1 = k1 := ⟨_, rfl⟩
     have HK1 := Lib.hid hk1
     have HK5 : Hid (k < 65535) := Lib.hid (by have := HL30.out; omega)
     have HK6 : Hid (k1 < 65536) := Lib.hid (by have := HL30.out; omega)
     have HKK : Hid (k < k1) := Lib.hid (by omega)
     have HKN : Hid (k1 ≤ k + 1) := Lib.hid (by omega)
     have HK1L : Hid (k1 ≤ ln) := Lib.hid (by omega)
     have HKI := Lib.hid hk
     have GN : Hid (k1 ≠ k) := Lib.hid (by omega)
     have HCN : Hid (cn2 + 1 < 512) := Lib.hid (by have := HCK2.out; have := HL30.out; omega)
     obtain ⟨x, hx⟩ : ∃ x, xs[k]'(by rw [HLN.out]; exact hk) = x := ⟨_, rfl⟩
     obtain ⟨c, hcx⟩ : ∃ c, bs[k]'(by rw [HBN.out]; have := HLB.out; omega) = c := ⟨_, rfl⟩
     obtain ⟨st, hsx⟩ : ∃ x, sts[k]'(by rw [HSN.out]; have := HLS.out; omega) = x := ⟨_, rfl⟩
     have HC256 : Hid (c < 256) := Lib.hid (by rw [← hcx]; exact HG.out _ (List.getElem_mem _))
     have HXK : Hid ((xs.map (Value.int .i64))[k]? = some (.int .i64 x)) := Lib.hid (by rw [List.getElem?_map, List.getElem?_eq_getElem (by rw [HLN.out]; exact hk), hx]; rfl)
     have HCK : Hid ((cellsB bs)[k]? = some (.int .u8 c)) := Lib.hid (by unfold cellsB; rw [List.getElem?_map, List.getElem?_eq_getElem (by rw [HBN.out]; have := HLB.out; omega), hcx]; rfl)
     have HSK : Hid ((sts.map (Value.int .i64))[k]? = some (.int .i64 st)) := Lib.hid (by rw [List.getElem?_map, List.getElem?_eq_getElem (by rw [HSN.out]; have := HLS.out; omega), hsx]; rfl)
     obtain ⟨a, ha16, qa⟩ : ∃ a : Nat, a < 16 ∧ bits .and .i64 x 15 = (a : Nat) := ⟨(x % 16).toNat, by omega, by rw [i64_and15]; omega⟩
     have HA256 : Hid (a < 256) := Lib.hid (by omega)
     obtain ⟨an, han, qst⟩ := u8_nat st
     have HAN := Lib.hid han
     have HST := Lib.hid qst
     obtain ⟨⟨pv, pd⟩, hpq⟩ : ∃ q, readD ss cs a = q := ⟨_, rfl⟩
     have HPQ := Lib.hid hpq
     obtain ⟨xb, xo, _, _, e, hq9⟩ := (hv.rd HXM.out).some (by rw [List.length_map, HLN.out]; omega)
     clear hq9
     cases e
     obtain ⟨yb, yo, _, _, e, hq9⟩ := (hv.rd HC.out).some (by rw [cellsB_len, HBN.out]; omega)
     clear hq9
     cases e
     obtain ⟨zb, zo, _, _, e, hq9⟩ := (hv.rd HSTR0.out).some (by rw [List.length_map, HSN.out]; omega)
     clear hq9
     cases e
     clear hx hcx hsx ha16 han hpq hk hk0 hk1
     by_cases ha8 : a < 8
     · have hr9 := readD_ok HD.out (at_ := a) (by rw [HSL.out]; exact ha8)
       rw [HPQ.out] at hr9
       have HPR := Lib.hid hr9.1
       have HPG := Lib.hid hr9.2.2
       clear hr9
       have HA8 := Lib.hid ha8
       have ya : decide ((a : Int) < 8) = true := decide_eq_true (by omega)
       have za : decide (a < 8) = true := decide_eq_true ha8
       clear ha8
       go_wp2_with (first
         | ((with_reducible refine at_load (T := 3) ?_); refine wl_rd rfl (c := xs.map (Value.int .i64)) (hv.rd HXM.out) k rfl _ Tryz.underlying3 rfl (.int .i64 x) HXK.out ?_)
         | ((with_reducible refine at_load (T := 63) ?_); refine wl_ldv rfl b_10 rfl _ hv.vars.ro 2 _ Tryz.underlying63 rfl infoD2 (by decide) rfl ?_)
         | (go_at_call 24; have hk9 := RDRead_ok hv HD.out (at_ := a) HA8.out; rw [HPQ.out] at hk9; (refine hk9.mono ?_); clear hk9; rintro e w1 ⟨rfl, hn1⟩; replace hv := hv.new hn1; clear hn1))
       have HSS : Hid (∃ v R', SecW c v R') := Lib.hid (Bny.some_of (sector_W hv (fun x hx => hx) c rfl))
       have HSW : Hid (∃ v R', WrW Rk (fun fa5 fc5 ca5 cc5 => #[.int .i64 0, .int .i64 16, .slice fa5 13 fc5, .int .u16 ((k1 : Nat) : Int), .int .u16 ((k : Nat) : Int), .slice ca5 1 cc5, .int .i64 500, .bool true, .int .i64 ((0 : Nat) : Int), .bool false, .int .i64 ((a : Nat) : Int), .bool false, .int .i64 ((0 : Nat) : Int), .bool false, .int .i64 ((0 : Nat) : Int), .bool false, .int .i64 ((0 : Nat) : Int), .bool false, .int .i64 ((0 : Nat) : Int), .bool false, .int .i64 ((0 : Nat) : Int), .bool false, .int .i64 ((0 : Nat) : Int)]) 0 (addM (askM M 500 1 a (List.replicate 256 c)) 0 16 k (List.range 16) [(500, 16, false), (516, 256, false), (772, 1, true)]) 13 1 3 (List.range 16) [] 0 v R') := Lib.hid (some_sec hv c fun w1 R1 b hm hs hr => Bny.some_of (Write_0W (R0 := Rk) (b0 := false) (h0 := 0) (f0 := false) (s0 := 0) (b1 := false) (h1 := 0) (f1 := false) (s1 := 0) (b2 := false) (h2 := 0) (f2 := false) (s2 := 0) (b3 := false) (h3 := 0) (f3 := false) (s3 := 0) (free := List.range 16) (chs := []) (av := k) (la := k) (fn := 16) (cn := 0) (nf1 := 13) (nc1 := 1) (av1 := k1) (hd := 0) (s_ := a) (p := 500) (pd := 516) (ps := 772) (M := M) (D := (List.replicate 256 c)) hm hs HM.out HB.out rfl rfl rfl rfl HA256.out HK5.out HK1.out rfl rfl rfl hr (sec_good HC256.out)))
       replace hv : Mem w _ ([(b_12, _), (b_10, _), (b_8, _), (b_7, _)] ++ []) Rk := hv
       try simp only [Act.put]
       refine Bny.wp_region_walk _ _ [⟨[1003], none⟩, ⟨[1002], none⟩, ⟨[], none⟩, ⟨[], none⟩, ⟨[], none⟩, ⟨[], none⟩, ⟨[], none⟩, ⟨[], some 7⟩, ⟨[7], some 8⟩, ⟨[], none⟩, ⟨[], none⟩, ⟨[], none⟩, ⟨[], none⟩, ⟨[], none⟩, ⟨[], some 14⟩, ⟨[], some 15⟩, ⟨[14], some 14⟩, ⟨[15], some 15⟩, ⟨[], none⟩, ⟨[], none⟩] [.val, .val, .val, .val, .val, .val, .val, .mem (SecW c), .mem (WrW Rk (fun fa5 fc5 ca5 cc5 => #[.int .i64 0, .int .i64 16, .slice fa5 13 fc5, .int .u16 ((k1 : Nat) : Int), .int .u16 ((k : Nat) : Int), .slice ca5 1 cc5, .int .i64 500, .bool true, .int .i64 ((0 : Nat) : Int), .bool false, .int .i64 ((a : Nat) : Int), .bool false, .int .i64 ((0 : Nat) : Int), .bool false, .int .i64 ((0 : Nat) : Int), .bool false, .int .i64 ((0 : Nat) : Int), .bool false, .int .i64 ((0 : Nat) : Int), .bool false, .int .i64 ((0 : Nat) : Int), .bool false, .int .i64 ((0 : Nat) : Int)]) 0 (addM (askM M 500 1 a (List.replicate 256 c)) 0 16 k (List.range 16) [(500, 16, false), (516, 256, false), (772, 1, true)]) 13 1 3 (List.range 16) [] 0), .pure, .pure, .pure, .pure, .pure, .lay #[.slice none 0 0], .lay #[.int .i64 0, .int .i64 0, .slice none 0 0, .int .u16 0, .int .u16 0, .slice none 0 0, .int .i64 0, .bool false, .int .i64 0, .bool false, .int .i64 0, .bool false, .int .i64 0, .bool false, .int .i64 0, .bool false, .int .i64 0, .bool false, .int .i64 0, .bool false, .int .i64 0, .bool false, .int .i64 0], .put, .put, .pure, .pure] (by kernel_rfl) (by kernel_rfl) hv ?_
       simp only [List.length_cons, List.length_nil, Nat.zero_add, Any.someVals]
       iterate 20 apply Exists.intro
       repeat (first
         | (refine Bny.E_off rfl ?_; simp only [Act.put, sia, scs, scz])
         | ((with_reducible refine Bny.at_ealloc ?_); refine Bny.E_lay (t := 26) rfl rfl rfl (fun _ => rfl) ?_; intro b_17; simp only [Act.put, sia, scs, scz])
         | ((with_reducible refine Bny.at_ealloc ?_); refine Bny.E_lay (t := 58) rfl rfl rfl (fun _ => rfl) ?_; intro b_18; simp only [Act.put, sia, scs, scz])
         | ((with_reducible refine Bny.at_estore (T := 26) ?_); refine Bny.E_putv (T := 26) rfl rfl rfl rfl rfl rfl 1 infoM rfl rfl (by simp [Value.oneCell']) ?_; simp only [Act.put, sia, scs, scz])
         | ((with_reducible refine Bny.at_estore (T := 58) ?_); refine Bny.E_putv (T := 58) rfl rfl rfl rfl rfl rfl 23 infoBk23 rfl rfl (by simp [Value.oneCell']) ?_; simp only [Act.put, sia, scs, scz])
         | ((with_reducible refine Bny.at_ecallf (f := 21) ?_); refine Bny.E_callmem rfl rfl rfl (Go.Proofs.enters_of Tryz.func21 (by kernel_rfl) rfl) rfl [.int .u8 c] rfl HSS.out [] (fun x hx => (List.not_mem_nil hx).elim) (fun w0 w L R' hm hs => sector_W (R0 := []) hm (fun x hx => (List.not_mem_nil hx).elim) c rfl) ?_; rintro v R8 ⟨sb, rfl, hsr⟩; have HSR := Lib.hid hsr; clear hsr; simp only [Act.put, sia, scs, scz])
         | ((with_reducible refine Bny.at_ecallf (f := 20) ?_); refine Bny.E_callmem rfl rfl rfl (Go.Proofs.enters_of Tryz.func20 (by kernel_rfl) rfl) rfl [.agg #[.slice (some ⟨vb, 0, none⟩) 1700 vc], .agg #[.int .i64 0, .int .i64 16, .slice fa 16 fc, .int .u16 ((k : Nat) : Int), .int .u16 ((k : Nat) : Int), .slice ca 0 cc, .int .i64 500, .bool false, .int .i64 ((0 : Nat) : Int), .bool false, .int .i64 ((0 : Nat) : Int), .bool false, .int .i64 ((0 : Nat) : Int), .bool false, .int .i64 ((0 : Nat) : Int), .bool false, .int .i64 ((0 : Nat) : Int), .bool false, .int .i64 ((0 : Nat) : Int), .bool false, .int .i64 ((0 : Nat) : Int), .bool false, .int .i64 ((0 : Nat) : Int)], .int .i64 a, .slice (some ⟨sb, 0, none⟩) 256 256] rfl HSW.out ((1, Value.slice (some ⟨sb, 0, none⟩) 256 256, cellsB (List.replicate 256 c)) :: Rk) (fun x hx => (List.mem_cons.1 hx).elim (fun e => .inr ⟨7, by decide, by rw [e]; exact HSR.out⟩) (fun h => .inl h)) (fun w0 w L R' hm hs => Write_0W (R0 := Rk) (b0 := false) (h0 := 0) (f0 := false) (s0 := 0) (b1 := false) (h1 := 0) (f1 := false) (s1 := 0) (b2 := false) (h2 := 0) (f2 := false) (s2 := 0) (b3 := false) (h3 := 0) (f3 := false) (s3 := 0) (free := List.range 16) (chs := []) (av := k) (la := k) (fn := 16) (cn := 0) (nf1 := 13) (nc1 := 1) (av1 := k1) (hd := 0) (s_ := a) (p := 500) (pd := 516) (ps := 772) (M := M) (D := (List.replicate 256 c)) hm (fun x hx => hs x (Mem.s hx)) HM.out HB.out rfl rfl rfl rfl HA256.out HK5.out HK1.out rfl rfl rfl (hs _ Mem.z) (sec_good HC256.out)) ?_; rintro v R3 ⟨vb5, vc5, fa5, fc5, ca5, cc5, c5, rfl, hm5, hq5, ho5, k1_, k2_, k3_, hs5⟩; have HM5 := Lib.hid hm5; have HQ5 := Lib.hid hq5; have HO5 := Lib.hid ho5; have K1 := Lib.hid k1_; have K2 := Lib.hid k2_; have K3 := Lib.hid k3_; have HS5 := Lib.hid hs5; clear hm5 hq5 ho5 k1_ k2_ k3_ hs5; simp only [Act.put, sia, scs, scz])
         | (apply Bny.E_pureq rfl rfl rfl
            case h => intro K hK; go_big_quiet_op; (refine hK _ ?_; rfl)
            case hr => exact fun _ => rfl
            simp only [Act.put, sia, scs, scz])
         | (apply Bny.E_val rfl rfl rfl rfl
            case h =>
              intro E' hA K hK
              first
                | ((with_reducible refine Bny.at_qload (T := 26) ?_); refine Bny.q_ldv 1003 hA (by decide) rfl rfl 1 _ Tryz.underlying26 rfl infoM (by decide) rfl ?_; refine hK _ ?_; rfl)
                | ((with_reducible refine Bny.at_qload (T := 58) ?_); refine Bny.q_ldv 1002 hA (by decide) rfl rfl 23 _ Tryz.underlying58 rfl infoBk23 (by decide) rfl ?_; refine hK _ ?_; rfl)
                | ((with_reducible refine Bny.at_qload (T := 5) ?_); refine Bny.q_rd (.inl HC.out) hA k rfl _ Tryz.underlying5 rfl (.int .u8 c) HCK.out ?_; refine hK _ ?_; rfl)
                | (go_big_quiet_op; first
                  | (refine hK _ ?_; rfl)
                  | (refine ⟨_, fun _ _ => rfl, ?_⟩; refine hK _ ?_; rfl)
                  | (apply Exists.intro; refine ⟨fun w1 hw1 => ?_, ?_⟩; · (first
                      | fail)
                     refine hK _ ?_; rfl))
            case hD => rfl
            simp only [Act.put, sia, scs, scz]))
       try any_goals exact undef
       refine Bny.E_nil ?_
       intro w9 hE9
       replace hv : Mem w w9 ([(b_17, #[.slice (some ⟨vb5, 0, none⟩) 1700 vc5]), (b_18, #[.int .i64 0, .int .i64 16, .slice fa5 13 fc5, .int .u16 ((k1 : Nat) : Int), .int .u16 ((k : Nat) : Int), .slice ca5 1 cc5, .int .i64 500, .bool true, .int .i64 ((0 : Nat) : Int), .bool false, .int .i64 ((a : Nat) : Int), .bool false, .int .i64 ((0 : Nat) : Int), .bool false, .int .i64 ((0 : Nat) : Int), .bool false, .int .i64 ((0 : Nat) : Int), .bool false, .int .i64 ((0 : Nat) : Int), .bool false, .int .i64 ((0 : Nat) : Int), .bool false, .int .i64 ((0 : Nat) : Int)]), (b_12, #[.int .i64 0, .int .i64 16, .int .u16 k, .int .u16 k]), (b_10, #[.slice sa 8 sc, .slice a2 cn2 c2]), (b_8, #[.int .i64 0, .int .i64 16, .slice fa 16 fc, .int .u16 ((k : Nat) : Int), .int .u16 ((k : Nat) : Int), .slice ca 0 cc, .int .i64 500, .bool false, .int .i64 ((0 : Nat) : Int), .bool false, .int .i64 ((0 : Nat) : Int), .bool false, .int .i64 ((0 : Nat) : Int), .bool false, .int .i64 ((0 : Nat) : Int), .bool false, .int .i64 ((0 : Nat) : Int), .bool false, .int .i64 ((0 : Nat) : Int), .bool false, .int .i64 ((0 : Nat) : Int), .bool false, .int .i64 ((0 : Nat) : Int)]), (b_7, #[.slice (some ⟨vb, 0, none⟩) 1700 vc])] ++ []) R3 := hE9.mem1 [14, 15, 1000, 1001, 1002, 1003] (by decide) 8 rfl
       clear hE9
       simp only [List.cons_append, List.nil_append] at hv
       obtain ⟨Q1, Q2, Q3, Q4, Q5⟩ := write_new (M := M) (D := (List.replicate 256 c)) (free := List.range 16) (p := 500) (s := a) (h := 0) (av := k) HM.out.len List.length_replicate HA256.out (by decide) (by decide) List.nodup_range range16_lt rfl (by decide)
       obtain ⟨M1, hM1⟩ : ∃ M1, addM (askM M 500 1 a (List.replicate 256 c)) 0 16 k (List.range 16) [(500, 16, false), (500 + 16, 256, false), (500 + 272, 1, true)] = M1 := ⟨_, rfl⟩
       rw [hM1] at Q1 Q2 Q3 Q4 Q5
       have HM1 : Hid (InM R3 vb5 0 1700 vc5 M1) := Lib.hid (by rw [← hM1]; exact HM5.out)
       have G1 : Hid (getN M1 258 2 = k1) := Lib.hid (by rw [Q2, HK1.out, Nat.mod_eq_of_lt (by have := HK6.out; omega)])
       have G2 := Lib.hid Q3
       have GP := Lib.hid Q1
       have GL := Lib.hid Q4
       have GU : Hid (getN M1 294 2 = k) := Lib.hid (Q5.trans HUI.out)
       have HD3 := Lib.hid (HD.out.mono HS5.out)
       have HSTM := Lib.hid (HS5.out _ HSTR0.out)
       have HCM := Lib.hid (HS5.out _ HC.out)
       clear Q1 Q2 Q3 Q4 Q5 hM1 HM5
       have HSV : Hid (∃ v R', SrvW R3 M1 772 k 0 k1 k1 an a sa 8 sc cn2 ss cs (List.replicate 256 c) v R') := Lib.hid (Bny.some_of (Serve_W (R0 := R3) (st := st) (sn_ := k) (sn1 := k1) (us := k) (us1 := k1) (av := k1) (hd := 0) (p := 500) (ps := 772) (an := an) (s_ := a) (cs := cs) (ca := a2) (cn := cn2) (cc := c2) (sn := 8) (M := M1) (D := (List.replicate 256 c)) hv (fun x hx => hx) HD3.out HM1.out HK5.out HK1.out G1.out GN.out G2.out GP.out HK5.out HK1.out (by decide) ⟨rfl, by decide⟩ HST.out HAN.out HA256.out HCN.out))
       go_wp2
       replace hv : Mem w _ ([(b_17, _), (b_18, _), (b_12, _), (b_10, _), (b_8, _), (b_7, _)] ++ []) R3 := hv
       try simp only [Act.put]
       refine Bny.wp_region_walk _ _ [⟨[1000], none⟩, ⟨[1002], none⟩, ⟨[1003], none⟩, ⟨[], none⟩, ⟨[], none⟩, ⟨[], none⟩, ⟨[], none⟩, ⟨[], some 7⟩, ⟨[], none⟩, ⟨[], none⟩, ⟨[], none⟩, ⟨[], none⟩, ⟨[], none⟩, ⟨[], some 13⟩, ⟨[], some 14⟩, ⟨[1000], some 1000⟩, ⟨[13], some 13⟩, ⟨[14], some 14⟩, ⟨[], none⟩] [.val, .val, .val, .val, .val, .val, .val, .mem (SrvW R3 M1 772 k 0 k1 k1 an a sa 8 sc cn2 ss cs (List.replicate 256 c)), .pure, .pure, .pure, .pure, .pure, .lay #[.int .i64 0, .int .i64 0, .int .u16 0, .int .u16 0], .lay #[.slice none 0 0, .slice none 0 0], .put, .put, .put, .pure] (by kernel_rfl) (by kernel_rfl) hv ?_
       simp only [List.length_cons, List.length_nil, Nat.zero_add, Any.someVals]
       iterate 19 apply Exists.intro
       repeat (first
         | (refine Bny.E_off rfl ?_; simp only [Act.put, sia, scs, scz])
         | ((with_reducible refine Bny.at_ealloc ?_); refine Bny.E_lay (t := 38) rfl rfl rfl (fun _ => rfl) ?_; intro b_21; simp only [Act.put, sia, scs, scz])
         | ((with_reducible refine Bny.at_ealloc ?_); refine Bny.E_lay (t := 63) rfl rfl rfl (fun _ => rfl) ?_; intro b_22; simp only [Act.put, sia, scs, scz])
         | ((with_reducible refine Bny.at_estore (T := 26) ?_); refine Bny.E_putv (T := 26) rfl rfl rfl rfl rfl rfl 1 infoM rfl rfl (by simp [Value.oneCell']) ?_; simp only [Act.put, sia, scs, scz])
         | ((with_reducible refine Bny.at_estore (T := 38) ?_); refine Bny.E_putv (T := 38) rfl rfl rfl rfl rfl rfl 4 infoS4 rfl rfl (by simp [Value.oneCell']) ?_; simp only [Act.put, sia, scs, scz])
         | ((with_reducible refine Bny.at_estore (T := 63) ?_); refine Bny.E_putv (T := 63) rfl rfl rfl rfl rfl rfl 2 infoD2 rfl rfl (by simp [Value.oneCell']) ?_; simp only [Act.put, sia, scs, scz])
         | ((with_reducible refine Bny.at_ecallf (f := 22) ?_); refine Bny.E_callmem rfl rfl rfl (Go.Proofs.enters_of Tryz.func22 (by kernel_rfl) rfl) rfl [.agg #[.slice (some ⟨vb5, 0, none⟩) 1700 vc5], .agg #[.int .i64 0, .int .i64 16, .int .u16 k, .int .u16 k], .agg #[.slice sa 8 sc, .slice a2 cn2 c2], .int .i64 st] rfl HSV.out R3 (fun x hx => .inl hx) (fun w0 w L R' hm hs => Serve_W (R0 := R3) (st := st) (sn_ := k) (sn1 := k1) (us := k) (us1 := k1) (av := k1) (hd := 0) (p := 500) (ps := 772) (an := an) (s_ := a) (cs := cs) (ca := a2) (cn := cn2) (cc := c2) (sn := 8) (M := M1) (D := (List.replicate 256 c)) hm hs HD3.out HM1.out HK5.out HK1.out G1.out GN.out G2.out GP.out HK5.out HK1.out (by decide) ⟨rfl, by decide⟩ HST.out HAN.out HA256.out HCN.out) ?_; rintro v R5 ⟨vb7, vc7, a3, cn3, c3, ans, cs3, rfl, hm7, hd7, ha7, hw7, hs7⟩; have HM7 := Lib.hid hm7; have HD7 := Lib.hid hd7; have HA7 := Lib.hid ha7; have HW7 := Lib.hid hw7; have HS7 := Lib.hid hs7; clear hm7 hd7 ha7 hw7 hs7; simp only [Act.put, sia, scs, scz])
         | (apply Bny.E_pureq rfl rfl rfl
            case h => intro K hK; go_big_quiet_op; (refine hK _ ?_; rfl)
            case hr => exact fun _ => rfl
            simp only [Act.put, sia, scs, scz])
         | (apply Bny.E_val rfl rfl rfl rfl
            case h =>
              intro E' hA K hK
              first
                | ((with_reducible refine Bny.at_qload (T := 26) ?_); refine Bny.q_ldv 1000 hA (by decide) rfl rfl 1 _ Tryz.underlying26 rfl infoM (by decide) rfl ?_; refine hK _ ?_; rfl)
                | ((with_reducible refine Bny.at_qload (T := 38) ?_); refine Bny.q_ldv 1002 hA (by decide) rfl rfl 4 _ Tryz.underlying38 rfl infoS4 (by decide) rfl ?_; refine hK _ ?_; rfl)
                | ((with_reducible refine Bny.at_qload (T := 63) ?_); refine Bny.q_ldv 1003 hA (by decide) rfl rfl 2 _ Tryz.underlying63 rfl infoD2 (by decide) rfl ?_; refine hK _ ?_; rfl)
                | ((with_reducible refine Bny.at_qload (T := 3) ?_); refine Bny.q_rd (.inl HSTM.out) hA k rfl _ Tryz.underlying3 rfl (.int .i64 st) HSK.out ?_; refine hK _ ?_; rfl)
                | (go_big_quiet_op; first
                  | (refine hK _ ?_; rfl)
                  | (refine ⟨_, fun _ _ => rfl, ?_⟩; refine hK _ ?_; rfl)
                  | (apply Exists.intro; refine ⟨fun w1 hw1 => ?_, ?_⟩; · (first
                      | fail)
                     refine hK _ ?_; rfl))
            case hD => rfl
            simp only [Act.put, sia, scs, scz]))
       try any_goals exact undef
       refine Bny.E_nil ?_
       intro w9 hE9
       replace hv : Mem w w9 ([(b_21, #[.int .i64 0, .int .i64 16, .int .u16 k1, .int .u16 k1]), (b_22, #[.slice sa 8 sc, .slice a3 cn3 c3]), (b_17, #[.slice (some ⟨vb7, 0, none⟩) 1700 vc7]), (b_18, #[.int .i64 0, .int .i64 16, .slice fa5 13 fc5, .int .u16 ((k1 : Nat) : Int), .int .u16 ((k : Nat) : Int), .slice ca5 1 cc5, .int .i64 500, .bool true, .int .i64 ((0 : Nat) : Int), .bool false, .int .i64 ((a : Nat) : Int), .bool false, .int .i64 ((0 : Nat) : Int), .bool false, .int .i64 ((0 : Nat) : Int), .bool false, .int .i64 ((0 : Nat) : Int), .bool false, .int .i64 ((0 : Nat) : Int), .bool false, .int .i64 ((0 : Nat) : Int), .bool false, .int .i64 ((0 : Nat) : Int)]), (b_12, #[.int .i64 0, .int .i64 16, .int .u16 k, .int .u16 k]), (b_10, #[.slice sa 8 sc, .slice a2 cn2 c2]), (b_8, #[.int .i64 0, .int .i64 16, .slice fa 16 fc, .int .u16 ((k : Nat) : Int), .int .u16 ((k : Nat) : Int), .slice ca 0 cc, .int .i64 500, .bool false, .int .i64 ((0 : Nat) : Int), .bool false, .int .i64 ((0 : Nat) : Int), .bool false, .int .i64 ((0 : Nat) : Int), .bool false, .int .i64 ((0 : Nat) : Int), .bool false, .int .i64 ((0 : Nat) : Int), .bool false, .int .i64 ((0 : Nat) : Int), .bool false, .int .i64 ((0 : Nat) : Int), .bool false, .int .i64 ((0 : Nat) : Int)]), (b_7, #[.slice (some ⟨vb, 0, none⟩) 1700 vc])] ++ []) R5 := hE9.mem1 [13, 14, 1000, 1001, 1002, 1003, 1004, 1005] (by decide) 7 rfl
       clear hE9
       simp only [List.cons_append, List.nil_append] at hv
       have HSTM7 := Lib.hid (HS7.out _ HSTM.out)
       have HCM7 := Lib.hid (HS7.out _ HCM.out)
       have HB2 : Hid (BlkQ R5 (.slice fa5 13 fc5) (.slice ca5 1 cc5) ((List.range 16).drop 3) ([] ++ [c5]) [(true, 0, false, ((a : Nat) : Int)), (false, 0, false, ((0 : Nat) : Int)), (false, 0, false, ((0 : Nat) : Int)), (false, 0, false, ((0 : Nat) : Int))]) := Lib.hid ⟨HQ5.out.mono HS7.out, HO5.out, fun r hr hb => by
           simp only [List.mem_cons, List.not_mem_nil, or_false] at hr
           rcases hr with rfl | rfl | rfl | rfl <;> first | exact ⟨rfl, rfl, rfl⟩ | exact absurd hb (by show ¬ (true = false); decide), by
           show List.Perm [((0 : Nat) : Int)] [((c5.h : Nat) : Int)]
           rw [K1.out]⟩
       have K7 : Hid (1 ≤ c5.rm) := Lib.hid (by rw [K3.out]; exact Nat.le_refl 1)
       have K8 : Hid (13 + c5.ds.length = 16) := Lib.hid (by rw [K2.out]; rfl)
       obtain ⟨V1, V2, V3, V4, V5, V6⟩ := serve_new (M := M1) (us := k) (id := 0) (ps := 772) (an := ans) GL.out (by decide) (by decide) (by decide) HA7.out HK5.out
       obtain ⟨M2, hM2⟩ : ∃ M2, returnM (putB M1 772 [ans]) 0 16 k 0 1 = M2 := ⟨_, rfl⟩
       rw [hM2] at V1 V2 V3 V4 V5 V6
       have J1 : Hid (getN M2 294 2 = k1) := Lib.hid (by rw [V2]; exact HK1.out)
       have J2 := Lib.hid V3
       have J3 := Lib.hid V4
       clear V2 V3 V4 V6
       rcases HW7.out with ⟨rfl, han, _, rfl, dv, rfl⟩ | ⟨hans, hno, e91, e92⟩
       · have yan : ((an : Int) == 0) = true := by rw [beq_iff_eq]; omega
         clear han
         have HRD : Hid (readD ss (cs ++ [(a, dv, (List.replicate 256 c))]) a = (dv, (List.replicate 256 c))) := Lib.hid (by rw [readD_snoc, if_pos rfl])
         have HPV7 := Lib.hid (HD7.out.cd _ (List.mem_append_right _ (List.mem_singleton_self _))).2.1
         have HM2 : Hid (InM R5 vb7 0 1700 vc7 M2) := Lib.hid (by rw [← hM2]; exact HM7.out)
         have J4 : Hid (getN M2 772 1 = 0) := Lib.hid V5
         have HM2L := Lib.hid V1
         clear V1 V5 hM2
         go_wp2_with (first
           | ((with_reducible refine at_load (T := 26) ?_); refine wl_ldv rfl b_17 rfl _ hv.vars.ro 1 _ Tryz.underlying26 rfl infoM (by decide) rfl ?_)
           | ((with_reducible refine at_load (T := 58) ?_); refine wl_ldv rfl b_18 rfl _ hv.vars.ro 23 _ Tryz.underlying58 rfl infoBk23 (by decide) rfl ?_)
           | (go_at_call 23; (refine (Done_0 (b0 := true) (h0 := 0) (f0 := false) (s0 := a) (b1 := false) (h1 := 0) (f1 := false) (s1 := 0) (b2 := false) (h2 := 0) (f2 := false) (s2 := 0) (b3 := false) (h3 := 0) (f3 := false) (s3 := 0) (free := (List.range 16).drop 3) (chs := [] ++ [c5]) (av := k1) (la := k) (fn := 13) (cn := 1) (nf1 := 16) (nc1 := 0) (la1 := k1) (us := k1) (hd := 0) (ln := 1) (x := 0) (c0 := c5) (rest := []) (M := M2) hv HM2.out HB2.out J1.out HK1.out HK6.out HKK.out HKN.out J2.out J3.out rfl rfl K1.out K7.out K8.out rfl HK6.out rfl J4.out).mono ?_); rintro e w1 ⟨fa8, fc8, ca8, cc8, free8, R6, e1, rfl, he1, hv1, hq1, ho1, hp1, hso1, hs1⟩; rw [if_pos rfl] at he1; subst he1; replace hv := hv1; have HF8 := Lib.hid (free_back hp1 K2.out hso1); have HQ8 := Lib.hid hq1; have HO8 := Lib.hid ho1; have HS8 := Lib.hid hs1; have HSTR := Lib.hid (hs1 _ HSTM7.out); have HCR := Lib.hid (hs1 _ HCM7.out); clear hv1 hq1 ho1 hp1 hso1 hs1)
           | ((with_reducible refine at_alloc (T := 58) (dst := some 24) ?_); refine wl_newb rfl #[.int .i64 0, .int .i64 0, .slice none 0 0, .int .u16 0, .int .u16 0, .slice none 0 0, .int .i64 0, .bool false, .int .i64 0, .bool false, .int .i64 0, .bool false, .int .i64 0, .bool false, .int .i64 0, .bool false, .int .i64 0, .bool false, .int .i64 0, .bool false, .int .i64 0, .bool false, .int .i64 0] 58 (fun _ => rfl) ?_; intro b_24 w2 hm2; replace hv := hv.madeAt hm2; clear hm2)
           | ((with_reducible refine at_store (T := 58) ?_); refine wl_stv rfl b_24 rfl _ rfl _ hv.vars.ro hv.vars.so 23 infoBk23 rfl rfl (by simp [Value.oneCell']) ?_; intro w2 hw2; replace hv := hv.sets (by repeat first | exact .z | apply SetM.s) hw2; clear hw2)
           | ((with_reducible refine at_load (T := 63) ?_); refine wl_ldv rfl b_22 rfl _ hv.vars.ro 2 _ Tryz.underlying63 rfl infoD2 (by decide) rfl ?_)
           | (go_at_call 24; have hk9 := RDRead_ok hv (HD7.out.mono HS8.out) (at_ := a) HA8.out; rw [HRD.out] at hk9; (refine hk9.mono ?_); clear hk9; rintro e w1 ⟨rfl, hn1⟩; replace hv := hv.new hn1; clear hn1; have HPV := Lib.hid (HS8.out _ HPV7.out))
           | ((with_reducible refine at_load (T := 3) ?_); refine wl_rd rfl (c := sts.map (Value.int .i64)) (hv.rd HSTR.out) k rfl _ Tryz.underlying3 rfl (.int .i64 st) HSK.out ?_)
           | ((with_reducible refine at_load (T := 5) ?_); refine wl_rd rfl (c := cellsB bs) (hv.rd HCR.out) k rfl _ Tryz.underlying5 rfl (.int .u8 c) HCK.out ?_)
           | (go_at_call 21; (refine (sector_M hv c rfl).mono ?_); rintro e w1 ⟨sb9, rfl, hv1⟩; replace hv := hv1; clear hv1)
           | (go_at_call 16; (refine (Bytes_any _ _ (List.replicate 256 c) (List.replicate 256 c) _ (hv.rd (Mem.s HPV.out)) (hv.rd Mem.z) (sec_good HC256.out) (sec_good HC256.out)).mono ?_); rintro e w1 ⟨rfl, rfl⟩))
         replace hv : Mem w _ ([(b_24, _), (b_21, _), (b_22, _), (b_17, _), (b_18, _), (b_12, _), (b_10, _), (b_8, _), (b_7, _)] ++ []) ((1, Value.slice (some ⟨sb9, 0, none⟩) 256 256, cellsB (List.replicate 256 c)) :: R6) := hv
         try simp only [Act.put]
         refine Bny.wp_region_walk _ _ [⟨[1003], none⟩, ⟨[1000], none⟩, ⟨[1001], none⟩, ⟨[1002], none⟩, ⟨[1008], some 1008⟩, ⟨[1007], some 1007⟩, ⟨[1005], some 1005⟩, ⟨[1006], some 1006⟩] [.val, .val, .val, .val, .put, .put, .put, .put] (by kernel_rfl) (by kernel_rfl) hv ?_
         simp only [List.length_cons, List.length_nil, Nat.zero_add, Any.someVals]
         iterate 8 apply Exists.intro
         repeat (first
           | (refine Bny.E_off rfl ?_; simp only [Act.put, sia, scs, scz])
           | ((with_reducible refine Bny.at_estore (T := 26) ?_); refine Bny.E_putv (T := 26) rfl rfl rfl rfl rfl rfl 1 infoM rfl rfl (by simp [Value.oneCell']) ?_; simp only [Act.put, sia, scs, scz])
           | ((with_reducible refine Bny.at_estore (T := 58) ?_); refine Bny.E_putv (T := 58) rfl rfl rfl rfl rfl rfl 23 infoBk23 rfl rfl (by simp [Value.oneCell']) ?_; simp only [Act.put, sia, scs, scz])
           | ((with_reducible refine Bny.at_estore (T := 38) ?_); refine Bny.E_putv (T := 38) rfl rfl rfl rfl rfl rfl 4 infoS4 rfl rfl (by simp [Value.oneCell']) ?_; simp only [Act.put, sia, scs, scz])
           | ((with_reducible refine Bny.at_estore (T := 63) ?_); refine Bny.E_putv (T := 63) rfl rfl rfl rfl rfl rfl 2 infoD2 rfl rfl (by simp [Value.oneCell']) ?_; simp only [Act.put, sia, scs, scz])
           | (apply Bny.E_pureq rfl rfl rfl
              case h => intro K hK; go_big_quiet_op; (refine hK _ ?_; rfl)
              case hr => exact fun _ => rfl
              simp only [Act.put, sia, scs, scz])
           | (apply Bny.E_val rfl rfl rfl rfl
              case h =>
                intro E' hA K hK
                first
                  | ((with_reducible refine Bny.at_qload (T := 26) ?_); refine Bny.q_ldv 1003 hA (by decide) rfl rfl 1 _ Tryz.underlying26 rfl infoM (by decide) rfl ?_; refine hK _ ?_; rfl)
                  | ((with_reducible refine Bny.at_qload (T := 58) ?_); refine Bny.q_ldv 1000 hA (by decide) rfl rfl 23 _ Tryz.underlying58 rfl infoBk23 (by decide) rfl ?_; refine hK _ ?_; rfl)
                  | ((with_reducible refine Bny.at_qload (T := 38) ?_); refine Bny.q_ldv 1001 hA (by decide) rfl rfl 4 _ Tryz.underlying38 rfl infoS4 (by decide) rfl ?_; refine hK _ ?_; rfl)
                  | ((with_reducible refine Bny.at_qload (T := 63) ?_); refine Bny.q_ldv 1002 hA (by decide) rfl rfl 2 _ Tryz.underlying63 rfl infoD2 (by decide) rfl ?_; refine hK _ ?_; rfl)
                  | (go_big_quiet_op; first
                    | (refine hK _ ?_; rfl)
                    | (refine ⟨_, fun _ _ => rfl, ?_⟩; refine hK _ ?_; rfl)
                    | (apply Exists.intro; refine ⟨fun w1 hw1 => ?_, ?_⟩; · (first
                        | fail)
                       refine hK _ ?_; rfl))
              case hD => rfl
              simp only [Act.put, sia, scs, scz]))
         try any_goals exact undef
         refine Bny.E_nil ?_
         intro w9 hE9
         replace hv : Mem w w9 ([(b_24, #[.int .i64 0, .int .i64 16, .slice fa8 16 fc8, .int .u16 ((k1 : Nat) : Int), .int .u16 ((k1 : Nat) : Int), .slice ca8 0 cc8, .int .i64 500, .bool false, .int .i64 ((0 : Nat) : Int), .bool false, .int .i64 ((0 : Nat) : Int), .bool false, .int .i64 ((0 : Nat) : Int), .bool false, .int .i64 ((0 : Nat) : Int), .bool false, .int .i64 ((0 : Nat) : Int), .bool false, .int .i64 ((0 : Nat) : Int), .bool false, .int .i64 ((0 : Nat) : Int), .bool false, .int .i64 ((0 : Nat) : Int)]), (b_21, #[.int .i64 0, .int .i64 16, .int .u16 k1, .int .u16 k1]), (b_22, #[.slice sa 8 sc, .slice a3 (cn2 + 1) c3]), (b_17, #[.slice (some ⟨vb7, 0, none⟩) 1700 vc7]), (b_18, #[.int .i64 0, .int .i64 16, .slice fa5 13 fc5, .int .u16 ((k1 : Nat) : Int), .int .u16 ((k : Nat) : Int), .slice ca5 1 cc5, .int .i64 500, .bool true, .int .i64 ((0 : Nat) : Int), .bool false, .int .i64 ((a : Nat) : Int), .bool false, .int .i64 ((0 : Nat) : Int), .bool false, .int .i64 ((0 : Nat) : Int), .bool false, .int .i64 ((0 : Nat) : Int), .bool false, .int .i64 ((0 : Nat) : Int), .bool false, .int .i64 ((0 : Nat) : Int), .bool false, .int .i64 ((0 : Nat) : Int)]), (b_12, #[.int .i64 0, .int .i64 16, .int .u16 k1, .int .u16 k1]), (b_10, #[.slice sa 8 sc, .slice a3 (cn2 + 1) c3]), (b_8, #[.int .i64 0, .int .i64 16, .slice fa8 16 fc8, .int .u16 ((k1 : Nat) : Int), .int .u16 ((k1 : Nat) : Int), .slice ca8 0 cc8, .int .i64 500, .bool false, .int .i64 ((0 : Nat) : Int), .bool false, .int .i64 ((0 : Nat) : Int), .bool false, .int .i64 ((0 : Nat) : Int), .bool false, .int .i64 ((0 : Nat) : Int), .bool false, .int .i64 ((0 : Nat) : Int), .bool false, .int .i64 ((0 : Nat) : Int), .bool false, .int .i64 ((0 : Nat) : Int), .bool false, .int .i64 ((0 : Nat) : Int)]), (b_7, #[.slice (some ⟨vb7, 0, none⟩) 1700 vc7])] ++ []) ((1, Value.slice (some ⟨sb9, 0, none⟩) 256 256, cellsB (List.replicate 256 c)) :: R6) := hE9.mem0 [1000, 1001, 1002, 1003, 1004, 1005, 1006, 1007, 1008] (by decide)
         clear hE9
         simp only [List.cons_append, List.nil_append] at hv
         go_wp2
         have hkn := HKI.out
         go_roundw
         case rel =>
           rw [HF8.out] at HQ8 HO8
           exact ⟨k1, HK1L.out, by have := HK1.out; go_num, vb7, vc7, fc8, cc8, sc, cn2 + 1, c3, fa8, ca8, sa, a3, ss, cs ++ [(a, dv, (List.replicate 256 c))], M2, _, hv.keep (by exact List.sublist_append_right [_, _, _, _, _] _), HM2.out.mono (fun x hx => Mem.s (HS8.out x hx)), J1.out, HQ8.out.mono (fun x hx => Mem.s hx), HO8.out, HD7.out.mono (fun x hx => Mem.s (HS8.out x hx)), HSL.out, by have := HCK2.out; have := HK1.out; omega, fun x hx => Mem.s (HS8.out x (HS7.out x (HS5.out x (HRK.out x hx))))⟩
         case measure => have := HK1.out; simp [intOf] <;> omega
       · have yan : ((an : Int) == 0) = false := by
           rw [beq_eq_false_iff_ne]
           intro h
           exact hno ⟨by omega, HA8.out⟩
         clear hno
         obtain rfl := e91.symm
         obtain rfl := e92.symm
         have HRD : Hid (readD ss cs a = (pv, pd)) := HPQ
         have HPV7 := Lib.hid (HS7.out _ (HS5.out _ HPR.out))
         have HANS := Lib.hid hans
         clear hans
         have HM2 : Hid (InM R5 vb7 0 1700 vc7 M2) := Lib.hid (by rw [← hM2]; exact HM7.out)
         have J4 : Hid (getN M2 772 1 = ans) := Lib.hid V5
         have HM2L := Lib.hid V1
         clear V1 V5 hM2
         go_wp2_with (first
           | ((with_reducible refine at_load (T := 26) ?_); refine wl_ldv rfl b_17 rfl _ hv.vars.ro 1 _ Tryz.underlying26 rfl infoM (by decide) rfl ?_)
           | ((with_reducible refine at_load (T := 58) ?_); refine wl_ldv rfl b_18 rfl _ hv.vars.ro 23 _ Tryz.underlying58 rfl infoBk23 (by decide) rfl ?_)
           | (go_at_call 23; (refine (Done_0 (b0 := true) (h0 := 0) (f0 := false) (s0 := a) (b1 := false) (h1 := 0) (f1 := false) (s1 := 0) (b2 := false) (h2 := 0) (f2 := false) (s2 := 0) (b3 := false) (h3 := 0) (f3 := false) (s3 := 0) (free := (List.range 16).drop 3) (chs := [] ++ [c5]) (av := k1) (la := k) (fn := 13) (cn := 1) (nf1 := 16) (nc1 := 0) (la1 := k1) (us := k1) (hd := 0) (ln := 1) (x := ans) (c0 := c5) (rest := []) (M := M2) hv HM2.out HB2.out J1.out HK1.out HK6.out HKK.out HKN.out J2.out J3.out rfl rfl K1.out K7.out K8.out rfl HK6.out rfl J4.out).mono ?_); rintro e w1 ⟨fa8, fc8, ca8, cc8, free8, R6, e1, rfl, he1, hv1, hq1, ho1, hp1, hso1, hs1⟩; rw [if_neg HANS.out] at he1; subst he1; replace hv := hv1; have HF8 := Lib.hid (free_back hp1 K2.out hso1); have HQ8 := Lib.hid hq1; have HO8 := Lib.hid ho1; have HS8 := Lib.hid hs1; have HSTR := Lib.hid (hs1 _ HSTM7.out); have HCR := Lib.hid (hs1 _ HCM7.out); clear hv1 hq1 ho1 hp1 hso1 hs1)
           | ((with_reducible refine at_alloc (T := 58) (dst := some 24) ?_); refine wl_newb rfl #[.int .i64 0, .int .i64 0, .slice none 0 0, .int .u16 0, .int .u16 0, .slice none 0 0, .int .i64 0, .bool false, .int .i64 0, .bool false, .int .i64 0, .bool false, .int .i64 0, .bool false, .int .i64 0, .bool false, .int .i64 0, .bool false, .int .i64 0, .bool false, .int .i64 0, .bool false, .int .i64 0] 58 (fun _ => rfl) ?_; intro b_24 w2 hm2; replace hv := hv.madeAt hm2; clear hm2)
           | ((with_reducible refine at_store (T := 58) ?_); refine wl_stv rfl b_24 rfl _ rfl _ hv.vars.ro hv.vars.so 23 infoBk23 rfl rfl (by simp [Value.oneCell']) ?_; intro w2 hw2; replace hv := hv.sets (by repeat first | exact .z | apply SetM.s) hw2; clear hw2)
           | ((with_reducible refine at_load (T := 63) ?_); refine wl_ldv rfl b_22 rfl _ hv.vars.ro 2 _ Tryz.underlying63 rfl infoD2 (by decide) rfl ?_)
           | (go_at_call 24; have hk9 := RDRead_ok hv (HD7.out.mono HS8.out) (at_ := a) HA8.out; rw [HRD.out] at hk9; (refine hk9.mono ?_); clear hk9; rintro e w1 ⟨rfl, hn1⟩; replace hv := hv.new hn1; clear hn1; have HPV := Lib.hid (HS8.out _ HPV7.out))
           | ((with_reducible refine at_load (T := 3) ?_); refine wl_rd rfl (c := sts.map (Value.int .i64)) (hv.rd HSTR.out) k rfl _ Tryz.underlying3 rfl (.int .i64 st) HSK.out ?_)
           | (go_at_call 16; (refine (Bytes_any _ _ pd pd _ (hv.rd HPV.out) (hv.rd HPV.out) HPG.out HPG.out).mono ?_); rintro e w1 ⟨rfl, rfl⟩))
         replace hv : Mem w _ ([(b_24, _), (b_21, _), (b_22, _), (b_17, _), (b_18, _), (b_12, _), (b_10, _), (b_8, _), (b_7, _)] ++ []) R6 := hv
         try simp only [Act.put]
         refine Bny.wp_region_walk _ _ [⟨[1003], none⟩, ⟨[1000], none⟩, ⟨[1001], none⟩, ⟨[1002], none⟩, ⟨[1008], some 1008⟩, ⟨[1007], some 1007⟩, ⟨[1005], some 1005⟩, ⟨[1006], some 1006⟩] [.val, .val, .val, .val, .put, .put, .put, .put] (by kernel_rfl) (by kernel_rfl) hv ?_
         simp only [List.length_cons, List.length_nil, Nat.zero_add, Any.someVals]
         iterate 8 apply Exists.intro
         repeat (first
           | (refine Bny.E_off rfl ?_; simp only [Act.put, sia, scs, scz])
           | ((with_reducible refine Bny.at_estore (T := 26) ?_); refine Bny.E_putv (T := 26) rfl rfl rfl rfl rfl rfl 1 infoM rfl rfl (by simp [Value.oneCell']) ?_; simp only [Act.put, sia, scs, scz])
           | ((with_reducible refine Bny.at_estore (T := 58) ?_); refine Bny.E_putv (T := 58) rfl rfl rfl rfl rfl rfl 23 infoBk23 rfl rfl (by simp [Value.oneCell']) ?_; simp only [Act.put, sia, scs, scz])
           | ((with_reducible refine Bny.at_estore (T := 38) ?_); refine Bny.E_putv (T := 38) rfl rfl rfl rfl rfl rfl 4 infoS4 rfl rfl (by simp [Value.oneCell']) ?_; simp only [Act.put, sia, scs, scz])
           | ((with_reducible refine Bny.at_estore (T := 63) ?_); refine Bny.E_putv (T := 63) rfl rfl rfl rfl rfl rfl 2 infoD2 rfl rfl (by simp [Value.oneCell']) ?_; simp only [Act.put, sia, scs, scz])
           | (apply Bny.E_pureq rfl rfl rfl
              case h => intro K hK; go_big_quiet_op; (refine hK _ ?_; rfl)
              case hr => exact fun _ => rfl
              simp only [Act.put, sia, scs, scz])
           | (apply Bny.E_val rfl rfl rfl rfl
              case h =>
                intro E' hA K hK
                first
                  | ((with_reducible refine Bny.at_qload (T := 26) ?_); refine Bny.q_ldv 1003 hA (by decide) rfl rfl 1 _ Tryz.underlying26 rfl infoM (by decide) rfl ?_; refine hK _ ?_; rfl)
                  | ((with_reducible refine Bny.at_qload (T := 58) ?_); refine Bny.q_ldv 1000 hA (by decide) rfl rfl 23 _ Tryz.underlying58 rfl infoBk23 (by decide) rfl ?_; refine hK _ ?_; rfl)
                  | ((with_reducible refine Bny.at_qload (T := 38) ?_); refine Bny.q_ldv 1001 hA (by decide) rfl rfl 4 _ Tryz.underlying38 rfl infoS4 (by decide) rfl ?_; refine hK _ ?_; rfl)
                  | ((with_reducible refine Bny.at_qload (T := 63) ?_); refine Bny.q_ldv 1002 hA (by decide) rfl rfl 2 _ Tryz.underlying63 rfl infoD2 (by decide) rfl ?_; refine hK _ ?_; rfl)
                  | (go_big_quiet_op; first
                    | (refine hK _ ?_; rfl)
                    | (refine ⟨_, fun _ _ => rfl, ?_⟩; refine hK _ ?_; rfl)
                    | (apply Exists.intro; refine ⟨fun w1 hw1 => ?_, ?_⟩; · (first
                        | fail)
                       refine hK _ ?_; rfl))
              case hD => rfl
              simp only [Act.put, sia, scs, scz]))
         try any_goals exact undef
         refine Bny.E_nil ?_
         intro w9 hE9
         replace hv : Mem w w9 ([(b_24, #[.int .i64 0, .int .i64 16, .slice fa8 16 fc8, .int .u16 ((k1 : Nat) : Int), .int .u16 ((k1 : Nat) : Int), .slice ca8 0 cc8, .int .i64 500, .bool false, .int .i64 ((0 : Nat) : Int), .bool false, .int .i64 ((0 : Nat) : Int), .bool false, .int .i64 ((0 : Nat) : Int), .bool false, .int .i64 ((0 : Nat) : Int), .bool false, .int .i64 ((0 : Nat) : Int), .bool false, .int .i64 ((0 : Nat) : Int), .bool false, .int .i64 ((0 : Nat) : Int), .bool false, .int .i64 ((0 : Nat) : Int)]), (b_21, #[.int .i64 0, .int .i64 16, .int .u16 k1, .int .u16 k1]), (b_22, #[.slice sa 8 sc, .slice a3 cn2 c3]), (b_17, #[.slice (some ⟨vb7, 0, none⟩) 1700 vc7]), (b_18, #[.int .i64 0, .int .i64 16, .slice fa5 13 fc5, .int .u16 ((k1 : Nat) : Int), .int .u16 ((k : Nat) : Int), .slice ca5 1 cc5, .int .i64 500, .bool true, .int .i64 ((0 : Nat) : Int), .bool false, .int .i64 ((a : Nat) : Int), .bool false, .int .i64 ((0 : Nat) : Int), .bool false, .int .i64 ((0 : Nat) : Int), .bool false, .int .i64 ((0 : Nat) : Int), .bool false, .int .i64 ((0 : Nat) : Int), .bool false, .int .i64 ((0 : Nat) : Int), .bool false, .int .i64 ((0 : Nat) : Int)]), (b_12, #[.int .i64 0, .int .i64 16, .int .u16 k1, .int .u16 k1]), (b_10, #[.slice sa 8 sc, .slice a3 cn2 c3]), (b_8, #[.int .i64 0, .int .i64 16, .slice fa8 16 fc8, .int .u16 ((k1 : Nat) : Int), .int .u16 ((k1 : Nat) : Int), .slice ca8 0 cc8, .int .i64 500, .bool false, .int .i64 ((0 : Nat) : Int), .bool false, .int .i64 ((0 : Nat) : Int), .bool false, .int .i64 ((0 : Nat) : Int), .bool false, .int .i64 ((0 : Nat) : Int), .bool false, .int .i64 ((0 : Nat) : Int), .bool false, .int .i64 ((0 : Nat) : Int), .bool false, .int .i64 ((0 : Nat) : Int), .bool false, .int .i64 ((0 : Nat) : Int)]), (b_7, #[.slice (some ⟨vb7, 0, none⟩) 1700 vc7])] ++ []) R6 := hE9.mem0 [1000, 1001, 1002, 1003, 1004, 1005, 1006, 1007, 1008] (by decide)
         clear hE9
         simp only [List.cons_append, List.nil_append] at hv
         go_wp2
         have hkn := HKI.out
         go_roundw
         case rel =>
           rw [HF8.out] at HQ8 HO8
           exact ⟨k1, HK1L.out, by have := HK1.out; go_num, vb7, vc7, fc8, cc8, sc, cn2, c3, fa8, ca8, sa, a3, ss, cs, M2, _, hv.keep (by exact List.sublist_append_right [_, _, _, _, _] _), HM2.out.mono (HS8.out), J1.out, HQ8.out.mono (fun x hx => hx), HO8.out, HD7.out.mono (HS8.out), HSL.out, by have := HCK2.out; have := HK1.out; omega, fun x hx => HS8.out x (HS7.out x (HS5.out x (HRK.out x hx)))⟩
         case measure => have := HK1.out; simp [intOf] <;> omega
     · have HA8 := Lib.hid ha8
       have ya : decide ((a : Int) < 8) = false := decide_eq_false (by omega)
       have za : decide (a < 8) = false := decide_eq_false ha8
       clear ha8
       go_wp2_with (first
         | ((with_reducible refine at_load (T := 3) ?_); refine wl_rd rfl (c := xs.map (Value.int .i64)) (hv.rd HXM.out) k rfl _ Tryz.underlying3 rfl (.int .i64 x) HXK.out ?_)
         | ((with_reducible refine at_load (T := 63) ?_); refine wl_ldv rfl b_10 rfl _ hv.vars.ro 2 _ Tryz.underlying63 rfl infoD2 (by decide) rfl ?_)
         | (go_at_call 24; (refine (RDRead_no hv HD.out (at_ := a) HA8.out).mono ?_); rintro e w1 ⟨rfl, hn1⟩; replace hv := hv.new hn1; clear hn1))
       have HSS : Hid (∃ v R', SecW c v R') := Lib.hid (Bny.some_of (sector_W hv (fun x hx => hx) c rfl))
       have HSW : Hid (∃ v R', WrW Rk (fun fa5 fc5 ca5 cc5 => #[.int .i64 0, .int .i64 16, .slice fa5 13 fc5, .int .u16 ((k1 : Nat) : Int), .int .u16 ((k : Nat) : Int), .slice ca5 1 cc5, .int .i64 500, .bool true, .int .i64 ((0 : Nat) : Int), .bool false, .int .i64 ((a : Nat) : Int), .bool false, .int .i64 ((0 : Nat) : Int), .bool false, .int .i64 ((0 : Nat) : Int), .bool false, .int .i64 ((0 : Nat) : Int), .bool false, .int .i64 ((0 : Nat) : Int), .bool false, .int .i64 ((0 : Nat) : Int), .bool false, .int .i64 ((0 : Nat) : Int)]) 0 (addM (askM M 500 1 a (List.replicate 256 c)) 0 16 k (List.range 16) [(500, 16, false), (516, 256, false), (772, 1, true)]) 13 1 3 (List.range 16) [] 0 v R') := Lib.hid (some_sec hv c fun w1 R1 b hm hs hr => Bny.some_of (Write_0W (R0 := Rk) (b0 := false) (h0 := 0) (f0 := false) (s0 := 0) (b1 := false) (h1 := 0) (f1 := false) (s1 := 0) (b2 := false) (h2 := 0) (f2 := false) (s2 := 0) (b3 := false) (h3 := 0) (f3 := false) (s3 := 0) (free := List.range 16) (chs := []) (av := k) (la := k) (fn := 16) (cn := 0) (nf1 := 13) (nc1 := 1) (av1 := k1) (hd := 0) (s_ := a) (p := 500) (pd := 516) (ps := 772) (M := M) (D := (List.replicate 256 c)) hm hs HM.out HB.out rfl rfl rfl rfl HA256.out HK5.out HK1.out rfl rfl rfl hr (sec_good HC256.out)))
       replace hv : Mem w _ ([(b_12, _), (b_10, _), (b_8, _), (b_7, _)] ++ []) Rk := hv
       try simp only [Act.put]
       refine Bny.wp_region_walk _ _ [⟨[1003], none⟩, ⟨[1002], none⟩, ⟨[], none⟩, ⟨[], none⟩, ⟨[], none⟩, ⟨[], none⟩, ⟨[], none⟩, ⟨[], some 7⟩, ⟨[7], some 8⟩, ⟨[], none⟩, ⟨[], none⟩, ⟨[], none⟩, ⟨[], none⟩, ⟨[], none⟩, ⟨[], some 14⟩, ⟨[], some 15⟩, ⟨[14], some 14⟩, ⟨[15], some 15⟩, ⟨[], none⟩, ⟨[], none⟩] [.val, .val, .val, .val, .val, .val, .val, .mem (SecW c), .mem (WrW Rk (fun fa5 fc5 ca5 cc5 => #[.int .i64 0, .int .i64 16, .slice fa5 13 fc5, .int .u16 ((k1 : Nat) : Int), .int .u16 ((k : Nat) : Int), .slice ca5 1 cc5, .int .i64 500, .bool true, .int .i64 ((0 : Nat) : Int), .bool false, .int .i64 ((a : Nat) : Int), .bool false, .int .i64 ((0 : Nat) : Int), .bool false, .int .i64 ((0 : Nat) : Int), .bool false, .int .i64 ((0 : Nat) : Int), .bool false, .int .i64 ((0 : Nat) : Int), .bool false, .int .i64 ((0 : Nat) : Int), .bool false, .int .i64 ((0 : Nat) : Int)]) 0 (addM (askM M 500 1 a (List.replicate 256 c)) 0 16 k (List.range 16) [(500, 16, false), (516, 256, false), (772, 1, true)]) 13 1 3 (List.range 16) [] 0), .pure, .pure, .pure, .pure, .pure, .lay #[.slice none 0 0], .lay #[.int .i64 0, .int .i64 0, .slice none 0 0, .int .u16 0, .int .u16 0, .slice none 0 0, .int .i64 0, .bool false, .int .i64 0, .bool false, .int .i64 0, .bool false, .int .i64 0, .bool false, .int .i64 0, .bool false, .int .i64 0, .bool false, .int .i64 0, .bool false, .int .i64 0, .bool false, .int .i64 0], .put, .put, .pure, .pure] (by kernel_rfl) (by kernel_rfl) hv ?_
       simp only [List.length_cons, List.length_nil, Nat.zero_add, Any.someVals]
       iterate 20 apply Exists.intro
       repeat (first
         | (refine Bny.E_off rfl ?_; simp only [Act.put, sia, scs, scz])
         | ((with_reducible refine Bny.at_ealloc ?_); refine Bny.E_lay (t := 26) rfl rfl rfl (fun _ => rfl) ?_; intro b_17; simp only [Act.put, sia, scs, scz])
         | ((with_reducible refine Bny.at_ealloc ?_); refine Bny.E_lay (t := 58) rfl rfl rfl (fun _ => rfl) ?_; intro b_18; simp only [Act.put, sia, scs, scz])
         | ((with_reducible refine Bny.at_estore (T := 26) ?_); refine Bny.E_putv (T := 26) rfl rfl rfl rfl rfl rfl 1 infoM rfl rfl (by simp [Value.oneCell']) ?_; simp only [Act.put, sia, scs, scz])
         | ((with_reducible refine Bny.at_estore (T := 58) ?_); refine Bny.E_putv (T := 58) rfl rfl rfl rfl rfl rfl 23 infoBk23 rfl rfl (by simp [Value.oneCell']) ?_; simp only [Act.put, sia, scs, scz])
         | ((with_reducible refine Bny.at_ecallf (f := 21) ?_); refine Bny.E_callmem rfl rfl rfl (Go.Proofs.enters_of Tryz.func21 (by kernel_rfl) rfl) rfl [.int .u8 c] rfl HSS.out [] (fun x hx => (List.not_mem_nil hx).elim) (fun w0 w L R' hm hs => sector_W (R0 := []) hm (fun x hx => (List.not_mem_nil hx).elim) c rfl) ?_; rintro v R8 ⟨sb, rfl, hsr⟩; have HSR := Lib.hid hsr; clear hsr; simp only [Act.put, sia, scs, scz])
         | ((with_reducible refine Bny.at_ecallf (f := 20) ?_); refine Bny.E_callmem rfl rfl rfl (Go.Proofs.enters_of Tryz.func20 (by kernel_rfl) rfl) rfl [.agg #[.slice (some ⟨vb, 0, none⟩) 1700 vc], .agg #[.int .i64 0, .int .i64 16, .slice fa 16 fc, .int .u16 ((k : Nat) : Int), .int .u16 ((k : Nat) : Int), .slice ca 0 cc, .int .i64 500, .bool false, .int .i64 ((0 : Nat) : Int), .bool false, .int .i64 ((0 : Nat) : Int), .bool false, .int .i64 ((0 : Nat) : Int), .bool false, .int .i64 ((0 : Nat) : Int), .bool false, .int .i64 ((0 : Nat) : Int), .bool false, .int .i64 ((0 : Nat) : Int), .bool false, .int .i64 ((0 : Nat) : Int), .bool false, .int .i64 ((0 : Nat) : Int)], .int .i64 a, .slice (some ⟨sb, 0, none⟩) 256 256] rfl HSW.out ((1, Value.slice (some ⟨sb, 0, none⟩) 256 256, cellsB (List.replicate 256 c)) :: Rk) (fun x hx => (List.mem_cons.1 hx).elim (fun e => .inr ⟨7, by decide, by rw [e]; exact HSR.out⟩) (fun h => .inl h)) (fun w0 w L R' hm hs => Write_0W (R0 := Rk) (b0 := false) (h0 := 0) (f0 := false) (s0 := 0) (b1 := false) (h1 := 0) (f1 := false) (s1 := 0) (b2 := false) (h2 := 0) (f2 := false) (s2 := 0) (b3 := false) (h3 := 0) (f3 := false) (s3 := 0) (free := List.range 16) (chs := []) (av := k) (la := k) (fn := 16) (cn := 0) (nf1 := 13) (nc1 := 1) (av1 := k1) (hd := 0) (s_ := a) (p := 500) (pd := 516) (ps := 772) (M := M) (D := (List.replicate 256 c)) hm (fun x hx => hs x (Mem.s hx)) HM.out HB.out rfl rfl rfl rfl HA256.out HK5.out HK1.out rfl rfl rfl (hs _ Mem.z) (sec_good HC256.out)) ?_; rintro v R3 ⟨vb5, vc5, fa5, fc5, ca5, cc5, c5, rfl, hm5, hq5, ho5, k1_, k2_, k3_, hs5⟩; have HM5 := Lib.hid hm5; have HQ5 := Lib.hid hq5; have HO5 := Lib.hid ho5; have K1 := Lib.hid k1_; have K2 := Lib.hid k2_; have K3 := Lib.hid k3_; have HS5 := Lib.hid hs5; clear hm5 hq5 ho5 k1_ k2_ k3_ hs5; simp only [Act.put, sia, scs, scz])
         | (apply Bny.E_pureq rfl rfl rfl
            case h => intro K hK; go_big_quiet_op; (refine hK _ ?_; rfl)
            case hr => exact fun _ => rfl
            simp only [Act.put, sia, scs, scz])
         | (apply Bny.E_val rfl rfl rfl rfl
            case h =>
              intro E' hA K hK
              first
                | ((with_reducible refine Bny.at_qload (T := 26) ?_); refine Bny.q_ldv 1003 hA (by decide) rfl rfl 1 _ Tryz.underlying26 rfl infoM (by decide) rfl ?_; refine hK _ ?_; rfl)
                | ((with_reducible refine Bny.at_qload (T := 58) ?_); refine Bny.q_ldv 1002 hA (by decide) rfl rfl 23 _ Tryz.underlying58 rfl infoBk23 (by decide) rfl ?_; refine hK _ ?_; rfl)
                | ((with_reducible refine Bny.at_qload (T := 5) ?_); refine Bny.q_rd (.inl HC.out) hA k rfl _ Tryz.underlying5 rfl (.int .u8 c) HCK.out ?_; refine hK _ ?_; rfl)
                | (go_big_quiet_op; first
                  | (refine hK _ ?_; rfl)
                  | (refine ⟨_, fun _ _ => rfl, ?_⟩; refine hK _ ?_; rfl)
                  | (apply Exists.intro; refine ⟨fun w1 hw1 => ?_, ?_⟩; · (first
                      | fail)
                     refine hK _ ?_; rfl))
            case hD => rfl
            simp only [Act.put, sia, scs, scz]))
       try any_goals exact undef
       refine Bny.E_nil ?_
       intro w9 hE9
       replace hv : Mem w w9 ([(b_17, #[.slice (some ⟨vb5, 0, none⟩) 1700 vc5]), (b_18, #[.int .i64 0, .int .i64 16, .slice fa5 13 fc5, .int .u16 ((k1 : Nat) : Int), .int .u16 ((k : Nat) : Int), .slice ca5 1 cc5, .int .i64 500, .bool true, .int .i64 ((0 : Nat) : Int), .bool false, .int .i64 ((a : Nat) : Int), .bool false, .int .i64 ((0 : Nat) : Int), .bool false, .int .i64 ((0 : Nat) : Int), .bool false, .int .i64 ((0 : Nat) : Int), .bool false, .int .i64 ((0 : Nat) : Int), .bool false, .int .i64 ((0 : Nat) : Int), .bool false, .int .i64 ((0 : Nat) : Int)]), (b_12, #[.int .i64 0, .int .i64 16, .int .u16 k, .int .u16 k]), (b_10, #[.slice sa 8 sc, .slice a2 cn2 c2]), (b_8, #[.int .i64 0, .int .i64 16, .slice fa 16 fc, .int .u16 ((k : Nat) : Int), .int .u16 ((k : Nat) : Int), .slice ca 0 cc, .int .i64 500, .bool false, .int .i64 ((0 : Nat) : Int), .bool false, .int .i64 ((0 : Nat) : Int), .bool false, .int .i64 ((0 : Nat) : Int), .bool false, .int .i64 ((0 : Nat) : Int), .bool false, .int .i64 ((0 : Nat) : Int), .bool false, .int .i64 ((0 : Nat) : Int), .bool false, .int .i64 ((0 : Nat) : Int), .bool false, .int .i64 ((0 : Nat) : Int)]), (b_7, #[.slice (some ⟨vb, 0, none⟩) 1700 vc])] ++ []) R3 := hE9.mem1 [14, 15, 1000, 1001, 1002, 1003] (by decide) 8 rfl
       clear hE9
       simp only [List.cons_append, List.nil_append] at hv
       obtain ⟨Q1, Q2, Q3, Q4, Q5⟩ := write_new (M := M) (D := (List.replicate 256 c)) (free := List.range 16) (p := 500) (s := a) (h := 0) (av := k) HM.out.len List.length_replicate HA256.out (by decide) (by decide) List.nodup_range range16_lt rfl (by decide)
       obtain ⟨M1, hM1⟩ : ∃ M1, addM (askM M 500 1 a (List.replicate 256 c)) 0 16 k (List.range 16) [(500, 16, false), (500 + 16, 256, false), (500 + 272, 1, true)] = M1 := ⟨_, rfl⟩
       rw [hM1] at Q1 Q2 Q3 Q4 Q5
       have HM1 : Hid (InM R3 vb5 0 1700 vc5 M1) := Lib.hid (by rw [← hM1]; exact HM5.out)
       have G1 : Hid (getN M1 258 2 = k1) := Lib.hid (by rw [Q2, HK1.out, Nat.mod_eq_of_lt (by have := HK6.out; omega)])
       have G2 := Lib.hid Q3
       have GP := Lib.hid Q1
       have GL := Lib.hid Q4
       have GU : Hid (getN M1 294 2 = k) := Lib.hid (Q5.trans HUI.out)
       have HD3 := Lib.hid (HD.out.mono HS5.out)
       have HSTM := Lib.hid (HS5.out _ HSTR0.out)
       have HCM := Lib.hid (HS5.out _ HC.out)
       clear Q1 Q2 Q3 Q4 Q5 hM1 HM5
       have HSV : Hid (∃ v R', SrvW R3 M1 772 k 0 k1 k1 an a sa 8 sc cn2 ss cs (List.replicate 256 c) v R') := Lib.hid (Bny.some_of (Serve_W (R0 := R3) (st := st) (sn_ := k) (sn1 := k1) (us := k) (us1 := k1) (av := k1) (hd := 0) (p := 500) (ps := 772) (an := an) (s_ := a) (cs := cs) (ca := a2) (cn := cn2) (cc := c2) (sn := 8) (M := M1) (D := (List.replicate 256 c)) hv (fun x hx => hx) HD3.out HM1.out HK5.out HK1.out G1.out GN.out G2.out GP.out HK5.out HK1.out (by decide) ⟨rfl, by decide⟩ HST.out HAN.out HA256.out HCN.out))
       go_wp2
       replace hv : Mem w _ ([(b_17, _), (b_18, _), (b_12, _), (b_10, _), (b_8, _), (b_7, _)] ++ []) R3 := hv
       try simp only [Act.put]
       refine Bny.wp_region_walk _ _ [⟨[1000], none⟩, ⟨[1002], none⟩, ⟨[1003], none⟩, ⟨[], none⟩, ⟨[], none⟩, ⟨[], none⟩, ⟨[], none⟩, ⟨[], some 7⟩, ⟨[], none⟩, ⟨[], none⟩, ⟨[], none⟩, ⟨[], none⟩, ⟨[], none⟩, ⟨[], some 13⟩, ⟨[], some 14⟩, ⟨[1000], some 1000⟩, ⟨[13], some 13⟩, ⟨[14], some 14⟩, ⟨[], none⟩] [.val, .val, .val, .val, .val, .val, .val, .mem (SrvW R3 M1 772 k 0 k1 k1 an a sa 8 sc cn2 ss cs (List.replicate 256 c)), .pure, .pure, .pure, .pure, .pure, .lay #[.int .i64 0, .int .i64 0, .int .u16 0, .int .u16 0], .lay #[.slice none 0 0, .slice none 0 0], .put, .put, .put, .pure] (by kernel_rfl) (by kernel_rfl) hv ?_
       simp only [List.length_cons, List.length_nil, Nat.zero_add, Any.someVals]
       iterate 19 apply Exists.intro
       repeat (first
         | (refine Bny.E_off rfl ?_; simp only [Act.put, sia, scs, scz])
         | ((with_reducible refine Bny.at_ealloc ?_); refine Bny.E_lay (t := 38) rfl rfl rfl (fun _ => rfl) ?_; intro b_21; simp only [Act.put, sia, scs, scz])
         | ((with_reducible refine Bny.at_ealloc ?_); refine Bny.E_lay (t := 63) rfl rfl rfl (fun _ => rfl) ?_; intro b_22; simp only [Act.put, sia, scs, scz])
         | ((with_reducible refine Bny.at_estore (T := 26) ?_); refine Bny.E_putv (T := 26) rfl rfl rfl rfl rfl rfl 1 infoM rfl rfl (by simp [Value.oneCell']) ?_; simp only [Act.put, sia, scs, scz])
         | ((with_reducible refine Bny.at_estore (T := 38) ?_); refine Bny.E_putv (T := 38) rfl rfl rfl rfl rfl rfl 4 infoS4 rfl rfl (by simp [Value.oneCell']) ?_; simp only [Act.put, sia, scs, scz])
         | ((with_reducible refine Bny.at_estore (T := 63) ?_); refine Bny.E_putv (T := 63) rfl rfl rfl rfl rfl rfl 2 infoD2 rfl rfl (by simp [Value.oneCell']) ?_; simp only [Act.put, sia, scs, scz])
         | ((with_reducible refine Bny.at_ecallf (f := 22) ?_); refine Bny.E_callmem rfl rfl rfl (Go.Proofs.enters_of Tryz.func22 (by kernel_rfl) rfl) rfl [.agg #[.slice (some ⟨vb5, 0, none⟩) 1700 vc5], .agg #[.int .i64 0, .int .i64 16, .int .u16 k, .int .u16 k], .agg #[.slice sa 8 sc, .slice a2 cn2 c2], .int .i64 st] rfl HSV.out R3 (fun x hx => .inl hx) (fun w0 w L R' hm hs => Serve_W (R0 := R3) (st := st) (sn_ := k) (sn1 := k1) (us := k) (us1 := k1) (av := k1) (hd := 0) (p := 500) (ps := 772) (an := an) (s_ := a) (cs := cs) (ca := a2) (cn := cn2) (cc := c2) (sn := 8) (M := M1) (D := (List.replicate 256 c)) hm hs HD3.out HM1.out HK5.out HK1.out G1.out GN.out G2.out GP.out HK5.out HK1.out (by decide) ⟨rfl, by decide⟩ HST.out HAN.out HA256.out HCN.out) ?_; rintro v R5 ⟨vb7, vc7, a3, cn3, c3, ans, cs3, rfl, hm7, hd7, ha7, hw7, hs7⟩; have HM7 := Lib.hid hm7; have HD7 := Lib.hid hd7; have HA7 := Lib.hid ha7; have HW7 := Lib.hid hw7; have HS7 := Lib.hid hs7; clear hm7 hd7 ha7 hw7 hs7; simp only [Act.put, sia, scs, scz])
         | (apply Bny.E_pureq rfl rfl rfl
            case h => intro K hK; go_big_quiet_op; (refine hK _ ?_; rfl)
            case hr => exact fun _ => rfl
            simp only [Act.put, sia, scs, scz])
         | (apply Bny.E_val rfl rfl rfl rfl
            case h =>
              intro E' hA K hK
              first
                | ((with_reducible refine Bny.at_qload (T := 26) ?_); refine Bny.q_ldv 1000 hA (by decide) rfl rfl 1 _ Tryz.underlying26 rfl infoM (by decide) rfl ?_; refine hK _ ?_; rfl)
                | ((with_reducible refine Bny.at_qload (T := 38) ?_); refine Bny.q_ldv 1002 hA (by decide) rfl rfl 4 _ Tryz.underlying38 rfl infoS4 (by decide) rfl ?_; refine hK _ ?_; rfl)
                | ((with_reducible refine Bny.at_qload (T := 63) ?_); refine Bny.q_ldv 1003 hA (by decide) rfl rfl 2 _ Tryz.underlying63 rfl infoD2 (by decide) rfl ?_; refine hK _ ?_; rfl)
                | ((with_reducible refine Bny.at_qload (T := 3) ?_); refine Bny.q_rd (.inl HSTM.out) hA k rfl _ Tryz.underlying3 rfl (.int .i64 st) HSK.out ?_; refine hK _ ?_; rfl)
                | (go_big_quiet_op; first
                  | (refine hK _ ?_; rfl)
                  | (refine ⟨_, fun _ _ => rfl, ?_⟩; refine hK _ ?_; rfl)
                  | (apply Exists.intro; refine ⟨fun w1 hw1 => ?_, ?_⟩; · (first
                      | fail)
                     refine hK _ ?_; rfl))
            case hD => rfl
            simp only [Act.put, sia, scs, scz]))
       try any_goals exact undef
       refine Bny.E_nil ?_
       intro w9 hE9
       replace hv : Mem w w9 ([(b_21, #[.int .i64 0, .int .i64 16, .int .u16 k1, .int .u16 k1]), (b_22, #[.slice sa 8 sc, .slice a3 cn3 c3]), (b_17, #[.slice (some ⟨vb7, 0, none⟩) 1700 vc7]), (b_18, #[.int .i64 0, .int .i64 16, .slice fa5 13 fc5, .int .u16 ((k1 : Nat) : Int), .int .u16 ((k : Nat) : Int), .slice ca5 1 cc5, .int .i64 500, .bool true, .int .i64 ((0 : Nat) : Int), .bool false, .int .i64 ((a : Nat) : Int), .bool false, .int .i64 ((0 : Nat) : Int), .bool false, .int .i64 ((0 : Nat) : Int), .bool false, .int .i64 ((0 : Nat) : Int), .bool false, .int .i64 ((0 : Nat) : Int), .bool false, .int .i64 ((0 : Nat) : Int), .bool false, .int .i64 ((0 : Nat) : Int)]), (b_12, #[.int .i64 0, .int .i64 16, .int .u16 k, .int .u16 k]), (b_10, #[.slice sa 8 sc, .slice a2 cn2 c2]), (b_8, #[.int .i64 0, .int .i64 16, .slice fa 16 fc, .int .u16 ((k : Nat) : Int), .int .u16 ((k : Nat) : Int), .slice ca 0 cc, .int .i64 500, .bool false, .int .i64 ((0 : Nat) : Int), .bool false, .int .i64 ((0 : Nat) : Int), .bool false, .int .i64 ((0 : Nat) : Int), .bool false, .int .i64 ((0 : Nat) : Int), .bool false, .int .i64 ((0 : Nat) : Int), .bool false, .int .i64 ((0 : Nat) : Int), .bool false, .int .i64 ((0 : Nat) : Int), .bool false, .int .i64 ((0 : Nat) : Int)]), (b_7, #[.slice (some ⟨vb, 0, none⟩) 1700 vc])] ++ []) R5 := hE9.mem1 [13, 14, 1000, 1001, 1002, 1003, 1004, 1005] (by decide) 7 rfl
       clear hE9
       simp only [List.cons_append, List.nil_append] at hv
       have HSTM7 := Lib.hid (HS7.out _ HSTM.out)
       have HCM7 := Lib.hid (HS7.out _ HCM.out)
       have HB2 : Hid (BlkQ R5 (.slice fa5 13 fc5) (.slice ca5 1 cc5) ((List.range 16).drop 3) ([] ++ [c5]) [(true, 0, false, ((a : Nat) : Int)), (false, 0, false, ((0 : Nat) : Int)), (false, 0, false, ((0 : Nat) : Int)), (false, 0, false, ((0 : Nat) : Int))]) := Lib.hid ⟨HQ5.out.mono HS7.out, HO5.out, fun r hr hb => by
           simp only [List.mem_cons, List.not_mem_nil, or_false] at hr
           rcases hr with rfl | rfl | rfl | rfl <;> first | exact ⟨rfl, rfl, rfl⟩ | exact absurd hb (by show ¬ (true = false); decide), by
           show List.Perm [((0 : Nat) : Int)] [((c5.h : Nat) : Int)]
           rw [K1.out]⟩
       have K7 : Hid (1 ≤ c5.rm) := Lib.hid (by rw [K3.out]; exact Nat.le_refl 1)
       have K8 : Hid (13 + c5.ds.length = 16) := Lib.hid (by rw [K2.out]; rfl)
       obtain ⟨V1, V2, V3, V4, V5, V6⟩ := serve_new (M := M1) (us := k) (id := 0) (ps := 772) (an := ans) GL.out (by decide) (by decide) (by decide) HA7.out HK5.out
       obtain ⟨M2, hM2⟩ : ∃ M2, returnM (putB M1 772 [ans]) 0 16 k 0 1 = M2 := ⟨_, rfl⟩
       rw [hM2] at V1 V2 V3 V4 V5 V6
       have J1 : Hid (getN M2 294 2 = k1) := Lib.hid (by rw [V2]; exact HK1.out)
       have J2 := Lib.hid V3
       have J3 := Lib.hid V4
       clear V2 V3 V4 V6
       rcases HW7.out with ⟨_, _, h9, _⟩ | ⟨hans, _, e91, e92⟩
       · exact absurd h9 HA8.out
       · obtain rfl := e91.symm
         obtain rfl := e92.symm
         by_cases han : an = 0
         · have yan : ((an : Int) == 0) = true := by rw [beq_iff_eq]; omega
           clear han
           have HANS := Lib.hid hans
           clear hans
           have HM2 : Hid (InM R5 vb7 0 1700 vc7 M2) := Lib.hid (by rw [← hM2]; exact HM7.out)
           have J4 : Hid (getN M2 772 1 = ans) := Lib.hid V5
           have HM2L := Lib.hid V1
           clear V1 V5 hM2
           go_wp2_with (first
             | ((with_reducible refine at_load (T := 26) ?_); refine wl_ldv rfl b_17 rfl _ hv.vars.ro 1 _ Tryz.underlying26 rfl infoM (by decide) rfl ?_)
             | ((with_reducible refine at_load (T := 58) ?_); refine wl_ldv rfl b_18 rfl _ hv.vars.ro 23 _ Tryz.underlying58 rfl infoBk23 (by decide) rfl ?_)
             | (go_at_call 23; (refine (Done_0 (b0 := true) (h0 := 0) (f0 := false) (s0 := a) (b1 := false) (h1 := 0) (f1 := false) (s1 := 0) (b2 := false) (h2 := 0) (f2 := false) (s2 := 0) (b3 := false) (h3 := 0) (f3 := false) (s3 := 0) (free := (List.range 16).drop 3) (chs := [] ++ [c5]) (av := k1) (la := k) (fn := 13) (cn := 1) (nf1 := 16) (nc1 := 0) (la1 := k1) (us := k1) (hd := 0) (ln := 1) (x := ans) (c0 := c5) (rest := []) (M := M2) hv HM2.out HB2.out J1.out HK1.out HK6.out HKK.out HKN.out J2.out J3.out rfl rfl K1.out K7.out K8.out rfl HK6.out rfl J4.out).mono ?_); rintro e w1 ⟨fa8, fc8, ca8, cc8, free8, R6, e1, rfl, he1, hv1, hq1, ho1, hp1, hso1, hs1⟩; rw [if_neg HANS.out] at he1; subst he1; replace hv := hv1; have HF8 := Lib.hid (free_back hp1 K2.out hso1); have HQ8 := Lib.hid hq1; have HO8 := Lib.hid ho1; have HS8 := Lib.hid hs1; have HSTR := Lib.hid (hs1 _ HSTM7.out); have HCR := Lib.hid (hs1 _ HCM7.out); clear hv1 hq1 ho1 hp1 hso1 hs1)
             | ((with_reducible refine at_alloc (T := 58) (dst := some 24) ?_); refine wl_newb rfl #[.int .i64 0, .int .i64 0, .slice none 0 0, .int .u16 0, .int .u16 0, .slice none 0 0, .int .i64 0, .bool false, .int .i64 0, .bool false, .int .i64 0, .bool false, .int .i64 0, .bool false, .int .i64 0, .bool false, .int .i64 0, .bool false, .int .i64 0, .bool false, .int .i64 0, .bool false, .int .i64 0] 58 (fun _ => rfl) ?_; intro b_24 w2 hm2; replace hv := hv.madeAt hm2; clear hm2)
             | ((with_reducible refine at_store (T := 58) ?_); refine wl_stv rfl b_24 rfl _ rfl _ hv.vars.ro hv.vars.so 23 infoBk23 rfl rfl (by simp [Value.oneCell']) ?_; intro w2 hw2; replace hv := hv.sets (by repeat first | exact .z | apply SetM.s) hw2; clear hw2)
             | ((with_reducible refine at_load (T := 63) ?_); refine wl_ldv rfl b_22 rfl _ hv.vars.ro 2 _ Tryz.underlying63 rfl infoD2 (by decide) rfl ?_)
             | (go_at_call 24; (refine (RDRead_no hv (HD7.out.mono HS8.out) (at_ := a) HA8.out).mono ?_); rintro e w1 ⟨rfl, hn1⟩; replace hv := hv.new hn1; clear hn1)
             | ((with_reducible refine at_load (T := 3) ?_); refine wl_rd rfl (c := sts.map (Value.int .i64)) (hv.rd HSTR.out) k rfl _ Tryz.underlying3 rfl (.int .i64 st) HSK.out ?_))
           replace hv : Mem w _ ([(b_24, _), (b_21, _), (b_22, _), (b_17, _), (b_18, _), (b_12, _), (b_10, _), (b_8, _), (b_7, _)] ++ []) R6 := hv
           try simp only [Act.put]
           refine Bny.wp_region_walk _ _ [⟨[1003], none⟩, ⟨[1000], none⟩, ⟨[1001], none⟩, ⟨[1002], none⟩, ⟨[1008], some 1008⟩, ⟨[1007], some 1007⟩, ⟨[1005], some 1005⟩, ⟨[1006], some 1006⟩] [.val, .val, .val, .val, .put, .put, .put, .put] (by kernel_rfl) (by kernel_rfl) hv ?_
           simp only [List.length_cons, List.length_nil, Nat.zero_add, Any.someVals]
           iterate 8 apply Exists.intro
           repeat (first
             | (refine Bny.E_off rfl ?_; simp only [Act.put, sia, scs, scz])
             | ((with_reducible refine Bny.at_estore (T := 26) ?_); refine Bny.E_putv (T := 26) rfl rfl rfl rfl rfl rfl 1 infoM rfl rfl (by simp [Value.oneCell']) ?_; simp only [Act.put, sia, scs, scz])
             | ((with_reducible refine Bny.at_estore (T := 58) ?_); refine Bny.E_putv (T := 58) rfl rfl rfl rfl rfl rfl 23 infoBk23 rfl rfl (by simp [Value.oneCell']) ?_; simp only [Act.put, sia, scs, scz])
             | ((with_reducible refine Bny.at_estore (T := 38) ?_); refine Bny.E_putv (T := 38) rfl rfl rfl rfl rfl rfl 4 infoS4 rfl rfl (by simp [Value.oneCell']) ?_; simp only [Act.put, sia, scs, scz])
             | ((with_reducible refine Bny.at_estore (T := 63) ?_); refine Bny.E_putv (T := 63) rfl rfl rfl rfl rfl rfl 2 infoD2 rfl rfl (by simp [Value.oneCell']) ?_; simp only [Act.put, sia, scs, scz])
             | (apply Bny.E_pureq rfl rfl rfl
                case h => intro K hK; go_big_quiet_op; (refine hK _ ?_; rfl)
                case hr => exact fun _ => rfl
                simp only [Act.put, sia, scs, scz])
             | (apply Bny.E_val rfl rfl rfl rfl
                case h =>
                  intro E' hA K hK
                  first
                    | ((with_reducible refine Bny.at_qload (T := 26) ?_); refine Bny.q_ldv 1003 hA (by decide) rfl rfl 1 _ Tryz.underlying26 rfl infoM (by decide) rfl ?_; refine hK _ ?_; rfl)
                    | ((with_reducible refine Bny.at_qload (T := 58) ?_); refine Bny.q_ldv 1000 hA (by decide) rfl rfl 23 _ Tryz.underlying58 rfl infoBk23 (by decide) rfl ?_; refine hK _ ?_; rfl)
                    | ((with_reducible refine Bny.at_qload (T := 38) ?_); refine Bny.q_ldv 1001 hA (by decide) rfl rfl 4 _ Tryz.underlying38 rfl infoS4 (by decide) rfl ?_; refine hK _ ?_; rfl)
                    | ((with_reducible refine Bny.at_qload (T := 63) ?_); refine Bny.q_ldv 1002 hA (by decide) rfl rfl 2 _ Tryz.underlying63 rfl infoD2 (by decide) rfl ?_; refine hK _ ?_; rfl)
                    | (go_big_quiet_op; first
                      | (refine hK _ ?_; rfl)
                      | (refine ⟨_, fun _ _ => rfl, ?_⟩; refine hK _ ?_; rfl)
                      | (apply Exists.intro; refine ⟨fun w1 hw1 => ?_, ?_⟩; · (first
                          | fail)
                         refine hK _ ?_; rfl))
                case hD => rfl
                simp only [Act.put, sia, scs, scz]))
           try any_goals exact undef
           refine Bny.E_nil ?_
           intro w9 hE9
           replace hv : Mem w w9 ([(b_24, #[.int .i64 0, .int .i64 16, .slice fa8 16 fc8, .int .u16 ((k1 : Nat) : Int), .int .u16 ((k1 : Nat) : Int), .slice ca8 0 cc8, .int .i64 500, .bool false, .int .i64 ((0 : Nat) : Int), .bool false, .int .i64 ((0 : Nat) : Int), .bool false, .int .i64 ((0 : Nat) : Int), .bool false, .int .i64 ((0 : Nat) : Int), .bool false, .int .i64 ((0 : Nat) : Int), .bool false, .int .i64 ((0 : Nat) : Int), .bool false, .int .i64 ((0 : Nat) : Int), .bool false, .int .i64 ((0 : Nat) : Int)]), (b_21, #[.int .i64 0, .int .i64 16, .int .u16 k1, .int .u16 k1]), (b_22, #[.slice sa 8 sc, .slice a3 cn2 c3]), (b_17, #[.slice (some ⟨vb7, 0, none⟩) 1700 vc7]), (b_18, #[.int .i64 0, .int .i64 16, .slice fa5 13 fc5, .int .u16 ((k1 : Nat) : Int), .int .u16 ((k : Nat) : Int), .slice ca5 1 cc5, .int .i64 500, .bool true, .int .i64 ((0 : Nat) : Int), .bool false, .int .i64 ((a : Nat) : Int), .bool false, .int .i64 ((0 : Nat) : Int), .bool false, .int .i64 ((0 : Nat) : Int), .bool false, .int .i64 ((0 : Nat) : Int), .bool false, .int .i64 ((0 : Nat) : Int), .bool false, .int .i64 ((0 : Nat) : Int), .bool false, .int .i64 ((0 : Nat) : Int)]), (b_12, #[.int .i64 0, .int .i64 16, .int .u16 k1, .int .u16 k1]), (b_10, #[.slice sa 8 sc, .slice a3 cn2 c3]), (b_8, #[.int .i64 0, .int .i64 16, .slice fa8 16 fc8, .int .u16 ((k1 : Nat) : Int), .int .u16 ((k1 : Nat) : Int), .slice ca8 0 cc8, .int .i64 500, .bool false, .int .i64 ((0 : Nat) : Int), .bool false, .int .i64 ((0 : Nat) : Int), .bool false, .int .i64 ((0 : Nat) : Int), .bool false, .int .i64 ((0 : Nat) : Int), .bool false, .int .i64 ((0 : Nat) : Int), .bool false, .int .i64 ((0 : Nat) : Int), .bool false, .int .i64 ((0 : Nat) : Int), .bool false, .int .i64 ((0 : Nat) : Int)]), (b_7, #[.slice (some ⟨vb7, 0, none⟩) 1700 vc7])] ++ []) R6 := hE9.mem0 [1000, 1001, 1002, 1003, 1004, 1005, 1006, 1007, 1008] (by decide)
           clear hE9
           simp only [List.cons_append, List.nil_append] at hv
           go_wp2
           have hkn := HKI.out
           go_roundw
           case rel =>
             rw [HF8.out] at HQ8 HO8
             exact ⟨k1, HK1L.out, by have := HK1.out; go_num, vb7, vc7, fc8, cc8, sc, cn2, c3, fa8, ca8, sa, a3, ss, cs, M2, _, hv.keep (by exact List.sublist_append_right [_, _, _, _, _] _), HM2.out.mono (HS8.out), J1.out, HQ8.out.mono (fun x hx => hx), HO8.out, HD7.out.mono (HS8.out), HSL.out, by have := HCK2.out; have := HK1.out; omega, fun x hx => HS8.out x (HS7.out x (HS5.out x (HRK.out x hx)))⟩
           case measure => have := HK1.out; simp [intOf] <;> omega
         · have yan : ((an : Int) == 0) = false := by rw [beq_eq_false_iff_ne]; omega
           clear han
           have HANS := Lib.hid hans
           clear hans
           have HM2 : Hid (InM R5 vb7 0 1700 vc7 M2) := Lib.hid (by rw [← hM2]; exact HM7.out)
           have J4 : Hid (getN M2 772 1 = ans) := Lib.hid V5
           have HM2L := Lib.hid V1
           clear V1 V5 hM2
           go_wp2_with (first
             | ((with_reducible refine at_load (T := 26) ?_); refine wl_ldv rfl b_17 rfl _ hv.vars.ro 1 _ Tryz.underlying26 rfl infoM (by decide) rfl ?_)
             | ((with_reducible refine at_load (T := 58) ?_); refine wl_ldv rfl b_18 rfl _ hv.vars.ro 23 _ Tryz.underlying58 rfl infoBk23 (by decide) rfl ?_)
             | (go_at_call 23; (refine (Done_0 (b0 := true) (h0 := 0) (f0 := false) (s0 := a) (b1 := false) (h1 := 0) (f1 := false) (s1 := 0) (b2 := false) (h2 := 0) (f2 := false) (s2 := 0) (b3 := false) (h3 := 0) (f3 := false) (s3 := 0) (free := (List.range 16).drop 3) (chs := [] ++ [c5]) (av := k1) (la := k) (fn := 13) (cn := 1) (nf1 := 16) (nc1 := 0) (la1 := k1) (us := k1) (hd := 0) (ln := 1) (x := ans) (c0 := c5) (rest := []) (M := M2) hv HM2.out HB2.out J1.out HK1.out HK6.out HKK.out HKN.out J2.out J3.out rfl rfl K1.out K7.out K8.out rfl HK6.out rfl J4.out).mono ?_); rintro e w1 ⟨fa8, fc8, ca8, cc8, free8, R6, e1, rfl, he1, hv1, hq1, ho1, hp1, hso1, hs1⟩; rw [if_neg HANS.out] at he1; subst he1; replace hv := hv1; have HF8 := Lib.hid (free_back hp1 K2.out hso1); have HQ8 := Lib.hid hq1; have HO8 := Lib.hid ho1; have HS8 := Lib.hid hs1; have HSTR := Lib.hid (hs1 _ HSTM7.out); have HCR := Lib.hid (hs1 _ HCM7.out); clear hv1 hq1 ho1 hp1 hso1 hs1)
             | ((with_reducible refine at_alloc (T := 58) (dst := some 24) ?_); refine wl_newb rfl #[.int .i64 0, .int .i64 0, .slice none 0 0, .int .u16 0, .int .u16 0, .slice none 0 0, .int .i64 0, .bool false, .int .i64 0, .bool false, .int .i64 0, .bool false, .int .i64 0, .bool false, .int .i64 0, .bool false, .int .i64 0, .bool false, .int .i64 0, .bool false, .int .i64 0, .bool false, .int .i64 0] 58 (fun _ => rfl) ?_; intro b_24 w2 hm2; replace hv := hv.madeAt hm2; clear hm2)
             | ((with_reducible refine at_store (T := 58) ?_); refine wl_stv rfl b_24 rfl _ rfl _ hv.vars.ro hv.vars.so 23 infoBk23 rfl rfl (by simp [Value.oneCell']) ?_; intro w2 hw2; replace hv := hv.sets (by repeat first | exact .z | apply SetM.s) hw2; clear hw2)
             | ((with_reducible refine at_load (T := 63) ?_); refine wl_ldv rfl b_22 rfl _ hv.vars.ro 2 _ Tryz.underlying63 rfl infoD2 (by decide) rfl ?_)
             | (go_at_call 24; (refine (RDRead_no hv (HD7.out.mono HS8.out) (at_ := a) HA8.out).mono ?_); rintro e w1 ⟨rfl, hn1⟩; replace hv := hv.new hn1; clear hn1)
             | ((with_reducible refine at_load (T := 3) ?_); refine wl_rd rfl (c := sts.map (Value.int .i64)) (hv.rd HSTR.out) k rfl _ Tryz.underlying3 rfl (.int .i64 st) HSK.out ?_))
           replace hv : Mem w _ ([(b_24, _), (b_21, _), (b_22, _), (b_17, _), (b_18, _), (b_12, _), (b_10, _), (b_8, _), (b_7, _)] ++ []) R6 := hv
           try simp only [Act.put]
           refine Bny.wp_region_walk _ _ [⟨[1003], none⟩, ⟨[1000], none⟩, ⟨[1001], none⟩, ⟨[1002], none⟩, ⟨[1008], some 1008⟩, ⟨[1007], some 1007⟩, ⟨[1005], some 1005⟩, ⟨[1006], some 1006⟩] [.val, .val, .val, .val, .put, .put, .put, .put] (by kernel_rfl) (by kernel_rfl) hv ?_
           simp only [List.length_cons, List.length_nil, Nat.zero_add, Any.someVals]
           iterate 8 apply Exists.intro
           repeat (first
             | (refine Bny.E_off rfl ?_; simp only [Act.put, sia, scs, scz])
             | ((with_reducible refine Bny.at_estore (T := 26) ?_); refine Bny.E_putv (T := 26) rfl rfl rfl rfl rfl rfl 1 infoM rfl rfl (by simp [Value.oneCell']) ?_; simp only [Act.put, sia, scs, scz])
             | ((with_reducible refine Bny.at_estore (T := 58) ?_); refine Bny.E_putv (T := 58) rfl rfl rfl rfl rfl rfl 23 infoBk23 rfl rfl (by simp [Value.oneCell']) ?_; simp only [Act.put, sia, scs, scz])
             | ((with_reducible refine Bny.at_estore (T := 38) ?_); refine Bny.E_putv (T := 38) rfl rfl rfl rfl rfl rfl 4 infoS4 rfl rfl (by simp [Value.oneCell']) ?_; simp only [Act.put, sia, scs, scz])
             | ((with_reducible refine Bny.at_estore (T := 63) ?_); refine Bny.E_putv (T := 63) rfl rfl rfl rfl rfl rfl 2 infoD2 rfl rfl (by simp [Value.oneCell']) ?_; simp only [Act.put, sia, scs, scz])
             | (apply Bny.E_pureq rfl rfl rfl
                case h => intro K hK; go_big_quiet_op; (refine hK _ ?_; rfl)
                case hr => exact fun _ => rfl
                simp only [Act.put, sia, scs, scz])
             | (apply Bny.E_val rfl rfl rfl rfl
                case h =>
                  intro E' hA K hK
                  first
                    | ((with_reducible refine Bny.at_qload (T := 26) ?_); refine Bny.q_ldv 1003 hA (by decide) rfl rfl 1 _ Tryz.underlying26 rfl infoM (by decide) rfl ?_; refine hK _ ?_; rfl)
                    | ((with_reducible refine Bny.at_qload (T := 58) ?_); refine Bny.q_ldv 1000 hA (by decide) rfl rfl 23 _ Tryz.underlying58 rfl infoBk23 (by decide) rfl ?_; refine hK _ ?_; rfl)
                    | ((with_reducible refine Bny.at_qload (T := 38) ?_); refine Bny.q_ldv 1001 hA (by decide) rfl rfl 4 _ Tryz.underlying38 rfl infoS4 (by decide) rfl ?_; refine hK _ ?_; rfl)
                    | ((with_reducible refine Bny.at_qload (T := 63) ?_); refine Bny.q_ldv 1002 hA (by decide) rfl rfl 2 _ Tryz.underlying63 rfl infoD2 (by decide) rfl ?_; refine hK _ ?_; rfl)
                    | (go_big_quiet_op; first
                      | (refine hK _ ?_; rfl)
                      | (refine ⟨_, fun _ _ => rfl, ?_⟩; refine hK _ ?_; rfl)
                      | (apply Exists.intro; refine ⟨fun w1 hw1 => ?_, ?_⟩; · (first
                          | fail)
                         refine hK _ ?_; rfl))
                case hD => rfl
                simp only [Act.put, sia, scs, scz]))
           try any_goals exact undef
           refine Bny.E_nil ?_
           intro w9 hE9
           replace hv : Mem w w9 ([(b_24, #[.int .i64 0, .int .i64 16, .slice fa8 16 fc8, .int .u16 ((k1 : Nat) : Int), .int .u16 ((k1 : Nat) : Int), .slice ca8 0 cc8, .int .i64 500, .bool false, .int .i64 ((0 : Nat) : Int), .bool false, .int .i64 ((0 : Nat) : Int), .bool false, .int .i64 ((0 : Nat) : Int), .bool false, .int .i64 ((0 : Nat) : Int), .bool false, .int .i64 ((0 : Nat) : Int), .bool false, .int .i64 ((0 : Nat) : Int), .bool false, .int .i64 ((0 : Nat) : Int), .bool false, .int .i64 ((0 : Nat) : Int)]), (b_21, #[.int .i64 0, .int .i64 16, .int .u16 k1, .int .u16 k1]), (b_22, #[.slice sa 8 sc, .slice a3 cn2 c3]), (b_17, #[.slice (some ⟨vb7, 0, none⟩) 1700 vc7]), (b_18, #[.int .i64 0, .int .i64 16, .slice fa5 13 fc5, .int .u16 ((k1 : Nat) : Int), .int .u16 ((k : Nat) : Int), .slice ca5 1 cc5, .int .i64 500, .bool true, .int .i64 ((0 : Nat) : Int), .bool false, .int .i64 ((a : Nat) : Int), .bool false, .int .i64 ((0 : Nat) : Int), .bool false, .int .i64 ((0 : Nat) : Int), .bool false, .int .i64 ((0 : Nat) : Int), .bool false, .int .i64 ((0 : Nat) : Int), .bool false, .int .i64 ((0 : Nat) : Int), .bool false, .int .i64 ((0 : Nat) : Int)]), (b_12, #[.int .i64 0, .int .i64 16, .int .u16 k1, .int .u16 k1]), (b_10, #[.slice sa 8 sc, .slice a3 cn2 c3]), (b_8, #[.int .i64 0, .int .i64 16, .slice fa8 16 fc8, .int .u16 ((k1 : Nat) : Int), .int .u16 ((k1 : Nat) : Int), .slice ca8 0 cc8, .int .i64 500, .bool false, .int .i64 ((0 : Nat) : Int), .bool false, .int .i64 ((0 : Nat) : Int), .bool false, .int .i64 ((0 : Nat) : Int), .bool false, .int .i64 ((0 : Nat) : Int), .bool false, .int .i64 ((0 : Nat) : Int), .bool false, .int .i64 ((0 : Nat) : Int), .bool false, .int .i64 ((0 : Nat) : Int), .bool false, .int .i64 ((0 : Nat) : Int)]), (b_7, #[.slice (some ⟨vb7, 0, none⟩) 1700 vc7])] ++ []) R6 := hE9.mem0 [1000, 1001, 1002, 1003, 1004, 1005, 1006, 1007, 1008] (by decide)
           clear hE9
           simp only [List.cons_append, List.nil_append] at hv
           go_wp2
           have hkn := HKI.out
           go_roundw
           case rel =>
             rw [HF8.out] at HQ8 HO8
             exact ⟨k1, HK1L.out, by have := HK1.out; go_num, vb7, vc7, fc8, cc8, sc, cn2, c3, fa8, ca8, sa, a3, ss, cs, M2, _, hv.keep (by exact List.sublist_append_right [_, _, _, _, _] _), HM2.out.mono (HS8.out), J1.out, HQ8.out.mono (fun x hx => hx), HO8.out, HD7.out.mono (HS8.out), HSL.out, by have := HCK2.out; have := HK1.out; omega, fun x hx => HS8.out x (HS7.out x (HS5.out x (HRK.out x hx)))⟩
           case measure => have := HK1.out; simp [intOf] <;> omega
   · have hki : ¬ (k : Int) < (ln : Int) := by omega
     obtain rfl : k = ln := by omega
     clear hk hk0
     go_wp2_with (first
       | ((with_reducible refine at_load (T := 58) ?_); refine wl_ldv rfl b_8 rfl _ hv.vars.ro 23 _ Tryz.underlying58 rfl infoBk23 (by decide) rfl ?_)
       | (go_at_call 25; (refine (BCheck_ok (b0 := false) (h0 := 0) (f0 := false) (s0 := 0) (b1 := false) (h1 := 0) (f1 := false) (s1 := 0) (b2 := false) (h2 := 0) (f2 := false) (s2 := 0) (b3 := false) (h3 := 0) (f3 := false) (s3 := 0) (free := List.range 16) (chs := []) (av := k) (la := k) (fn := 16) (cn := 0) hv HB.out).mono ?_); rintro e w1 ⟨rfl, hn1⟩; replace hv := hv.new hn1; clear hn1)
       | (go_at_call 19; (with_reducible refine (heads09 _).mono ?_); rintro e w1 ⟨rfl, hn1⟩; replace hv := hv.new hn1; clear hn1))
     go_ret
     exact ⟨rfl, hv.below⟩
theorem VblkWrites_any (la : Option Addr) (ln lc : Nat) (xs : List Int) (ba : Option Addr) (bn bc : Nat) (bs : List Nat) (sta : Option Addr) (stn stc : Nat) (sts : List Int) (w : World) (R : List (Nat × Value × List Value)) (hv : Mem w w [] R) (hl : (1, .slice la ln lc, xs.map (Value.int .i64)) ∈ R) (hc : (1, .slice ba bn bc, cellsB bs) ∈ R) (hg : goodB bs) (hst : (1, .slice sta stn stc, sts.map (Value.int .i64)) ∈ R) : Calls Tryz.prog 6 #[.slice la ln lc, .slice ba bn bc, .slice sta stn stc] w (fun e w' => e = .returned (.bool true) ∧ New w w') := by
 by_cases h0 : 30 < ln
 · exact Writes_c1 la ln lc xs ba bn bc bs sta stn stc sts w R hv hl hc hg hst h0
 · by_cases h1 : bn < ln
   · exact Writes_c2 la ln lc xs ba bn bc bs sta stn stc sts w R hv hl hc hg hst h0 h1
   · by_cases h2 : stn < ln
     · exact Writes_c3 la ln lc xs ba bn bc bs sta stn stc sts w R hv hl hc hg hst h0 h1 h2
     · exact Writes_yes la ln lc xs ba bn bc bs sta stn stc sts w R hv hl hc hg hst h0 h1 h2
end Go.Proofs.YtjmibgomkgkhnaaGreat
