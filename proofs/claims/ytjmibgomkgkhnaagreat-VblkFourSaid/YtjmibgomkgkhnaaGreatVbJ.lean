/-
 VblkFour (layer 9): four requests wait at most, and each is told of once.
-/
import Derived.Test.YtjmibgomkgkhnaaGreatVbZ
import Derived.Test.YtjmibgomkgkhnaaGreatEq
set_option maxRecDepth 100000
set_option maxHeartbeats 64000000
set_option linter.unusedVariables false
set_option linter.unusedSimpArgs false
namespace Go
theorem u8_nat4 (n : Int) : ∃ a : Nat, a < 256 ∧ IntKind.u8.wrap n = (a : Nat) := by
 refine ⟨(n % 256).toNat, by omega, ?_⟩
 have : IntKind.u8.wrap n = n % 256 := by simp [IntKind.wrap, IntKind.bits, IntKind.signed]
 rw [this]; omega
end Go
namespace Go.Proofs.Qu
open Go Go.RowKit Go.Proofs.Nm
def FullW (R0 : List (Nat × Value × List Value)) (v0 v : Value) (R' : List (Nat × Value × List Value)) : Prop := v = v0 ∧ ∀ x ∈ R0, x ∈ R'
def FreeIs (g k : Nat) (free : List Nat) : Prop := g = 0 → free = (List.range 16).drop (3 * k)
def KIs (i k : Nat) : Prop := k = min i 4
def FrSt (w : World) (R : List (Nat × Value × List Value)) (Lx : List (Nat × Array Value)) (b5 b6 b8 b10 k f g : Nat) (D : Nat → List Nat) (wr : World) : Prop :=
 ∃ (vb vc fc cc sc cn2 c2 nf nc h0 h1 h2 h3 s0 s1 s2 s3 : Nat) (fa ca sa a2 : Option Addr) (b0 b1 b2 b3 : Bool) (ss : List (Value × List Nat)) (cs : List Wr) (M free : List Nat) (chs : List Chn) (Rk : List (Nat × Value × List Value)), Mem w wr (Lx ++ [(b10, #[.int .i64 0, .int .i64 16, .int .u16 f, .int .u16 f]), (b8, #[.slice sa 8 sc, .slice a2 cn2 c2]), (b6, #[.int .i64 0, .int .i64 16, .slice fa nf fc, .int .u16 k, .int .u16 g, .slice ca nc cc, .int .i64 500, .bool b0, .int .i64 h0, .bool false, .int .i64 s0, .bool b1, .int .i64 h1, .bool false, .int .i64 s1, .bool b2, .int .i64 h2, .bool false, .int .i64 s2, .bool b3, .int .i64 h3, .bool false, .int .i64 s3]), (b5, #[.slice (some ⟨vb, 0, none⟩) 1700 vc])]) Rk ∧ InM Rk vb 0 1700 vc M ∧ MF M k f D ∧ InQ Rk (.slice fa nf fc) (.slice ca nc cc) free chs ∧ OkQ 16 free chs ∧ ChF chs g k ∧ SlF g k b0 b1 b2 b3 h0 h1 h2 h3 s0 s1 s2 s3 ∧ DiskQ Rk (.slice sa 8 sc) (.slice a2 cn2 c2) ss cs ∧ ss.length = 8 ∧ cn2 ≤ f ∧ nf + 3 * (k - g) = 16 ∧ nc = k - g ∧ FreeIs g k free ∧ ∀ x ∈ R, x ∈ Rk
end Go.Proofs.Qu
namespace Go.Proofs.YtjmibgomkgkhnaaGreat
open Go.Proofs.Qu Go.Proofs.Nm Go.RowKit Go.Proofs
theorem built_zr4 : Tryz.prog.built 56 [] = some #[.bool false, .int .i64 0, .bool false, .int .i64 0, .bool false, .int .i64 0, .bool false, .int .i64 0, .bool false, .int .i64 0, .bool false, .int .i64 0, .bool false, .int .i64 0, .bool false, .int .i64 0] := by kernel_rfl
theorem eqA4R (w : World) : (Op.equalIn 10000 56 (.agg #[.bool false, .int .i64 0, .bool false, .int .i64 0, .bool false, .int .i64 0, .bool false, .int .i64 0, .bool false, .int .i64 0, .bool false, .int .i64 0, .bool false, .int .i64 0, .bool false, .int .i64 0]) (.agg #[.bool false, .int .i64 0, .bool false, .int .i64 0, .bool false, .int .i64 0, .bool false, .int .i64 0, .bool false, .int .i64 0, .bool false, .int .i64 0, .bool false, .int .i64 0, .bool false, .int .i64 0])).run Tryz.prog w = .ok true w := by
 obtain ⟨i, hi⟩ : ∃ i, Tryz.prog.info? 55 = some i := by
   have h1 : (Tryz.prog.info? 55).isSome = true := by kernel_rfl
   exact Option.isSome_iff_exists.1 h1
 have hp : ∀ k, k < 4 → (part 55 #[.bool false, .int .i64 0, .bool false, .int .i64 0, .bool false, .int .i64 0, .bool false, .int .i64 0, .bool false, .int .i64 0, .bool false, .int .i64 0, .bool false, .int .i64 0, .bool false, .int .i64 0] (k * 4)).run Tryz.prog w = .ok (.agg #[.bool false, .int .i64 0, .bool false, .int .i64 0]) w := fun k hk => by
   rw [run_part_agg w _ 4 _ _ _ Tryz.underlying55 rfl infoRq4]
   rcases (show k = 0 ∨ k = 1 ∨ k = 2 ∨ k = 3 from by omega) with rfl | rfl | rfl | rfl <;> rfl
 have h := run_eqArr (P := Tryz.prog) w 9999 56 4 55 #[.bool false, .int .i64 0, .bool false, .int .i64 0, .bool false, .int .i64 0, .bool false, .int .i64 0, .bool false, .int .i64 0, .bool false, .int .i64 0, .bool false, .int .i64 0, .bool false, .int .i64 0] #[.bool false, .int .i64 0, .bool false, .int .i64 0, .bool false, .int .i64 0, .bool false, .int .i64 0, .bool false, .int .i64 0, .bool false, .int .i64 0, .bool false, .int .i64 0, .bool false, .int .i64 0] (fun _ => true) i Tryz.underlying56 hi (fun k hk => by
   have e : Tryz.prog.cellsOf 55 = 4 := by kernel_rfl
   rw [e]
   exact ⟨_, _, hp k hk, hp k hk, eqRq0 w 9997⟩)
 rw [h]; rfl
theorem Write_fullW {w0 w : World} {L : List (Nat × Array Value)} {R R0 : List (Nat × Value × List Value)} (hv : Mem w0 w L R) (hR : ∀ x ∈ R0, x ∈ R) {av la fn fc cn cc : Nat} {fa ca : Option Addr} {free : List Nat} {chs : List Chn} {b0 b1 b2 b3 f0 f1 f2 f3 : Bool} {h0 h1 h2 h3 s0 s1 s2 s3 : Nat} {mb mc db do_ dc s_ : Nat} (hq : BlkQ R0 (.slice fa fn fc) (.slice ca cn cc) free chs [(b0, h0, f0, (s0 : Int)), (b1, h1, f1, (s1 : Int)), (b2, h2, f2, (s2 : Int)), (b3, h3, f3, (s3 : Int))]) (hix : idxF (fun r : Rq => !r.1) [(b0, h0, f0, (s0 : Int)), (b1, h1, f1, (s1 : Int)), (b2, h2, f2, (s2 : Int)), (b3, h3, f3, (s3 : Int))] = -1) (hs : s_ < 256) :
   Calls Tryz.prog 20 #[.agg #[.slice (some ⟨mb, 0, none⟩) 1700 mc], .agg #[.int .i64 0, .int .i64 16, .slice fa fn fc, .int .u16 av, .int .u16 la, .slice ca cn cc, .int .i64 500, .bool b0, .int .i64 h0, .bool f0, .int .i64 s0, .bool b1, .int .i64 h1, .bool f1, .int .i64 s1, .bool b2, .int .i64 h2, .bool f2, .int .i64 s2, .bool b3, .int .i64 h3, .bool f3, .int .i64 s3], .int .i64 s_, .slice (some ⟨db, do_, none⟩) 256 dc] w fun e w' => ∃ v R', e = .returned v ∧ FullW R0 (.tuple #[.agg #[.slice (some ⟨mb, 0, none⟩) 1700 mc], .agg #[.int .i64 0, .int .i64 16, .slice fa fn fc, .int .u16 av, .int .u16 la, .slice ca cn cc, .int .i64 500, .bool b0, .int .i64 h0, .bool f0, .int .i64 s0, .bool b1, .int .i64 h1, .bool f1, .int .i64 s1, .bool b2, .int .i64 h2, .bool f2, .int .i64 s2, .bool b3, .int .i64 h3, .bool f3, .int .i64 s3], .int .i64 0, .int .i64 4]) v R' ∧ Mem w0 w' L R' ∧ ∀ x ∈ R, x ∈ R' := by
 refine (Write_full hv (hq.mono hR) hix hs).mono ?_
 rintro e w' ⟨rfl, hv1⟩
 exact ⟨_, R, rfl, ⟨rfl, hR⟩, hv1, fun x hx => hx⟩
theorem Four_c1 (ba : Option Addr) (bn bc : Nat) (bs : List Nat) (st : Int) (w : World) (R : List (Nat × Value × List Value)) (hv : Mem w w [] R) (hc : (1, .slice ba bn bc, cellsB bs) ∈ R) (hg : goodB bs) (h0 : 8 < bn) : Calls Tryz.prog 5 #[.slice ba bn bc, .int .i64 st] w (fun e w' => e = .returned (.bool true) ∧ New w w') := by
 have y0 : decide ((8 : Int) < (bn : Int)) = true := decide_eq_true (by omega)
 have z0 : decide (8 < bn) = true := decide_eq_true (by omega)
 clear hc hg h0
 go_enter Tryz.func5, Tryz.ntmps5
 try simp only [List.append_eq, List.cons_append, List.nil_append]
 go_wp2_with (first
   | ((with_reducible refine at_mkslice (T := 24) ?_); refine wl_mkz rfl 1700 rfl rfl (by decide) ?_; intro bz w2 hm2; have hv1 := Mem.yield (L1 := []) (hv.madeAt hm2) (zeros_row bz 1700 (by decide)); simp only [List.nil_append] at hv1; replace hv := hv1; clear hv1 hm2; have HMZ : Hid (InM ((1, .slice (some ⟨bz, 0, none⟩) 1700 1700, cellsB (List.replicate 1700 0)) :: R) bz 0 1700 1700 (List.replicate 1700 0)) := Lib.hid ⟨Mem.z, List.length_replicate, by decide, by decide, zeros_good 1700⟩)
   | ((with_reducible refine at_build (T := 26) ?_); refine wl_build rfl _ rfl (built_mem _ _ _) ?_)
   | (go_at_call 17; (refine (BNew_K hv HMZ.out).mono ?_); rintro e w1 ⟨vb, vc, fa, fc, R1, rfl, hv1, hm1, hq1, ho1, hs1⟩; rw [zeros_put] at hm1; replace hv := hv1; have HM1 := Lib.hid hm1; have HQ1 := Lib.hid hq1; have HO1 := Lib.hid ho1; have HS1 := Lib.hid hs1; clear hv1 hm1 hq1 ho1 hs1)
   | ((with_reducible refine at_alloc (T := 26) (dst := some 5) ?_); refine wl_newb rfl #[.slice none 0 0] 26 (fun _ => rfl) ?_; intro b_5 w2 hm2; replace hv := hv.madeAt hm2; clear hm2)
   | ((with_reducible refine at_alloc (T := 58) (dst := some 6) ?_); refine wl_newb rfl #[.int .i64 0, .int .i64 0, .slice none 0 0, .int .u16 0, .int .u16 0, .slice none 0 0, .int .i64 0, .bool false, .int .i64 0, .bool false, .int .i64 0, .bool false, .int .i64 0, .bool false, .int .i64 0, .bool false, .int .i64 0, .bool false, .int .i64 0, .bool false, .int .i64 0, .bool false, .int .i64 0] 58 (fun _ => rfl) ?_; intro b_6 w2 hm2; replace hv := hv.madeAt hm2; clear hm2)
   | ((with_reducible refine at_store (T := 26) ?_); refine wl_stv rfl b_5 rfl _ rfl _ hv.vars.ro hv.vars.so 1 infoM rfl rfl (by simp [Value.oneCell']) ?_; intro w2 hw2; replace hv := hv.sets (by repeat first | exact .z | apply SetM.s) hw2; clear hw2)
   | ((with_reducible refine at_store (T := 58) ?_); refine wl_stv rfl b_6 rfl _ rfl _ hv.vars.ro hv.vars.so 23 infoBk23 rfl rfl (by simp [Value.oneCell']) ?_; intro w2 hw2; replace hv := hv.sets (by repeat first | exact .z | apply SetM.s) hw2; clear hw2)
   | (go_at_call 18; (refine (RDNew_ok hv 8 (by decide) (by decide)).mono ?_); rintro e w1 ⟨sa, sc, ss, R2, rfl, hv1, hd1, hsl, hs1⟩; replace hv := hv1; have HD2 := Lib.hid hd1; have HSL := Lib.hid hsl; have HS2 := Lib.hid hs1; clear hv1 hd1 hsl hs1)
   | ((with_reducible refine at_alloc (T := 63) (dst := some 8) ?_); refine wl_newb rfl #[.slice none 0 0, .slice none 0 0] 63 (fun _ => rfl) ?_; intro b_8 w2 hm2; replace hv := hv.madeAt hm2; clear hm2)
   | ((with_reducible refine at_store (T := 63) ?_); refine wl_stv rfl b_8 rfl _ rfl _ hv.vars.ro hv.vars.so 2 infoD2 rfl rfl (by simp [Value.oneCell']) ?_; intro w2 hw2; replace hv := hv.sets (by repeat first | exact .z | apply SetM.s) hw2; clear hw2)
   | (go_at_call 9; (refine (RServe16 _).mono ?_); rintro e w1 ⟨rfl, hn1⟩; replace hv := hv.new hn1; clear hn1)
   | ((with_reducible refine at_alloc (T := 38) (dst := some 10) ?_); refine wl_newb rfl #[.int .i64 0, .int .i64 0, .int .u16 0, .int .u16 0] 38 (fun _ => rfl) ?_; intro b_10 w2 hm2; replace hv := hv.madeAt hm2; clear hm2)
   | ((with_reducible refine at_store (T := 38) ?_); refine wl_stv rfl b_10 rfl _ rfl _ hv.vars.ro hv.vars.so 4 infoS4 rfl rfl (by simp [Value.oneCell']) ?_; intro w2 hw2; replace hv := hv.sets (by repeat first | exact .z | apply SetM.s) hw2; clear hw2)
   | (go_at_call 19; (with_reducible refine (heads09 _).mono ?_); rintro e w1 ⟨rfl, hn1⟩; replace hv := hv.new hn1; clear hn1))
 go_ret
 exact ⟨rfl, hv.below⟩
theorem Four_yes (ba : Option Addr) (bn bc : Nat) (bs : List Nat) (st : Int) (w : World) (R : List (Nat × Value × List Value)) (hv : Mem w w [] R) (hc : (1, .slice ba bn bc, cellsB bs) ∈ R) (hg : goodB bs) (h0 : ¬ 8 < bn) : Calls Tryz.prog 5 #[.slice ba bn bc, .int .i64 st] w (fun e w' => e = .returned (.bool true) ∧ New w w') := by
 have hbn : bs.length = bn := by
   obtain ⟨_, _, _, e, g, _⟩ := hv.rd hc
   cases e
   rw [cellsB_len] at g; omega
 have HC0 := Lib.hid hc
 have HG := Lib.hid hg
 have HBN := Lib.hid hbn
 have HB8 : Hid (bn ≤ 8) := Lib.hid (by omega)
 have y0 : decide ((8 : Int) < (bn : Int)) = false := decide_eq_false (by omega)
 have z0 : decide (8 < bn) = false := decide_eq_false (by omega)
 obtain ⟨D, hD⟩ : ∃ D : Nat → List Nat, D = fun i => List.replicate 256 (bs.getD i 0) := ⟨_, rfl⟩
 have HDD := Lib.hid hD
 clear hc hg hbn h0 hD
 go_enter Tryz.func5, Tryz.ntmps5
 try simp only [List.append_eq, List.cons_append, List.nil_append]
 go_wp2_with (first
   | ((with_reducible refine at_mkslice (T := 24) ?_); refine wl_mkz rfl 1700 rfl rfl (by decide) ?_; intro bz w2 hm2; have hv1 := Mem.yield (L1 := []) (hv.madeAt hm2) (zeros_row bz 1700 (by decide)); simp only [List.nil_append] at hv1; replace hv := hv1; clear hv1 hm2; have HMZ : Hid (InM ((1, .slice (some ⟨bz, 0, none⟩) 1700 1700, cellsB (List.replicate 1700 0)) :: R) bz 0 1700 1700 (List.replicate 1700 0)) := Lib.hid ⟨Mem.z, List.length_replicate, by decide, by decide, zeros_good 1700⟩)
   | ((with_reducible refine at_build (T := 26) ?_); refine wl_build rfl _ rfl (built_mem _ _ _) ?_)
   | (go_at_call 17; (refine (BNew_K hv HMZ.out).mono ?_); rintro e w1 ⟨vb, vc, fa, fc, R1, rfl, hv1, hm1, hq1, ho1, hs1⟩; rw [zeros_put] at hm1; replace hv := hv1; have HM1 := Lib.hid hm1; have HQ1 := Lib.hid hq1; have HO1 := Lib.hid ho1; have HS1 := Lib.hid hs1; clear hv1 hm1 hq1 ho1 hs1)
   | ((with_reducible refine at_alloc (T := 26) (dst := some 5) ?_); refine wl_newb rfl #[.slice none 0 0] 26 (fun _ => rfl) ?_; intro b_5 w2 hm2; replace hv := hv.madeAt hm2; clear hm2)
   | ((with_reducible refine at_alloc (T := 58) (dst := some 6) ?_); refine wl_newb rfl #[.int .i64 0, .int .i64 0, .slice none 0 0, .int .u16 0, .int .u16 0, .slice none 0 0, .int .i64 0, .bool false, .int .i64 0, .bool false, .int .i64 0, .bool false, .int .i64 0, .bool false, .int .i64 0, .bool false, .int .i64 0, .bool false, .int .i64 0, .bool false, .int .i64 0, .bool false, .int .i64 0] 58 (fun _ => rfl) ?_; intro b_6 w2 hm2; replace hv := hv.madeAt hm2; clear hm2)
   | ((with_reducible refine at_store (T := 26) ?_); refine wl_stv rfl b_5 rfl _ rfl _ hv.vars.ro hv.vars.so 1 infoM rfl rfl (by simp [Value.oneCell']) ?_; intro w2 hw2; replace hv := hv.sets (by repeat first | exact .z | apply SetM.s) hw2; clear hw2)
   | ((with_reducible refine at_store (T := 58) ?_); refine wl_stv rfl b_6 rfl _ rfl _ hv.vars.ro hv.vars.so 23 infoBk23 rfl rfl (by simp [Value.oneCell']) ?_; intro w2 hw2; replace hv := hv.sets (by repeat first | exact .z | apply SetM.s) hw2; clear hw2)
   | (go_at_call 18; (refine (RDNew_ok hv 8 (by decide) (by decide)).mono ?_); rintro e w1 ⟨sa, sc, ss, R2, rfl, hv1, hd1, hsl, hs1⟩; replace hv := hv1; have HD2 := Lib.hid hd1; have HSL := Lib.hid hsl; have HS2 := Lib.hid hs1; clear hv1 hd1 hsl hs1)
   | ((with_reducible refine at_alloc (T := 63) (dst := some 8) ?_); refine wl_newb rfl #[.slice none 0 0, .slice none 0 0] 63 (fun _ => rfl) ?_; intro b_8 w2 hm2; replace hv := hv.madeAt hm2; clear hm2)
   | ((with_reducible refine at_store (T := 63) ?_); refine wl_stv rfl b_8 rfl _ rfl _ hv.vars.ro hv.vars.so 2 infoD2 rfl rfl (by simp [Value.oneCell']) ?_; intro w2 hw2; replace hv := hv.sets (by repeat first | exact .z | apply SetM.s) hw2; clear hw2)
   | (go_at_call 9; (refine (RServe16 _).mono ?_); rintro e w1 ⟨rfl, hn1⟩; replace hv := hv.new hn1; clear hn1)
   | ((with_reducible refine at_alloc (T := 38) (dst := some 10) ?_); refine wl_newb rfl #[.int .i64 0, .int .i64 0, .int .u16 0, .int .u16 0] 38 (fun _ => rfl) ?_; intro b_10 w2 hm2; replace hv := hv.madeAt hm2; clear hm2)
   | ((with_reducible refine at_store (T := 38) ?_); refine wl_stv rfl b_10 rfl _ rfl _ hv.vars.ro hv.vars.so 4 infoS4 rfl rfl (by simp [Value.oneCell']) ?_; intro w2 hw2; replace hv := hv.sets (by repeat first | exact .z | apply SetM.s) hw2; clear hw2))
 clear y0 z0
 go_loopw [12] (fun iv wr => ∃ (i k : Nat), i ≤ bn ∧ KIs i k ∧ iv = .int .i64 i ∧ FrSt w R [] b_5 b_6 b_8 b_10 k 0 0 D wr) (fun iv _ => bn - (intOf iv).toNat)
 case atStart => exact ⟨0, 0, Nat.zero_le _, (by unfold KIs; omega), rfl, vb, vc, fc, 0, sc, 0, 0, 16, 0, 0, 0, 0, 0, 0, 0, 0, 0, fa, none, sa, none, false, false, false, false, ss, [], List.replicate 1700 0, List.range 16, [], R2, hv, HM1.out.mono HS2.out, MF.new D, HQ1.out.mono HS2.out, HO1.out, rfl, ⟨SlE.zero, SlE.zero, SlE.zero, SlE.zero⟩, HD2.out, HSL.out, Nat.le_refl _, rfl, rfl, (fun _ => rfl), fun x hx => HS2.out x (HS1.out x (Mem.s hx))⟩
 case round =>
   clear hv HM1 HQ1 HO1 HD2 HSL HS1 HS2 HMZ
   obtain ⟨i, k, hi0, hk, rfl, hst⟩ := hrel
   unfold KIs at hk
   obtain ⟨vb, vc, fc, cc, sc, cn2, c2, nf, nc, h0, h1, h2, h3, s0, s1, s2, s3, fa, ca, sa, a2, b0, b1, b2, b3, ss, cs, M, free, chs, Rk, hv, hm, hmf, hq, ho, hch, hsf, hd_, hsl, hcn, hnf, hnc, hfr, hrk⟩ := hst
   simp only [List.cons_append, List.nil_append] at hv
   have HM := Lib.hid hm
   have HMF := Lib.hid hmf
   have HQ := Lib.hid hq
   have HO := Lib.hid ho
   have HCH := Lib.hid hch
   have HSF := Lib.hid hsf
   have HD := Lib.hid hd_
   have HSL := Lib.hid hsl
   have HCN := Lib.hid hcn
   have HNF0 := Lib.hid hnf
   have HNC0 := Lib.hid hnc
   have HFR := Lib.hid hfr
   have HRK := Lib.hid hrk
   clear hm hmf hq ho hch hsf hd_ hsl hcn hnf hnc hfr hrk
   by_cases hi : i < bn
   · have hki : (i : Int) < (bn : Int) := by omega
     have hi8 : (i : Int) < 8 := by have := HB8.out; omega
     obtain ⟨i1, hi1⟩ : ∃ i1, i + 1 = i1 := ⟨_, rfl⟩
     have HI1 := Lib.hid hi1
     have HI5 : Hid (i < 65535) := Lib.hid (by omega)
     have HI256 : Hid (i < 256) := Lib.hid (by omega)
     have HIB := Lib.hid hi
     obtain ⟨c, hcx⟩ : ∃ c, bs[i]'(by rw [HBN.out]; exact hi) = c := ⟨_, rfl⟩
     have HC256 : Hid (c < 256) := Lib.hid (by rw [← hcx]; exact HG.out _ (List.getElem_mem _))
     have HCK : Hid ((cellsB bs)[i]? = some (.int .u8 c)) := Lib.hid (by unfold cellsB; rw [List.getElem?_map, List.getElem?_eq_getElem (by rw [HBN.out]; exact hi), hcx]; rfl)
     have HDC : Hid (List.replicate 256 c = D i) := Lib.hid (by rw [HDD.out, ← hcx]; show _ = List.replicate 256 (bs.getD i 0); rw [List.getD_eq_getElem?_getD, List.getElem?_eq_getElem (by rw [HBN.out]; exact hi)]; rfl)
     have HDL : Hid ((D i).length = 256) := Lib.hid (by rw [← HDC.out, List.length_replicate])
     have HDG : Hid (goodB (D i)) := Lib.hid (by rw [← HDC.out]; exact sec_good HC256.out)
     have HC := Lib.hid (HRK.out _ HC0.out)
     have HB := Lib.hid (HSF.out.blk (Nat.zero_le _) (by omega) HQ.out HO.out HCH.out)
     obtain ⟨yb, yo, _, _, e, hq9⟩ := (hv.rd HC.out).some (by rw [cellsB_len, HBN.out]; omega)
     clear hq9
     cases e
     clear hcx hi hi0 hi1
     by_cases h4 : i < 4
     · obtain rfl : i = k := by omega
       have y4 : decide ((i : Int) < 4) = true := decide_eq_true (by omega)
       have z4 : decide (i < 4) = true := decide_eq_true (by omega)
       have H4 := Lib.hid h4
       obtain ⟨hd, hhd⟩ : ∃ h, 3 * i = h := ⟨_, rfl⟩
       obtain ⟨p, hp⟩ : ∃ p, 500 + 288 * i = p := ⟨_, rfl⟩
       obtain ⟨pd, hpd⟩ : ∃ pd, p + 16 = pd := ⟨_, rfl⟩
       obtain ⟨ps, hps⟩ : ∃ ps, p + 272 = ps := ⟨_, rfl⟩
       obtain ⟨nf1, hnf1⟩ : ∃ n, nf = n + 3 := ⟨nf - 3, by have := HNF0.out; omega⟩
       obtain ⟨nc1, hnc1⟩ : ∃ n, nc + 1 = n := ⟨_, rfl⟩
       have HP := Lib.hid hp
       have HPD := Lib.hid hpd
       have HPS := Lib.hid hps
       have HNF := Lib.hid hnf1
       have HNC := Lib.hid hnc1
       have HH9 := Lib.hid hhd
       have HH3 : Hid (hd = 3 * i) := Lib.hid hhd.symm
       obtain ⟨j, ron, hji, HRN, HRA, HWR, HEN⟩ : ∃ (j : Int) (ron : Option Addr → Nat → Option Addr → Nat → Array Value), j = (i : Nat) ∧ Hid (∀ fa5 fc5 ca5 cc5, (ron fa5 fc5 ca5 cc5).size = 23) ∧ Hid (∀ fa5 fc5 ca5 cc5, (ron fa5 fc5 ca5 cc5).all (·.oneCell') = true) ∧ Hid (∀ (w0 w : World) (L : List (Nat × Array Value)) (R' : List (Nat × Value × List Value)), Mem w0 w L R' → (∀ x ∈ Rk, x ∈ R') → ∀ b, (1, Value.slice (some ⟨b, 0, none⟩) 256 256, cellsB (D i)) ∈ R' → Calls Tryz.prog 20 #[.agg #[.slice (some ⟨vb, 0, none⟩) 1700 vc], .agg #[.int .i64 0, .int .i64 16, .slice fa nf fc, .int .u16 i, .int .u16 (0 : Nat), .slice ca nc cc, .int .i64 500, .bool b0, .int .i64 h0, .bool false, .int .i64 s0, .bool b1, .int .i64 h1, .bool false, .int .i64 s1, .bool b2, .int .i64 h2, .bool false, .int .i64 s2, .bool b3, .int .i64 h3, .bool false, .int .i64 s3], .int .i64 i, .slice (some ⟨b, 0, none⟩) 256 256] w fun e w' => ∃ v R2, e = .returned v ∧ WrW Rk ron j (addM (askM M p 1 i (D i)) 0 16 i free [(p, 16, false), (pd, 256, false), (ps, 1, true)]) nf1 nc1 3 free chs hd v R2 ∧ Mem w0 w' L R2 ∧ ∀ x ∈ R', x ∈ R2) ∧ Hid (∀ fa5 fc5 ca5 cc5, ∃ (c0 c1 c2 c3 : Bool) (k0 k1 k2 k3 t0 t1 t2 t3 : Nat), ron fa5 fc5 ca5 cc5 = #[.int .i64 0, .int .i64 16, .slice fa5 nf1 fc5, .int .u16 i1, .int .u16 (0 : Nat), .slice ca5 nc1 cc5, .int .i64 500, .bool c0, .int .i64 k0, .bool false, .int .i64 t0, .bool c1, .int .i64 k1, .bool false, .int .i64 t1, .bool c2, .int .i64 k2, .bool false, .int .i64 t2, .bool c3, .int .i64 k3, .bool false, .int .i64 t3] ∧ SlF 0 i1 c0 c1 c2 c3 k0 k1 k2 k3 t0 t1 t2 t3) := by
         rcases (show i = 0 ∨ i = 1 ∨ i = 2 ∨ i = 3 from by omega) with hj | hj | hj | hj
         · exact ⟨0, fun fa5 fc5 ca5 cc5 => #[.int .i64 0, .int .i64 16, .slice fa5 nf1 fc5, .int .u16 i1, .int .u16 (0 : Nat), .slice ca5 nc1 cc5, .int .i64 500, .bool true, .int .i64 hd, .bool false, .int .i64 i, .bool b1, .int .i64 h1, .bool false, .int .i64 s1, .bool b2, .int .i64 h2, .bool false, .int .i64 s2, .bool b3, .int .i64 h3, .bool false, .int .i64 s3], by rw [hj]; rfl, Lib.hid (fun _ _ _ _ => rfl), Lib.hid (fun _ _ _ _ => by simp [Value.oneCell']), Lib.hid (fun w0 w L R' hm hs b hr => Write_0W (R0 := Rk) (f0 := false) (f1 := false) (f2 := false) (f3 := false) (free := free) (chs := chs) (av := i) (la := 0) (fn := nf) (cn := nc) (nf1 := nf1) (nc1 := nc1) (av1 := i1) (hd := hd) (s_ := i) (p := p) (pd := pd) (ps := ps) (M := M) (D := (D i)) hm hs HM.out HB.out (by omega) HPD.out HPS.out ((HSF.out.free (by omega)).trans (by rw [hj]; rfl)) HI256.out HI5.out HI1.out HNF.out HNC.out (by rw [HFR.out rfl, ← HH9.out, hj]; rfl) hr HDG.out), Lib.hid (fun fa5 fc5 ca5 cc5 => ⟨true, b1, b2, b3, hd, h1, h2, h3, i, s1, s2, s3, rfl, ⟨(by have h9 := SlE.now (g := 0) (k := i) (Nat.zero_le _) HH3.out; rw [HI1.out] at h9; have e9 := hj; subst e9; exact h9), (by have h9 := HSF.out.e1.more (by omega); rw [HI1.out] at h9; exact h9), (by have h9 := HSF.out.e2.more (by omega); rw [HI1.out] at h9; exact h9), (by have h9 := HSF.out.e3.more (by omega); rw [HI1.out] at h9; exact h9)⟩⟩)⟩
         · exact ⟨1, fun fa5 fc5 ca5 cc5 => #[.int .i64 0, .int .i64 16, .slice fa5 nf1 fc5, .int .u16 i1, .int .u16 (0 : Nat), .slice ca5 nc1 cc5, .int .i64 500, .bool b0, .int .i64 h0, .bool false, .int .i64 s0, .bool true, .int .i64 hd, .bool false, .int .i64 i, .bool b2, .int .i64 h2, .bool false, .int .i64 s2, .bool b3, .int .i64 h3, .bool false, .int .i64 s3], by rw [hj]; rfl, Lib.hid (fun _ _ _ _ => rfl), Lib.hid (fun _ _ _ _ => by simp [Value.oneCell']), Lib.hid (fun w0 w L R' hm hs b hr => Write_1W (R0 := Rk) (f0 := false) (f1 := false) (f2 := false) (f3 := false) (free := free) (chs := chs) (av := i) (la := 0) (fn := nf) (cn := nc) (nf1 := nf1) (nc1 := nc1) (av1 := i1) (hd := hd) (s_ := i) (p := p) (pd := pd) (ps := ps) (M := M) (D := (D i)) hm hs HM.out HB.out (by omega) HPD.out HPS.out ((HSF.out.free (by omega)).trans (by rw [hj]; rfl)) HI256.out HI5.out HI1.out HNF.out HNC.out (by rw [HFR.out rfl, ← HH9.out, hj]; rfl) hr HDG.out), Lib.hid (fun fa5 fc5 ca5 cc5 => ⟨b0, true, b2, b3, h0, hd, h2, h3, s0, i, s2, s3, rfl, ⟨(by have h9 := HSF.out.e0.more (by omega); rw [HI1.out] at h9; exact h9), (by have h9 := SlE.now (g := 0) (k := i) (Nat.zero_le _) HH3.out; rw [HI1.out] at h9; have e9 := hj; subst e9; exact h9), (by have h9 := HSF.out.e2.more (by omega); rw [HI1.out] at h9; exact h9), (by have h9 := HSF.out.e3.more (by omega); rw [HI1.out] at h9; exact h9)⟩⟩)⟩
         · exact ⟨2, fun fa5 fc5 ca5 cc5 => #[.int .i64 0, .int .i64 16, .slice fa5 nf1 fc5, .int .u16 i1, .int .u16 (0 : Nat), .slice ca5 nc1 cc5, .int .i64 500, .bool b0, .int .i64 h0, .bool false, .int .i64 s0, .bool b1, .int .i64 h1, .bool false, .int .i64 s1, .bool true, .int .i64 hd, .bool false, .int .i64 i, .bool b3, .int .i64 h3, .bool false, .int .i64 s3], by rw [hj]; rfl, Lib.hid (fun _ _ _ _ => rfl), Lib.hid (fun _ _ _ _ => by simp [Value.oneCell']), Lib.hid (fun w0 w L R' hm hs b hr => Write_2W (R0 := Rk) (f0 := false) (f1 := false) (f2 := false) (f3 := false) (free := free) (chs := chs) (av := i) (la := 0) (fn := nf) (cn := nc) (nf1 := nf1) (nc1 := nc1) (av1 := i1) (hd := hd) (s_ := i) (p := p) (pd := pd) (ps := ps) (M := M) (D := (D i)) hm hs HM.out HB.out (by omega) HPD.out HPS.out ((HSF.out.free (by omega)).trans (by rw [hj]; rfl)) HI256.out HI5.out HI1.out HNF.out HNC.out (by rw [HFR.out rfl, ← HH9.out, hj]; rfl) hr HDG.out), Lib.hid (fun fa5 fc5 ca5 cc5 => ⟨b0, b1, true, b3, h0, h1, hd, h3, s0, s1, i, s3, rfl, ⟨(by have h9 := HSF.out.e0.more (by omega); rw [HI1.out] at h9; exact h9), (by have h9 := HSF.out.e1.more (by omega); rw [HI1.out] at h9; exact h9), (by have h9 := SlE.now (g := 0) (k := i) (Nat.zero_le _) HH3.out; rw [HI1.out] at h9; have e9 := hj; subst e9; exact h9), (by have h9 := HSF.out.e3.more (by omega); rw [HI1.out] at h9; exact h9)⟩⟩)⟩
         · exact ⟨3, fun fa5 fc5 ca5 cc5 => #[.int .i64 0, .int .i64 16, .slice fa5 nf1 fc5, .int .u16 i1, .int .u16 (0 : Nat), .slice ca5 nc1 cc5, .int .i64 500, .bool b0, .int .i64 h0, .bool false, .int .i64 s0, .bool b1, .int .i64 h1, .bool false, .int .i64 s1, .bool b2, .int .i64 h2, .bool false, .int .i64 s2, .bool true, .int .i64 hd, .bool false, .int .i64 i], by rw [hj]; rfl, Lib.hid (fun _ _ _ _ => rfl), Lib.hid (fun _ _ _ _ => by simp [Value.oneCell']), Lib.hid (fun w0 w L R' hm hs b hr => Write_3W (R0 := Rk) (f0 := false) (f1 := false) (f2 := false) (f3 := false) (free := free) (chs := chs) (av := i) (la := 0) (fn := nf) (cn := nc) (nf1 := nf1) (nc1 := nc1) (av1 := i1) (hd := hd) (s_ := i) (p := p) (pd := pd) (ps := ps) (M := M) (D := (D i)) hm hs HM.out HB.out (by omega) HPD.out HPS.out ((HSF.out.free (by omega)).trans (by rw [hj]; rfl)) HI256.out HI5.out HI1.out HNF.out HNC.out (by rw [HFR.out rfl, ← HH9.out, hj]; rfl) hr HDG.out), Lib.hid (fun fa5 fc5 ca5 cc5 => ⟨b0, b1, b2, true, h0, h1, h2, hd, s0, s1, s2, i, rfl, ⟨(by have h9 := HSF.out.e0.more (by omega); rw [HI1.out] at h9; exact h9), (by have h9 := HSF.out.e1.more (by omega); rw [HI1.out] at h9; exact h9), (by have h9 := HSF.out.e2.more (by omega); rw [HI1.out] at h9; exact h9), (by have h9 := SlE.now (g := 0) (k := i) (Nat.zero_le _) HH3.out; rw [HI1.out] at h9; have e9 := hj; subst e9; exact h9)⟩⟩)⟩
       have yj : (j == (i : Int)) = true := by rw [beq_iff_eq]; exact hji
       have yj2 : (j != (i : Int)) = false := by rw [bne, yj]; rfl
       obtain ⟨ro, hro⟩ : ∃ ro : Array Value, ro = #[.int .i64 0, .int .i64 16, .slice fa nf fc, .int .u16 i, .int .u16 (0 : Nat), .slice ca nc cc, .int .i64 500, .bool b0, .int .i64 h0, .bool false, .int .i64 s0, .bool b1, .int .i64 h1, .bool false, .int .i64 s1, .bool b2, .int .i64 h2, .bool false, .int .i64 s2, .bool b3, .int .i64 h3, .bool false, .int .i64 s3] := ⟨_, rfl⟩
       have HRS : Hid (ro.size = 23) := Lib.hid (by rw [hro]; rfl)
       rw [← hro] at hv HWR
       clear hk h4 hhd hp hpd hps hnf1 hnc1 hji hro
       have HSS : Hid (∃ v R', SecW c v R') := Lib.hid (Bny.some_of (sector_W hv (fun x hx => hx) c rfl))
       have HSW : Hid (∃ v R', WrW Rk ron j (addM (askM M p 1 i (D i)) 0 16 i free [(p, 16, false), (pd, 256, false), (ps, 1, true)]) nf1 nc1 3 free chs hd v R') := Lib.hid (some_sec hv c fun w1 R1 b hm hs hr => Bny.some_of (HWR.out _ _ _ _ hm hs _ (by rw [HDC.out] at hr; exact hr)))
       go_wp2
       replace hv : Mem w _ ([(b_10, _), (b_8, _), (b_6, ro), (b_5, _)] ++ []) Rk := hv
       try simp only [Act.put]
       refine Bny.wp_region_walk _ _ [⟨[1003], none⟩, ⟨[1002], none⟩, ⟨[], none⟩, ⟨[], none⟩, ⟨[], none⟩, ⟨[], none⟩, ⟨[], none⟩, ⟨[], some 7⟩, ⟨[7], some 8⟩, ⟨[], none⟩, ⟨[], none⟩, ⟨[], none⟩, ⟨[], none⟩, ⟨[], none⟩, ⟨[], some 14⟩, ⟨[], some 15⟩, ⟨[14], some 14⟩, ⟨[15], some 15⟩, ⟨[], none⟩, ⟨[], none⟩] [.val, .val, .val, .val, .val, .val, .val, .mem (SecW c), .mem (WrW Rk ron j (addM (askM M p 1 i (D i)) 0 16 i free [(p, 16, false), (pd, 256, false), (ps, 1, true)]) nf1 nc1 3 free chs hd), .pure, .pure, .pure, .pure, .pure, .lay #[.slice none 0 0], .lay #[.int .i64 0, .int .i64 0, .slice none 0 0, .int .u16 0, .int .u16 0, .slice none 0 0, .int .i64 0, .bool false, .int .i64 0, .bool false, .int .i64 0, .bool false, .int .i64 0, .bool false, .int .i64 0, .bool false, .int .i64 0, .bool false, .int .i64 0, .bool false, .int .i64 0, .bool false, .int .i64 0], .put, .put, .pure, .pure] (by kernel_rfl) (by kernel_rfl) hv ?_
       simp only [List.length_cons, List.length_nil, Nat.zero_add, Any.someVals]
       iterate 20 apply Exists.intro
       repeat (first
         | (refine Bny.E_off rfl ?_; simp only [Act.put, sia, scs, scz])
         | ((with_reducible refine Bny.at_ealloc ?_); refine Bny.E_lay (t := 26) rfl rfl rfl (fun _ => rfl) ?_; intro b_13; simp only [Act.put, sia, scs, scz])
         | ((with_reducible refine Bny.at_ealloc ?_); refine Bny.E_lay (t := 58) rfl rfl rfl (fun _ => rfl) ?_; intro b_14; simp only [Act.put, sia, scs, scz])
         | ((with_reducible refine Bny.at_estore (T := 26) ?_); refine Bny.E_putv (T := 26) rfl rfl rfl rfl rfl rfl 1 infoM rfl rfl (by simp [Value.oneCell']) ?_; simp only [Act.put, sia, scs, scz])
         | ((with_reducible refine Bny.at_estore (T := 58) ?_); refine Bny.E_putv (T := 58) rfl rfl rfl rfl rfl rfl 23 infoBk23 (HRN.out _ _ _ _) rfl (HRA.out _ _ _ _) ?_; simp only [Act.put, sia, scs, scz])
         | ((with_reducible refine Bny.at_ecallf (f := 21) ?_); refine Bny.E_callmem rfl rfl rfl (Go.Proofs.enters_of Tryz.func21 (by kernel_rfl) rfl) rfl [.int .u8 c] rfl HSS.out [] (fun x hx => (List.not_mem_nil hx).elim) (fun w0 w L R' hm hs => sector_W (R0 := []) hm (fun x hx => (List.not_mem_nil hx).elim) c rfl) ?_; rintro v R8 ⟨sb_, rfl, hsr⟩; rw [HDC.out] at hsr; have HSR := Lib.hid hsr; clear hsr; simp only [Act.put, sia, scs, scz])
         | ((with_reducible refine Bny.at_ecallf (f := 20) ?_); refine Bny.E_callmem rfl rfl rfl (Go.Proofs.enters_of Tryz.func20 (by kernel_rfl) rfl) rfl [.agg #[.slice (some ⟨vb, 0, none⟩) 1700 vc], .agg ro, .int .i64 i, .slice (some ⟨sb_, 0, none⟩) 256 256] rfl HSW.out ((1, Value.slice (some ⟨sb_, 0, none⟩) 256 256, cellsB (D i)) :: Rk) (fun x hx => (List.mem_cons.1 hx).elim (fun e => .inr ⟨7, by decide, by rw [e]; exact HSR.out⟩) (fun h => .inl h)) (fun w0 w L R' hm hs => HWR.out _ _ _ _ hm (fun x hx => hs x (Mem.s hx)) _ (hs _ Mem.z)) ?_; rintro v R3 ⟨vb5, vc5, fa5, fc5, ca5, cc5, c5, rfl, hm5, hq5, ho5, k1_, k2_, k3_, hs5⟩; have HM5 := Lib.hid hm5; have HQ5 := Lib.hid hq5; have HO5 := Lib.hid ho5; have K1 := Lib.hid k1_; have K2 := Lib.hid k2_; have K3 := Lib.hid k3_; have HS5 := Lib.hid hs5; clear hm5 hq5 ho5 k1_ k2_ k3_ hs5; simp only [Act.put, sia, scs, scz])
         | (apply Bny.E_pureq rfl rfl rfl
            case h => intro K hK; go_big_quiet_op; (refine hK _ ?_; rfl)
            case hr => exact fun _ => rfl
            simp only [Act.put, sia, scs, scz])
         | (apply Bny.E_val rfl rfl rfl rfl
            case h =>
              intro E' hA K hK
              first
                | ((with_reducible refine Bny.at_qload (T := 26) ?_); refine Bny.q_ldv 1003 hA (by decide) rfl rfl 1 _ Tryz.underlying26 rfl infoM (by decide) rfl ?_; refine hK _ ?_; rfl)
                | ((with_reducible refine Bny.at_qload (T := 58) ?_); refine Bny.q_ldv 1002 hA (by decide) rfl rfl 23 _ Tryz.underlying58 rfl infoBk23 (by decide) HRS.out ?_; refine hK _ ?_; rfl)
                | ((with_reducible refine Bny.at_qload (T := 5) ?_); refine Bny.q_rd (.inl HC.out) hA i rfl _ Tryz.underlying5 rfl (.int .u8 c) HCK.out ?_; refine hK _ ?_; rfl)
                | (go_big_quiet_op; first
                  | (refine hK _ ?_; rfl)
                  | (refine ⟨_, fun _ _ => rfl, ?_⟩; refine hK _ ?_; rfl)
                  | (apply Exists.intro; refine ⟨fun w1 hw1 => ?_, ?_⟩; · (first
                      | fail)
                     refine hK _ ?_; rfl))
            case hD => rfl
            simp only [Act.put, sia, scs, scz]))
       try any_goals exact undef
       refine Bny.E_nil ?_
       intro w9 hE9
       replace hv : Mem w w9 ([(b_13, #[.slice (some ⟨vb5, 0, none⟩) 1700 vc5]), (b_14, ron fa5 fc5 ca5 cc5), (b_10, #[.int .i64 0, .int .i64 16, .int .u16 (0 : Nat), .int .u16 (0 : Nat)]), (b_8, #[.slice sa 8 sc, .slice a2 cn2 c2]), (b_6, ro), (b_5, #[.slice (some ⟨vb, 0, none⟩) 1700 vc])] ++ []) R3 := hE9.mem1 [14, 15, 1000, 1001, 1002, 1003] (by decide) 8 rfl
       clear hE9
       simp only [List.cons_append, List.nil_append] at hv
       go_wp2
       replace hv : Mem w _ ([(b_13, _), (b_14, ron fa5 fc5 ca5 cc5), (b_10, _), (b_8, _), (b_6, ro), (b_5, _)] ++ []) R3 := hv
       try simp only [Act.put]
       refine Bny.wp_region_walk _ _ [⟨[1000], none⟩, ⟨[1001], none⟩, ⟨[1005], some 1005⟩, ⟨[1004], some 1004⟩] [.val, .val, .put, .put] (by kernel_rfl) (by kernel_rfl) hv ?_
       simp only [List.length_cons, List.length_nil, Nat.zero_add, Any.someVals]
       iterate 4 apply Exists.intro
       repeat (first
         | (refine Bny.E_off rfl ?_; simp only [Act.put, sia, scs, scz])
         | ((with_reducible refine Bny.at_estore (T := 26) ?_); refine Bny.E_putv (T := 26) rfl rfl rfl rfl rfl rfl 1 infoM rfl rfl (by simp [Value.oneCell']) ?_; simp only [Act.put, sia, scs, scz])
         | ((with_reducible refine Bny.at_estore (T := 58) ?_); refine Bny.E_putv (T := 58) rfl rfl rfl rfl rfl rfl 23 infoBk23 (HRN.out _ _ _ _) HRS.out (HRA.out _ _ _ _) ?_; simp only [Act.put, sia, scs, scz])
         | (apply Bny.E_pureq rfl rfl rfl
            case h => intro K hK; go_big_quiet_op; (refine hK _ ?_; rfl)
            case hr => exact fun _ => rfl
            simp only [Act.put, sia, scs, scz])
         | (apply Bny.E_val rfl rfl rfl rfl
            case h =>
              intro E' hA K hK
              first
                | ((with_reducible refine Bny.at_qload (T := 26) ?_); refine Bny.q_ldv 1000 hA (by decide) rfl rfl 1 _ Tryz.underlying26 rfl infoM (by decide) rfl ?_; refine hK _ ?_; rfl)
                | ((with_reducible refine Bny.at_qload (T := 58) ?_); refine Bny.q_ldv 1001 hA (by decide) rfl rfl 23 _ Tryz.underlying58 rfl infoBk23 (by decide) (HRN.out _ _ _ _) ?_; refine hK _ ?_; rfl)
                | (go_big_quiet_op; first
                  | (refine hK _ ?_; rfl)
                  | (refine ⟨_, fun _ _ => rfl, ?_⟩; refine hK _ ?_; rfl)
                  | (apply Exists.intro; refine ⟨fun w1 hw1 => ?_, ?_⟩; · (first
                      | fail)
                     refine hK _ ?_; rfl))
            case hD => rfl
            simp only [Act.put, sia, scs, scz]))
       try any_goals exact undef
       refine Bny.E_nil ?_
       intro w9 hE9
       replace hv : Mem w w9 ([(b_13, #[.slice (some ⟨vb5, 0, none⟩) 1700 vc5]), (b_14, ron fa5 fc5 ca5 cc5), (b_10, #[.int .i64 0, .int .i64 16, .int .u16 (0 : Nat), .int .u16 (0 : Nat)]), (b_8, #[.slice sa 8 sc, .slice a2 cn2 c2]), (b_6, ron fa5 fc5 ca5 cc5), (b_5, #[.slice (some ⟨vb5, 0, none⟩) 1700 vc5])] ++ []) R3 := hE9.mem0 [1000, 1001, 1002, 1003, 1004, 1005] (by decide)
       clear hE9
       simp only [List.cons_append, List.nil_append] at hv
       go_wp2
       have hkn := HIB.out
       have h4 := H4.out
       have hmf := HMF.out.write (p := p) (pd := pd) (ps := ps) h4 HP.out HPD.out HPS.out HDL.out (HFR.out rfl)
       have HI1x := HI1.out
       rw [HI1.out] at hmf
       obtain ⟨c0, c1, c2', c3, k0, k1, k2, k3, t0, t1, t2, t3, hrow, hsl⟩ := HEN.out fa5 fc5 ca5 cc5
       rw [hrow] at hv
       go_roundw
       case rel => exact ⟨i1, i1, by omega, (by unfold KIs; omega), by go_num, vb5, vc5, fc5, cc5, sc, cn2, c2, nf1, nc1, k0, k1, k2, k3, t0, t1, t2, t3, fa5, ca5, sa, a2, c0, c1, c2', c3, ss, cs, _, free.drop 3, chs ++ [c5], R3, hv.keep (by exact List.sublist_append_right [_, _] _), HM5.out, hmf, HQ5.out, HO5.out, (by have h9 := HCH.out.snoc (c := c5) (by rw [K1.out, HH3.out]) (by rw [K2.out, HFR.out rfl]; rcases (show i = 0 ∨ i = 1 ∨ i = 2 ∨ i = 3 from by omega) with e | e | e | e <;> rw [e] <;> rfl) K3.out; rw [HI1.out] at h9; exact h9), hsl, HD.out.mono HS5.out, HSL.out, HCN.out, by have := HNF.out; have := HNF0.out; omega, by have := HNC.out; have := HNC0.out; omega, (fun _ => by rw [HFR.out rfl, List.drop_drop, ← HI1.out]; congr 1), fun x hx => HS5.out x (HRK.out x hx)⟩
       case measure => simp [intOf] <;> omega
     · obtain rfl : k = 4 := by omega
       clear hk
       have y4 : decide ((i : Int) < 4) = false := decide_eq_false (by omega)
       have z4 : decide (i < 4) = false := decide_eq_false (by omega)
       have HIX : Hid (idxF (fun r : Rq => !r.1) [(b0, h0, false, (s0 : Int)), (b1, h1, false, (s1 : Int)), (b2, h2, false, (s2 : Int)), (b3, h3, false, (s3 : Int))] = -1) := Lib.hid HSF.out.full
       have H4 := Lib.hid h4
       clear h4
       have HSS : Hid (∃ v R', SecW c v R') := Lib.hid (Bny.some_of (sector_W hv (fun x hx => hx) c rfl))
       have HSW : Hid (∃ v R', FullW Rk (.tuple #[.agg #[.slice (some ⟨vb, 0, none⟩) 1700 vc], .agg #[.int .i64 0, .int .i64 16, .slice fa nf fc, .int .u16 (4 : Nat), .int .u16 (0 : Nat), .slice ca nc cc, .int .i64 500, .bool b0, .int .i64 h0, .bool false, .int .i64 s0, .bool b1, .int .i64 h1, .bool false, .int .i64 s1, .bool b2, .int .i64 h2, .bool false, .int .i64 s2, .bool b3, .int .i64 h3, .bool false, .int .i64 s3], .int .i64 0, .int .i64 4]) v R') := Lib.hid (some_sec hv c fun w1 R1 b hm hs hr => Bny.some_of (Write_fullW (R0 := Rk) (f0 := false) (f1 := false) (f2 := false) (f3 := false) (free := free) (chs := chs) (av := 4) (la := 0) (fn := nf) (cn := nc) (s_ := i) hm hs HB.out HIX.out HI256.out (mb := vb) (mc := vc) (db := b) (do_ := 0) (dc := 256)))
       go_wp2
       replace hv : Mem w _ ([(b_10, _), (b_8, _), (b_6, _), (b_5, _)] ++ []) Rk := hv
       try simp only [Act.put]
       refine Bny.wp_region_walk _ _ [⟨[1003], none⟩, ⟨[1002], none⟩, ⟨[], none⟩, ⟨[], none⟩, ⟨[], none⟩, ⟨[], none⟩, ⟨[], none⟩, ⟨[], some 7⟩, ⟨[7], some 8⟩, ⟨[], none⟩, ⟨[], none⟩, ⟨[], none⟩, ⟨[], none⟩, ⟨[], none⟩, ⟨[], some 14⟩, ⟨[], some 15⟩, ⟨[14], some 14⟩, ⟨[15], some 15⟩, ⟨[], none⟩, ⟨[], none⟩] [.val, .val, .val, .val, .val, .val, .val, .mem (SecW c), .mem (FullW Rk (.tuple #[.agg #[.slice (some ⟨vb, 0, none⟩) 1700 vc], .agg #[.int .i64 0, .int .i64 16, .slice fa nf fc, .int .u16 (4 : Nat), .int .u16 (0 : Nat), .slice ca nc cc, .int .i64 500, .bool b0, .int .i64 h0, .bool false, .int .i64 s0, .bool b1, .int .i64 h1, .bool false, .int .i64 s1, .bool b2, .int .i64 h2, .bool false, .int .i64 s2, .bool b3, .int .i64 h3, .bool false, .int .i64 s3], .int .i64 0, .int .i64 4])), .pure, .pure, .pure, .pure, .pure, .lay #[.slice none 0 0], .lay #[.int .i64 0, .int .i64 0, .slice none 0 0, .int .u16 0, .int .u16 0, .slice none 0 0, .int .i64 0, .bool false, .int .i64 0, .bool false, .int .i64 0, .bool false, .int .i64 0, .bool false, .int .i64 0, .bool false, .int .i64 0, .bool false, .int .i64 0, .bool false, .int .i64 0, .bool false, .int .i64 0], .put, .put, .pure, .pure] (by kernel_rfl) (by kernel_rfl) hv ?_
       simp only [List.length_cons, List.length_nil, Nat.zero_add, Any.someVals]
       iterate 20 apply Exists.intro
       repeat (first
         | (refine Bny.E_off rfl ?_; simp only [Act.put, sia, scs, scz])
         | ((with_reducible refine Bny.at_ealloc ?_); refine Bny.E_lay (t := 26) rfl rfl rfl (fun _ => rfl) ?_; intro b_13; simp only [Act.put, sia, scs, scz])
         | ((with_reducible refine Bny.at_ealloc ?_); refine Bny.E_lay (t := 58) rfl rfl rfl (fun _ => rfl) ?_; intro b_14; simp only [Act.put, sia, scs, scz])
         | ((with_reducible refine Bny.at_estore (T := 26) ?_); refine Bny.E_putv (T := 26) rfl rfl rfl rfl rfl rfl 1 infoM rfl rfl (by simp [Value.oneCell']) ?_; simp only [Act.put, sia, scs, scz])
         | ((with_reducible refine Bny.at_estore (T := 58) ?_); refine Bny.E_putv (T := 58) rfl rfl rfl rfl rfl rfl 23 infoBk23 rfl rfl (by simp [Value.oneCell']) ?_; simp only [Act.put, sia, scs, scz])
         | ((with_reducible refine Bny.at_ecallf (f := 21) ?_); refine Bny.E_callmem rfl rfl rfl (Go.Proofs.enters_of Tryz.func21 (by kernel_rfl) rfl) rfl [.int .u8 c] rfl HSS.out [] (fun x hx => (List.not_mem_nil hx).elim) (fun w0 w L R' hm hs => sector_W (R0 := []) hm (fun x hx => (List.not_mem_nil hx).elim) c rfl) ?_; rintro v R8 ⟨sb_, rfl, hsr⟩; clear hsr; simp only [Act.put, sia, scs, scz])
         | ((with_reducible refine Bny.at_ecallf (f := 20) ?_); refine Bny.E_callmem rfl rfl rfl (Go.Proofs.enters_of Tryz.func20 (by kernel_rfl) rfl) rfl [.agg #[.slice (some ⟨vb, 0, none⟩) 1700 vc], .agg #[.int .i64 0, .int .i64 16, .slice fa nf fc, .int .u16 (4 : Nat), .int .u16 (0 : Nat), .slice ca nc cc, .int .i64 500, .bool b0, .int .i64 h0, .bool false, .int .i64 s0, .bool b1, .int .i64 h1, .bool false, .int .i64 s1, .bool b2, .int .i64 h2, .bool false, .int .i64 s2, .bool b3, .int .i64 h3, .bool false, .int .i64 s3], .int .i64 i, .slice (some ⟨sb_, 0, none⟩) 256 256] rfl HSW.out Rk (fun x hx => .inl hx) (fun w0 w L R' hm hs => Write_fullW (R0 := Rk) (f0 := false) (f1 := false) (f2 := false) (f3 := false) (free := free) (chs := chs) (av := 4) (la := 0) (fn := nf) (cn := nc) (s_ := i) hm hs HB.out HIX.out HI256.out) ?_; rintro v R3 ⟨rfl, hs5⟩; have HS5 := Lib.hid hs5; clear hs5; simp only [Act.put, sia, scs, scz])
         | (apply Bny.E_pureq rfl rfl rfl
            case h => intro K hK; go_big_quiet_op; (refine hK _ ?_; rfl)
            case hr => exact fun _ => rfl
            simp only [Act.put, sia, scs, scz])
         | (apply Bny.E_val rfl rfl rfl rfl
            case h =>
              intro E' hA K hK
              first
                | ((with_reducible refine Bny.at_qload (T := 26) ?_); refine Bny.q_ldv 1003 hA (by decide) rfl rfl 1 _ Tryz.underlying26 rfl infoM (by decide) rfl ?_; refine hK _ ?_; rfl)
                | ((with_reducible refine Bny.at_qload (T := 58) ?_); refine Bny.q_ldv 1002 hA (by decide) rfl rfl 23 _ Tryz.underlying58 rfl infoBk23 (by decide) rfl ?_; refine hK _ ?_; rfl)
                | ((with_reducible refine Bny.at_qload (T := 5) ?_); refine Bny.q_rd (.inl HC.out) hA i rfl _ Tryz.underlying5 rfl (.int .u8 c) HCK.out ?_; refine hK _ ?_; rfl)
                | (go_big_quiet_op; first
                  | (refine hK _ ?_; rfl)
                  | (refine ⟨_, fun _ _ => rfl, ?_⟩; refine hK _ ?_; rfl)
                  | (apply Exists.intro; refine ⟨fun w1 hw1 => ?_, ?_⟩; · (first
                      | fail)
                     refine hK _ ?_; rfl))
            case hD => rfl
            simp only [Act.put, sia, scs, scz]))
       try any_goals exact undef
       refine Bny.E_nil ?_
       intro w9 hE9
       replace hv : Mem w w9 ([(b_13, #[.slice (some ⟨vb, 0, none⟩) 1700 vc]), (b_14, #[.int .i64 0, .int .i64 16, .slice fa nf fc, .int .u16 (4 : Nat), .int .u16 (0 : Nat), .slice ca nc cc, .int .i64 500, .bool b0, .int .i64 h0, .bool false, .int .i64 s0, .bool b1, .int .i64 h1, .bool false, .int .i64 s1, .bool b2, .int .i64 h2, .bool false, .int .i64 s2, .bool b3, .int .i64 h3, .bool false, .int .i64 s3]), (b_10, #[.int .i64 0, .int .i64 16, .int .u16 (0 : Nat), .int .u16 (0 : Nat)]), (b_8, #[.slice sa 8 sc, .slice a2 cn2 c2]), (b_6, #[.int .i64 0, .int .i64 16, .slice fa nf fc, .int .u16 (4 : Nat), .int .u16 (0 : Nat), .slice ca nc cc, .int .i64 500, .bool b0, .int .i64 h0, .bool false, .int .i64 s0, .bool b1, .int .i64 h1, .bool false, .int .i64 s1, .bool b2, .int .i64 h2, .bool false, .int .i64 s2, .bool b3, .int .i64 h3, .bool false, .int .i64 s3]), (b_5, #[.slice (some ⟨vb, 0, none⟩) 1700 vc])] ++ []) R3 := hE9.mem1 [14, 15, 1000, 1001, 1002, 1003] (by decide) 8 rfl
       clear hE9
       simp only [List.cons_append, List.nil_append] at hv
       go_wp2
       replace hv : Mem w _ ([(b_13, _), (b_14, _), (b_10, _), (b_8, _), (b_6, _), (b_5, _)] ++ []) R3 := hv
       try simp only [Act.put]
       refine Bny.wp_region_walk _ _ [⟨[1000], none⟩, ⟨[1001], none⟩, ⟨[1005], some 1005⟩, ⟨[1004], some 1004⟩] [.val, .val, .put, .put] (by kernel_rfl) (by kernel_rfl) hv ?_
       simp only [List.length_cons, List.length_nil, Nat.zero_add, Any.someVals]
       iterate 4 apply Exists.intro
       repeat (first
         | (refine Bny.E_off rfl ?_; simp only [Act.put, sia, scs, scz])
         | ((with_reducible refine Bny.at_estore (T := 26) ?_); refine Bny.E_putv (T := 26) rfl rfl rfl rfl rfl rfl 1 infoM rfl rfl (by simp [Value.oneCell']) ?_; simp only [Act.put, sia, scs, scz])
         | ((with_reducible refine Bny.at_estore (T := 58) ?_); refine Bny.E_putv (T := 58) rfl rfl rfl rfl rfl rfl 23 infoBk23 rfl rfl (by simp [Value.oneCell']) ?_; simp only [Act.put, sia, scs, scz])
         | (apply Bny.E_pureq rfl rfl rfl
            case h => intro K hK; go_big_quiet_op; (refine hK _ ?_; rfl)
            case hr => exact fun _ => rfl
            simp only [Act.put, sia, scs, scz])
         | (apply Bny.E_val rfl rfl rfl rfl
            case h =>
              intro E' hA K hK
              first
                | ((with_reducible refine Bny.at_qload (T := 26) ?_); refine Bny.q_ldv 1000 hA (by decide) rfl rfl 1 _ Tryz.underlying26 rfl infoM (by decide) rfl ?_; refine hK _ ?_; rfl)
                | ((with_reducible refine Bny.at_qload (T := 58) ?_); refine Bny.q_ldv 1001 hA (by decide) rfl rfl 23 _ Tryz.underlying58 rfl infoBk23 (by decide) rfl ?_; refine hK _ ?_; rfl)
                | (go_big_quiet_op; first
                  | (refine hK _ ?_; rfl)
                  | (refine ⟨_, fun _ _ => rfl, ?_⟩; refine hK _ ?_; rfl)
                  | (apply Exists.intro; refine ⟨fun w1 hw1 => ?_, ?_⟩; · (first
                      | fail)
                     refine hK _ ?_; rfl))
            case hD => rfl
            simp only [Act.put, sia, scs, scz]))
       try any_goals exact undef
       refine Bny.E_nil ?_
       intro w9 hE9
       replace hv : Mem w w9 ([(b_13, #[.slice (some ⟨vb, 0, none⟩) 1700 vc]), (b_14, #[.int .i64 0, .int .i64 16, .slice fa nf fc, .int .u16 (4 : Nat), .int .u16 (0 : Nat), .slice ca nc cc, .int .i64 500, .bool b0, .int .i64 h0, .bool false, .int .i64 s0, .bool b1, .int .i64 h1, .bool false, .int .i64 s1, .bool b2, .int .i64 h2, .bool false, .int .i64 s2, .bool b3, .int .i64 h3, .bool false, .int .i64 s3]), (b_10, #[.int .i64 0, .int .i64 16, .int .u16 (0 : Nat), .int .u16 (0 : Nat)]), (b_8, #[.slice sa 8 sc, .slice a2 cn2 c2]), (b_6, #[.int .i64 0, .int .i64 16, .slice fa nf fc, .int .u16 (4 : Nat), .int .u16 (0 : Nat), .slice ca nc cc, .int .i64 500, .bool b0, .int .i64 h0, .bool false, .int .i64 s0, .bool b1, .int .i64 h1, .bool false, .int .i64 s1, .bool b2, .int .i64 h2, .bool false, .int .i64 s2, .bool b3, .int .i64 h3, .bool false, .int .i64 s3]), (b_5, #[.slice (some ⟨vb, 0, none⟩) 1700 vc])] ++ []) R3 := hE9.mem0 [1000, 1001, 1002, 1003, 1004, 1005] (by decide)
       clear hE9
       simp only [List.cons_append, List.nil_append] at hv
       go_wp2
       have hkn := HIB.out
       have HI1x := HI1.out
       have h4 := H4.out
       go_roundw
       case rel => exact ⟨i1, 4, by omega, (by unfold KIs; omega), by go_num, vb, vc, fc, cc, sc, cn2, c2, nf, nc, h0, h1, h2, h3, s0, s1, s2, s3, fa, ca, sa, a2, b0, b1, b2, b3, ss, cs, M, free, chs, R3, hv.keep (by exact List.sublist_append_right [_, _] _), HM.out.mono HS5.out, HMF.out, HQ.out.mono HS5.out, HO.out, HCH.out, HSF.out, HD.out.mono HS5.out, HSL.out, HCN.out, HNF0.out, HNC0.out, HFR.out, fun x hx => HS5.out x (HRK.out x hx)⟩
       case measure => simp [intOf] <;> omega
   · have hki : ¬ (i : Int) < (bn : Int) := by omega
     obtain rfl : i = bn := by omega
     have HK4 : Hid (k ≤ 4) := Lib.hid (by omega)
     have HKB : Hid (k = min i 4) := Lib.hid hk
     clear hi hi0 hk
     go_wp2_with (first
       | fail)
     go_loopw [11, 17] (fun cv iv wr => ∃ f : Nat, f ≤ k ∧ cv = .int .i64 f ∧ iv = .int .i64 f ∧ FrSt w R [] b_5 b_6 b_8 b_10 k f 0 D wr) (fun _ iv _ => 10 - (intOf iv).toNat)
     case atStart => exact ⟨0, Nat.zero_le _, rfl, rfl, vb, vc, fc, cc, sc, cn2, c2, nf, nc, h0, h1, h2, h3, s0, s1, s2, s3, fa, ca, sa, a2, b0, b1, b2, b3, ss, cs, M, free, chs, Rk, hv, HM.out, HMF.out, HQ.out, HO.out, HCH.out, HSF.out, HD.out, HSL.out, HCN.out, HNF0.out, HNC0.out, HFR.out, HRK.out⟩
     case round =>
       clear hv HM HMF HQ HO HCH HSF HD HSL HCN HNF0 HNC0 HFR HRK
       obtain ⟨f, hf, rfl, rfl, hst⟩ := hrel
       obtain ⟨vb, vc, fc, cc, sc, cn2, c2, nf, nc, h0, h1, h2, h3, s0, s1, s2, s3, fa, ca, sa, a2, b0, b1, b2, b3, ss, cs, M, free, chs, Rk, hv, hm, hmf, hq, ho, hch, hsf, hd_, hsl, hcn, hnf, hnc, hfr, hrk⟩ := hst
       simp only [List.cons_append, List.nil_append] at hv
       have HM := Lib.hid hm
       have HMF := Lib.hid hmf
       have HQ := Lib.hid hq
       have HO := Lib.hid ho
       have HCH := Lib.hid hch
       have HSF := Lib.hid hsf
       have HD := Lib.hid hd_
       have HSL := Lib.hid hsl
       have HCN := Lib.hid hcn
       have HNF0 := Lib.hid hnf
       have HNC0 := Lib.hid hnc
       have HFR := Lib.hid hfr
       have HRK := Lib.hid hrk
       clear hm hmf hq ho hch hsf hd_ hsl hcn hnf hnc hfr hrk
       have hk4 := HK4.out
       by_cases hfk : f < k
       · obtain ⟨f1, hf1⟩ : ∃ f1, f + 1 = f1 := ⟨_, rfl⟩
         obtain ⟨an, han, qst⟩ := u8_nat4 st
         have HAN := Lib.hid han
         have HST := Lib.hid qst
         have HF1 := Lib.hid hf1
         have HF5 : Hid (f < 65535) := Lib.hid (by omega)
         have HFK : Hid (k ≠ f) := Lib.hid (by omega)
         have HFK2 := Lib.hid hfk
         have HF3 : Hid (3 * f + 2 < 16) := Lib.hid (by omega)
         have HF4 : Hid (500 + 288 * f + 288 ≤ 1700) := Lib.hid (by omega)
         have HF256 : Hid (f < 256) := Lib.hid (by omega)
         have HCN5 : Hid (cn2 + 1 < 512) := Lib.hid (by have := HCN.out; omega)
         have hf4 : (f : Int) < 4 := by omega
         have qf : IntKind.i64.wrap ((f : Int) + 1) = (f1 : Int) := by rw [IntWalk.i64_in _ (by omega)]; omega
         have y10 : decide ((f : Int) < 10) = true := decide_eq_true (by omega)
         have z10 : decide (f < 10) = true := decide_eq_true (by omega)
         clear han hf1 hfk
         go_wp2_with (first
           | ((with_reducible refine at_load (T := 26) ?_); refine wl_ldv rfl b_5 rfl _ hv.vars.ro 1 _ Tryz.underlying26 rfl infoM (by decide) rfl ?_)
           | ((with_reducible refine at_load (T := 38) ?_); refine wl_ldv rfl b_10 rfl _ hv.vars.ro 4 _ Tryz.underlying38 rfl infoS4 (by decide) rfl ?_)
           | ((with_reducible refine at_load (T := 63) ?_); refine wl_ldv rfl b_8 rfl _ hv.vars.ro 2 _ Tryz.underlying63 rfl infoD2 (by decide) rfl ?_)
           | (go_at_call 22; (refine (Serve_W (R0 := Rk) hv (fun x hx => hx) HD.out HM.out (sn_ := f) (sn1 := f1) (us := f) (us1 := f1) (hd := 3 * f) (p := 500 + 288 * f) (ps := 500 + 288 * f + 272) (s_ := f) (D := D f) HF5.out HF1.out HMF.out.ai HFK.out (HMF.out.pw f (Nat.le_refl _) HFK2.out).1 (HMF.out.pw f (Nat.le_refl _) HFK2.out).2 HF5.out HF1.out HF3.out ⟨rfl, HF4.out⟩ HST.out HAN.out HF256.out HCN5.out).mono ?_); rintro e w1 ⟨v, R5, rfl, ⟨vb7, vc7, a3, cn3, c3, ans, cs3, rfl, hm7, hd7, ha7, hw7, hs7⟩, hv1, hs9⟩; replace hv := hv1; have HM7 := Lib.hid hm7; have HD7 := Lib.hid hd7; have HA7 := Lib.hid ha7; have HW7 := Lib.hid hw7; have HS7 := Lib.hid hs7; clear hm7 hd7 ha7 hw7 hs7 hv1 hs9)
           | ((with_reducible refine at_alloc (T := 26) (dst := some 18) ?_); refine wl_newb rfl #[.slice none 0 0] 26 (fun _ => rfl) ?_; intro b_18 w2 hm2; replace hv := hv.madeAt hm2; clear hm2)
           | ((with_reducible refine at_alloc (T := 38) (dst := some 19) ?_); refine wl_newb rfl #[.int .i64 0, .int .i64 0, .int .u16 0, .int .u16 0] 38 (fun _ => rfl) ?_; intro b_19 w2 hm2; replace hv := hv.madeAt hm2; clear hm2)
           | ((with_reducible refine at_alloc (T := 63) (dst := some 20) ?_); refine wl_newb rfl #[.slice none 0 0, .slice none 0 0] 63 (fun _ => rfl) ?_; intro b_20 w2 hm2; replace hv := hv.madeAt hm2; clear hm2)
           | ((with_reducible refine at_store (T := 26) ?_); refine wl_stv rfl b_18 rfl _ rfl _ hv.vars.ro hv.vars.so 1 infoM rfl rfl (by simp [Value.oneCell']) ?_; intro w2 hw2; replace hv := hv.sets (by repeat first | exact .z | apply SetM.s) hw2; clear hw2)
           | ((with_reducible refine at_store (T := 38) ?_); refine wl_stv rfl b_19 rfl _ rfl _ hv.vars.ro hv.vars.so 4 infoS4 rfl rfl (by simp [Value.oneCell']) ?_; intro w2 hw2; replace hv := hv.sets (by repeat first | exact .z | apply SetM.s) hw2; clear hw2)
           | ((with_reducible refine at_store (T := 63) ?_); refine wl_stv rfl b_20 rfl _ rfl _ hv.vars.ro hv.vars.so 2 infoD2 rfl rfl (by simp [Value.oneCell']) ?_; intro w2 hw2; replace hv := hv.sets (by repeat first | exact .z | apply SetM.s) hw2; clear hw2))
         replace hv : Mem w _ ([(b_20, _), (b_19, _), (b_18, _), (b_10, _), (b_8, _), (b_6, _), (b_5, _)] ++ []) R5 := hv
         try simp only [Act.put]
         refine Bny.wp_region_walk _ _ [⟨[1002], none⟩, ⟨[1001], none⟩, ⟨[1000], none⟩, ⟨[], none⟩, ⟨[], none⟩, ⟨[1006], some 1006⟩, ⟨[1003], some 1003⟩, ⟨[1004], some 1004⟩, ⟨[], none⟩] [.val, .val, .val, .val, .val, .put, .put, .put, .val] (by kernel_rfl) (by kernel_rfl) hv ?_
         simp only [List.length_cons, List.length_nil, Nat.zero_add, Any.someVals]
         iterate 9 apply Exists.intro
         repeat (first
           | (refine Bny.E_off rfl ?_; simp only [Act.put, sia, scs, scz])
           | ((with_reducible refine Bny.at_estore (T := 26) ?_); refine Bny.E_putv (T := 26) rfl rfl rfl rfl rfl rfl 1 infoM rfl rfl (by simp [Value.oneCell']) ?_; simp only [Act.put, sia, scs, scz])
           | ((with_reducible refine Bny.at_estore (T := 38) ?_); refine Bny.E_putv (T := 38) rfl rfl rfl rfl rfl rfl 4 infoS4 rfl rfl (by simp [Value.oneCell']) ?_; simp only [Act.put, sia, scs, scz])
           | ((with_reducible refine Bny.at_estore (T := 63) ?_); refine Bny.E_putv (T := 63) rfl rfl rfl rfl rfl rfl 2 infoD2 rfl rfl (by simp [Value.oneCell']) ?_; simp only [Act.put, sia, scs, scz])
           | (apply Bny.E_pureq rfl rfl rfl
              case h => intro K hK; go_big_quiet_op; (refine hK _ ?_; rfl)
              case hr => exact fun _ => rfl
              simp only [Act.put, sia, scs, scz])
           | (apply Bny.E_val rfl rfl rfl rfl
              case h =>
                intro E' hA K hK
                first
                  | ((with_reducible refine Bny.at_qload (T := 26) ?_); refine Bny.q_ldv 1002 hA (by decide) rfl rfl 1 _ Tryz.underlying26 rfl infoM (by decide) rfl ?_; refine hK _ ?_; rfl)
                  | ((with_reducible refine Bny.at_qload (T := 38) ?_); refine Bny.q_ldv 1001 hA (by decide) rfl rfl 4 _ Tryz.underlying38 rfl infoS4 (by decide) rfl ?_; refine hK _ ?_; rfl)
                  | ((with_reducible refine Bny.at_qload (T := 63) ?_); refine Bny.q_ldv 1000 hA (by decide) rfl rfl 2 _ Tryz.underlying63 rfl infoD2 (by decide) rfl ?_; refine hK _ ?_; rfl)
                  | (go_big_quiet_op; first
                    | (refine hK _ ?_; rfl)
                    | (refine ⟨_, fun _ _ => rfl, ?_⟩; refine hK _ ?_; rfl)
                    | (apply Exists.intro; refine ⟨fun w1 hw1 => ?_, ?_⟩; · (first
                        | fail)
                       refine hK _ ?_; rfl))
              case hD => rfl
              simp only [Act.put, sia, scs, scz]))
         try any_goals exact undef
         refine Bny.E_nil ?_
         intro w9 hE9
         replace hv : Mem w w9 ([(b_20, #[.slice sa 8 sc, .slice a3 cn3 c3]), (b_19, #[.int .i64 0, .int .i64 16, .int .u16 f1, .int .u16 f1]), (b_18, #[.slice (some ⟨vb7, 0, none⟩) 1700 vc7]), (b_10, #[.int .i64 0, .int .i64 16, .int .u16 f1, .int .u16 f1]), (b_8, #[.slice sa 8 sc, .slice a3 cn3 c3]), (b_6, #[.int .i64 0, .int .i64 16, .slice fa nf fc, .int .u16 k, .int .u16 (0 : Nat), .slice ca nc cc, .int .i64 500, .bool b0, .int .i64 h0, .bool false, .int .i64 s0, .bool b1, .int .i64 h1, .bool false, .int .i64 s1, .bool b2, .int .i64 h2, .bool false, .int .i64 s2, .bool b3, .int .i64 h3, .bool false, .int .i64 s3]), (b_5, #[.slice (some ⟨vb7, 0, none⟩) 1700 vc7])] ++ []) R5 := hE9.mem0 [1000, 1001, 1002, 1003, 1004, 1005, 1006] (by decide)
         clear hE9
         simp only [List.cons_append, List.nil_append] at hv
         go_wp2
         have hmf := HMF.out.serve (hd := 3 * f) (ps := 500 + 288 * f + 272) (ans := ans) HFK2.out HK4.out rfl rfl HA7.out HF1.out
         have HF1x := HF1.out
         have hcn3 : cn3 ≤ f1 := by
           have := HCN.out
           rcases HW7.out with ⟨_, _, _, h, _⟩ | ⟨_, _, h, _⟩ <;> omega
         have hfk := HFK2.out
         go_roundw
         case rel => exact ⟨f1, by omega, by first | rfl | go_num, by go_num, vb7, vc7, fc, cc, sc, cn3, c3, nf, nc, h0, h1, h2, h3, s0, s1, s2, s3, fa, ca, sa, a3, b0, b1, b2, b3, ss, cs3, _, free, chs, R5, hv.keep (by exact List.sublist_append_right [_, _, _] _), HM7.out, hmf, HQ.out.mono HS7.out, HO.out, HCH.out, HSF.out, HD7.out, HSL.out, hcn3, HNF0.out, HNC0.out, HFR.out, fun x hx => HS7.out x (HRK.out x hx)⟩
         case measure => simp [intOf] <;> omega
       · obtain rfl : k = f := by omega
         clear hfk hf hk4
         have HF6 : Hid (k < 65536) := Lib.hid (by have := HK4.out; omega)
         have hk4i : (k : Int) ≤ 4 := by have := HK4.out; omega
         have y10 : decide ((k : Int) < 10) = true := decide_eq_true (by omega)
         have z10 : decide (k < 10) = true := decide_eq_true (by omega)
         go_wp2_with (first
           | ((with_reducible refine at_load (T := 26) ?_); refine wl_ldv rfl b_5 rfl _ hv.vars.ro 1 _ Tryz.underlying26 rfl infoM (by decide) rfl ?_)
           | ((with_reducible refine at_load (T := 38) ?_); refine wl_ldv rfl b_10 rfl _ hv.vars.ro 4 _ Tryz.underlying38 rfl infoS4 (by decide) rfl ?_)
           | ((with_reducible refine at_load (T := 63) ?_); refine wl_ldv rfl b_8 rfl _ hv.vars.ro 2 _ Tryz.underlying63 rfl infoD2 (by decide) rfl ?_)
           | (go_at_call 22; (refine (Serve_none (sv := .bool false) (cv := .bool false) hv HM.out HF6.out HMF.out.ai).mono ?_); rintro e w1 ⟨rfl, hv1⟩; replace hv := hv1; clear hv1)
           | ((with_reducible refine at_alloc (T := 26) (dst := some 18) ?_); refine wl_newb rfl #[.slice none 0 0] 26 (fun _ => rfl) ?_; intro b_18 w2 hm2; replace hv := hv.madeAt hm2; clear hm2)
           | ((with_reducible refine at_alloc (T := 38) (dst := some 19) ?_); refine wl_newb rfl #[.int .i64 0, .int .i64 0, .int .u16 0, .int .u16 0] 38 (fun _ => rfl) ?_; intro b_19 w2 hm2; replace hv := hv.madeAt hm2; clear hm2)
           | ((with_reducible refine at_alloc (T := 63) (dst := some 20) ?_); refine wl_newb rfl #[.slice none 0 0, .slice none 0 0] 63 (fun _ => rfl) ?_; intro b_20 w2 hm2; replace hv := hv.madeAt hm2; clear hm2)
           | ((with_reducible refine at_store (T := 26) ?_); refine wl_stv rfl b_18 rfl _ rfl _ hv.vars.ro hv.vars.so 1 infoM rfl rfl (by simp [Value.oneCell']) ?_; intro w2 hw2; replace hv := hv.sets (by repeat first | exact .z | apply SetM.s) hw2; clear hw2)
           | ((with_reducible refine at_store (T := 38) ?_); refine wl_stv rfl b_19 rfl _ rfl _ hv.vars.ro hv.vars.so 4 infoS4 rfl rfl (by simp [Value.oneCell']) ?_; intro w2 hw2; replace hv := hv.sets (by repeat first | exact .z | apply SetM.s) hw2; clear hw2)
           | ((with_reducible refine at_store (T := 63) ?_); refine wl_stv rfl b_20 rfl _ rfl _ hv.vars.ro hv.vars.so 2 infoD2 rfl rfl (by simp [Value.oneCell']) ?_; intro w2 hw2; replace hv := hv.sets (by repeat first | exact .z | apply SetM.s) hw2; clear hw2)
           | ((with_reducible refine at_alloc (T := 71) (dst := some 22) ?_); refine wl_newb rfl #[.bool false, .bool false, .bool false, .bool false] 71 (fun _ => rfl) ?_; intro b_22 w2 hm2; replace hv := hv.madeAt hm2; clear hm2))
         clear y10 z10
         go_loopw [23] (fun iv wr => ∃ (g : Nat) (q0 q1 q2 q3 : Bool), g ≤ k ∧ iv = .int .i64 g ∧ q0 = decide (0 < g) ∧ q1 = decide (1 < g) ∧ q2 = decide (2 < g) ∧ q3 = decide (3 < g) ∧ FrSt w R [(b_22, #[.bool q0, .bool q1, .bool q2, .bool q3])] b_5 b_6 b_8 b_10 k k g D wr) (fun iv _ => k - (intOf iv).toNat)
         case atStart => exact ⟨0, false, false, false, false, Nat.zero_le _, rfl, rfl, rfl, rfl, rfl, vb, vc, fc, cc, sc, cn2, c2, nf, nc, h0, h1, h2, h3, s0, s1, s2, s3, fa, ca, sa, a2, b0, b1, b2, b3, ss, cs, M, free, chs, Rk, hv.keep (by exact List.Sublist.cons_cons _ (List.Sublist.cons _ (List.Sublist.cons _ (List.Sublist.cons _ (List.Sublist.refl _))))), HM.out, HMF.out, HQ.out, HO.out, HCH.out, HSF.out, HD.out, HSL.out, HCN.out, HNF0.out, HNC0.out, HFR.out, HRK.out⟩
         case round =>
           clear hv HM HMF HQ HO HCH HSF HD HSL HCN HNF0 HNC0 HFR HRK
           obtain ⟨g, q0, q1, q2, q3, hg, rfl, hq0, hq1, hq2, hq3, hst⟩ := hrel
           obtain ⟨vb, vc, fc, cc, sc, cn2, c2, nf, nc, h0, h1, h2, h3, s0, s1, s2, s3, fa, ca, sa, a2, b0, b1, b2, b3, ss, cs, M, free, chs, Rk, hv, hm, hmf, hq, ho, hch, hsf, hd_, hsl, hcn, hnf, hnc, hfr, hrk⟩ := hst
           simp only [List.cons_append, List.nil_append] at hv
           have HM := Lib.hid hm
           have HMF := Lib.hid hmf
           have HQ := Lib.hid hq
           have HO := Lib.hid ho
           have HCH := Lib.hid hch
           have HSF := Lib.hid hsf
           have HD := Lib.hid hd_
           have HSL := Lib.hid hsl
           have HCN := Lib.hid hcn
           have HNF0 := Lib.hid hnf
           have HNC0 := Lib.hid hnc
           have HFR := Lib.hid hfr
           have HRK := Lib.hid hrk
           clear hm hmf hq ho hch hsf hd_ hsl hcn hnf hnc hfr hrk
           have hk4i : (k : Int) ≤ 4 := by have := HK4.out; omega
           by_cases hgk : g < k
           · rcases (show g = 0 ∨ g = 1 ∨ g = 2 ∨ g = 3 from by have := HK4.out; omega) with hj | hj | hj | hj
             · have HJ : Hid (g = 0) := Lib.hid hj
               obtain ⟨rfl, rfl, rfl, rfl⟩ : q0 = false ∧ q1 = false ∧ q2 = false ∧ q3 = false := ⟨by rw [hq0, hj]; rfl, by rw [hq1, hj]; rfl, by rw [hq2, hj]; rfl, by rw [hq3, hj]; rfl⟩
               obtain ⟨g1, hg1⟩ : ∃ g1, g + 1 = g1 := ⟨_, rfl⟩
               have HG1 := Lib.hid hg1
               have HG6 : Hid (g1 < 65536) := Lib.hid (by omega)
               have HGK := Lib.hid hgk
               have HK6 : Hid (k < 65536) := Lib.hid (by have := HK4.out; omega)
               have HGN : Hid (k ≤ g + nc) := Lib.hid (by have := HNC0.out; omega)
               obtain ⟨c0, rest, hcc, hc0, hcd, hcr, hcr2⟩ := HCH.out.cons hgk
               have HCC := Lib.hid hcc
               have HC0 := Lib.hid hc0
               have HCR : Hid (1 ≤ c0.rm) := Lib.hid (by rw [hcr]; exact Nat.le_refl 1)
               have HCH2 := Lib.hid hcr2
               obtain ⟨nf1, hnf1⟩ : ∃ n, nf + c0.ds.length = n := ⟨_, rfl⟩
               have HF1 := Lib.hid hnf1
               have HF3 : Hid (nf1 = nf + 3) := Lib.hid (by rw [← hnf1, hcd]; rfl)
               obtain ⟨nc1, hnc1⟩ : ∃ n, nc = n + 1 := ⟨nc - 1, by have := HNC0.out; omega⟩
               have HNC := Lib.hid hnc1
               have HIX : Hid (idxF (fun r : Rq => r.1 && r.2.1 == 3 * g) [(b0, h0, false, (s0 : Int)), (b1, h1, false, (s1 : Int)), (b2, h2, false, (s2 : Int)), (b3, h3, false, (s3 : Int))] = 0) := Lib.hid ((HSF.out.idx hgk HK4.out rfl).trans (by rw [hj]; rfl))
               have HB := Lib.hid (HSF.out.blk (by omega) HK4.out HQ.out HO.out HCH.out)
               have hgi : (g : Int) < (k : Int) := by omega
               clear hj hq0 hq1 hq2 hq3 hg1 hcc hc0 hcd hcr hcr2 hnf1 hnc1 hgk
               go_wp2_with (first
                 | ((with_reducible refine at_load (T := 26) ?_); refine wl_ldv rfl b_5 rfl _ hv.vars.ro 1 _ Tryz.underlying26 rfl infoM (by decide) rfl ?_)
                 | (first | ((with_reducible refine at_load (T := 58) ?_); refine wl_ldv rfl b_6 rfl _ hv.vars.ro 23 _ Tryz.underlying58 rfl infoBk23 (by decide) rfl ?_) | ((with_reducible refine at_load (T := 58) ?_); refine wl_ldv rfl b_24 rfl _ hv.vars.ro 23 _ Tryz.underlying58 rfl infoBk23 (by decide) rfl ?_))
                 | (go_at_call 23; (refine (Done_0 (f0 := false) (f1 := false) (f2 := false) (f3 := false) (free := free) (chs := chs) (av := k) (la := g) (fn := nf) (cn := nc) (nf1 := nf1) (nc1 := nc1) (la1 := g1) (us := k) (hd := 3 * g) (ln := 1) (x := getN M 772 1) (c0 := c0) (rest := rest) (M := M) hv HM.out HB.out HMF.out.ui HG1.out HG6.out HGK.out HGN.out (HMF.out.us g HGK.out).1 (HMF.out.us g HGK.out).2 rfl HCC.out HC0.out HCR.out HF1.out HNC.out HK6.out HIX.out rfl).mono ?_); rintro e w1 ⟨fa8, fc8, ca8, cc8, free8, R6, e1, rfl, he1, hv1, hq1, ho1, hp1, hso1, hs1⟩; replace hv := hv1; have HQ8 := Lib.hid hq1; have HO8 := Lib.hid ho1; have HS8 := Lib.hid hs1; clear he1 hv1 hq1 ho1 hp1 hso1 hs1)
                 | ((with_reducible refine at_alloc (T := 58) (dst := some 24) ?_); refine wl_newb rfl #[.int .i64 0, .int .i64 0, .slice none 0 0, .int .u16 0, .int .u16 0, .slice none 0 0, .int .i64 0, .bool false, .int .i64 0, .bool false, .int .i64 0, .bool false, .int .i64 0, .bool false, .int .i64 0, .bool false, .int .i64 0, .bool false, .int .i64 0, .bool false, .int .i64 0, .bool false, .int .i64 0] 58 (fun _ => rfl) ?_; intro b_24 w2 hm2; replace hv := hv.madeAt hm2; clear hm2)
                 | (first | ((with_reducible refine at_store (T := 58) ?_); refine wl_stv rfl b_24 rfl _ rfl _ hv.vars.ro hv.vars.so 23 infoBk23 rfl rfl (by simp [Value.oneCell']) ?_; intro w2 hw2; replace hv := hv.sets (by repeat first | exact .z | apply SetM.s) hw2; clear hw2) | ((with_reducible refine at_store (T := 58) ?_); refine wl_stv rfl b_6 rfl _ rfl _ hv.vars.ro hv.vars.so 23 infoBk23 rfl rfl (by simp [Value.oneCell']) ?_; intro w2 hw2; replace hv := hv.sets (by repeat first | exact .z | apply SetM.s) hw2; clear hw2))
                 | ((with_reducible refine at_load (T := 4) ?_); refine wl_ldc rfl b_22 0 rfl _ hv.vars.ro _ Tryz.underlying4 rfl (.bool false) rfl ?_)
                 | ((with_reducible refine at_store (T := 4) ?_); refine wl_stc rfl b_22 0 rfl (.bool true) rfl _ hv.vars.ro hv.vars.so (by kernel_rfl) rfl (by show 0 < 4; decide) ?_; intro w2 hw2; replace hv := hv.sets (by repeat first | exact .z | apply SetM.s) hw2; clear hw2))
               have hkn := HGK.out
               have HG1x := HG1.out
               go_roundw
               case rel => exact ⟨g1, true, false, false, false, by omega, by go_num, by rw [← HG1.out, HJ.out]; rfl, by rw [← HG1.out, HJ.out]; rfl, by rw [← HG1.out, HJ.out]; rfl, by rw [← HG1.out, HJ.out]; rfl, vb, vc, fc8, cc8, sc, cn2, c2, nf1, nc1, 0, h1, h2, h3, 0, s1, s2, s3, fa8, ca8, sa, a2, false, b1, b2, b3, ss, cs, M, free8, rest, R6, hv.drop, HM.out.mono HS8.out, HMF.out, HQ8.out, HO8.out, (by have h9 := HCH2.out; rw [HG1.out] at h9; exact h9), ⟨(by have h9 := SlE.done (g := g) (k := k); rw [HG1.out] at h9; have e9 := HJ.out; subst e9; exact h9), (by have h9 := HSF.out.e1.less (by have := HJ.out; omega); rw [HG1.out] at h9; exact h9), (by have h9 := HSF.out.e2.less (by have := HJ.out; omega); rw [HG1.out] at h9; exact h9), (by have h9 := HSF.out.e3.less (by have := HJ.out; omega); rw [HG1.out] at h9; exact h9)⟩, HD.out.mono HS8.out, HSL.out, HCN.out, by have := HF3.out; have := HNF0.out; omega, by have := HNC.out; have := HNC0.out; omega, (fun h => by omega), fun x hx => HS8.out x (HRK.out x hx)⟩
               case measure => simp [intOf] <;> omega
             · have HJ : Hid (g = 1) := Lib.hid hj
               obtain ⟨rfl, rfl, rfl, rfl⟩ : q0 = true ∧ q1 = false ∧ q2 = false ∧ q3 = false := ⟨by rw [hq0, hj]; rfl, by rw [hq1, hj]; rfl, by rw [hq2, hj]; rfl, by rw [hq3, hj]; rfl⟩
               obtain ⟨g1, hg1⟩ : ∃ g1, g + 1 = g1 := ⟨_, rfl⟩
               have HG1 := Lib.hid hg1
               have HG6 : Hid (g1 < 65536) := Lib.hid (by omega)
               have HGK := Lib.hid hgk
               have HK6 : Hid (k < 65536) := Lib.hid (by have := HK4.out; omega)
               have HGN : Hid (k ≤ g + nc) := Lib.hid (by have := HNC0.out; omega)
               obtain ⟨c0, rest, hcc, hc0, hcd, hcr, hcr2⟩ := HCH.out.cons hgk
               have HCC := Lib.hid hcc
               have HC0 := Lib.hid hc0
               have HCR : Hid (1 ≤ c0.rm) := Lib.hid (by rw [hcr]; exact Nat.le_refl 1)
               have HCH2 := Lib.hid hcr2
               obtain ⟨nf1, hnf1⟩ : ∃ n, nf + c0.ds.length = n := ⟨_, rfl⟩
               have HF1 := Lib.hid hnf1
               have HF3 : Hid (nf1 = nf + 3) := Lib.hid (by rw [← hnf1, hcd]; rfl)
               obtain ⟨nc1, hnc1⟩ : ∃ n, nc = n + 1 := ⟨nc - 1, by have := HNC0.out; omega⟩
               have HNC := Lib.hid hnc1
               have HIX : Hid (idxF (fun r : Rq => r.1 && r.2.1 == 3 * g) [(b0, h0, false, (s0 : Int)), (b1, h1, false, (s1 : Int)), (b2, h2, false, (s2 : Int)), (b3, h3, false, (s3 : Int))] = 1) := Lib.hid ((HSF.out.idx hgk HK4.out rfl).trans (by rw [hj]; rfl))
               have HB := Lib.hid (HSF.out.blk (by omega) HK4.out HQ.out HO.out HCH.out)
               have hgi : (g : Int) < (k : Int) := by omega
               clear hj hq0 hq1 hq2 hq3 hg1 hcc hc0 hcd hcr hcr2 hnf1 hnc1 hgk
               go_wp2_with (first
                 | ((with_reducible refine at_load (T := 26) ?_); refine wl_ldv rfl b_5 rfl _ hv.vars.ro 1 _ Tryz.underlying26 rfl infoM (by decide) rfl ?_)
                 | (first | ((with_reducible refine at_load (T := 58) ?_); refine wl_ldv rfl b_6 rfl _ hv.vars.ro 23 _ Tryz.underlying58 rfl infoBk23 (by decide) rfl ?_) | ((with_reducible refine at_load (T := 58) ?_); refine wl_ldv rfl b_24 rfl _ hv.vars.ro 23 _ Tryz.underlying58 rfl infoBk23 (by decide) rfl ?_))
                 | (go_at_call 23; (refine (Done_1 (f0 := false) (f1 := false) (f2 := false) (f3 := false) (free := free) (chs := chs) (av := k) (la := g) (fn := nf) (cn := nc) (nf1 := nf1) (nc1 := nc1) (la1 := g1) (us := k) (hd := 3 * g) (ln := 1) (x := getN M 1060 1) (c0 := c0) (rest := rest) (M := M) hv HM.out HB.out HMF.out.ui HG1.out HG6.out HGK.out HGN.out (HMF.out.us g HGK.out).1 (HMF.out.us g HGK.out).2 rfl HCC.out HC0.out HCR.out HF1.out HNC.out HK6.out HIX.out rfl).mono ?_); rintro e w1 ⟨fa8, fc8, ca8, cc8, free8, R6, e1, rfl, he1, hv1, hq1, ho1, hp1, hso1, hs1⟩; replace hv := hv1; have HQ8 := Lib.hid hq1; have HO8 := Lib.hid ho1; have HS8 := Lib.hid hs1; clear he1 hv1 hq1 ho1 hp1 hso1 hs1)
                 | ((with_reducible refine at_alloc (T := 58) (dst := some 24) ?_); refine wl_newb rfl #[.int .i64 0, .int .i64 0, .slice none 0 0, .int .u16 0, .int .u16 0, .slice none 0 0, .int .i64 0, .bool false, .int .i64 0, .bool false, .int .i64 0, .bool false, .int .i64 0, .bool false, .int .i64 0, .bool false, .int .i64 0, .bool false, .int .i64 0, .bool false, .int .i64 0, .bool false, .int .i64 0] 58 (fun _ => rfl) ?_; intro b_24 w2 hm2; replace hv := hv.madeAt hm2; clear hm2)
                 | (first | ((with_reducible refine at_store (T := 58) ?_); refine wl_stv rfl b_24 rfl _ rfl _ hv.vars.ro hv.vars.so 23 infoBk23 rfl rfl (by simp [Value.oneCell']) ?_; intro w2 hw2; replace hv := hv.sets (by repeat first | exact .z | apply SetM.s) hw2; clear hw2) | ((with_reducible refine at_store (T := 58) ?_); refine wl_stv rfl b_6 rfl _ rfl _ hv.vars.ro hv.vars.so 23 infoBk23 rfl rfl (by simp [Value.oneCell']) ?_; intro w2 hw2; replace hv := hv.sets (by repeat first | exact .z | apply SetM.s) hw2; clear hw2))
                 | ((with_reducible refine at_load (T := 4) ?_); refine wl_ldc rfl b_22 1 rfl _ hv.vars.ro _ Tryz.underlying4 rfl (.bool false) rfl ?_)
                 | ((with_reducible refine at_store (T := 4) ?_); refine wl_stc rfl b_22 1 rfl (.bool true) rfl _ hv.vars.ro hv.vars.so (by kernel_rfl) rfl (by show 1 < 4; decide) ?_; intro w2 hw2; replace hv := hv.sets (by repeat first | exact .z | apply SetM.s) hw2; clear hw2))
               have hkn := HGK.out
               have HG1x := HG1.out
               go_roundw
               case rel => exact ⟨g1, true, true, false, false, by omega, by go_num, by rw [← HG1.out, HJ.out]; rfl, by rw [← HG1.out, HJ.out]; rfl, by rw [← HG1.out, HJ.out]; rfl, by rw [← HG1.out, HJ.out]; rfl, vb, vc, fc8, cc8, sc, cn2, c2, nf1, nc1, h0, 0, h2, h3, s0, 0, s2, s3, fa8, ca8, sa, a2, b0, false, b2, b3, ss, cs, M, free8, rest, R6, hv.drop, HM.out.mono HS8.out, HMF.out, HQ8.out, HO8.out, (by have h9 := HCH2.out; rw [HG1.out] at h9; exact h9), ⟨(by have h9 := HSF.out.e0.less (by have := HJ.out; omega); rw [HG1.out] at h9; exact h9), (by have h9 := SlE.done (g := g) (k := k); rw [HG1.out] at h9; have e9 := HJ.out; subst e9; exact h9), (by have h9 := HSF.out.e2.less (by have := HJ.out; omega); rw [HG1.out] at h9; exact h9), (by have h9 := HSF.out.e3.less (by have := HJ.out; omega); rw [HG1.out] at h9; exact h9)⟩, HD.out.mono HS8.out, HSL.out, HCN.out, by have := HF3.out; have := HNF0.out; omega, by have := HNC.out; have := HNC0.out; omega, (fun h => by omega), fun x hx => HS8.out x (HRK.out x hx)⟩
               case measure => simp [intOf] <;> omega
             · have HJ : Hid (g = 2) := Lib.hid hj
               obtain ⟨rfl, rfl, rfl, rfl⟩ : q0 = true ∧ q1 = true ∧ q2 = false ∧ q3 = false := ⟨by rw [hq0, hj]; rfl, by rw [hq1, hj]; rfl, by rw [hq2, hj]; rfl, by rw [hq3, hj]; rfl⟩
               obtain ⟨g1, hg1⟩ : ∃ g1, g + 1 = g1 := ⟨_, rfl⟩
               have HG1 := Lib.hid hg1
               have HG6 : Hid (g1 < 65536) := Lib.hid (by omega)
               have HGK := Lib.hid hgk
               have HK6 : Hid (k < 65536) := Lib.hid (by have := HK4.out; omega)
               have HGN : Hid (k ≤ g + nc) := Lib.hid (by have := HNC0.out; omega)
               obtain ⟨c0, rest, hcc, hc0, hcd, hcr, hcr2⟩ := HCH.out.cons hgk
               have HCC := Lib.hid hcc
               have HC0 := Lib.hid hc0
               have HCR : Hid (1 ≤ c0.rm) := Lib.hid (by rw [hcr]; exact Nat.le_refl 1)
               have HCH2 := Lib.hid hcr2
               obtain ⟨nf1, hnf1⟩ : ∃ n, nf + c0.ds.length = n := ⟨_, rfl⟩
               have HF1 := Lib.hid hnf1
               have HF3 : Hid (nf1 = nf + 3) := Lib.hid (by rw [← hnf1, hcd]; rfl)
               obtain ⟨nc1, hnc1⟩ : ∃ n, nc = n + 1 := ⟨nc - 1, by have := HNC0.out; omega⟩
               have HNC := Lib.hid hnc1
               have HIX : Hid (idxF (fun r : Rq => r.1 && r.2.1 == 3 * g) [(b0, h0, false, (s0 : Int)), (b1, h1, false, (s1 : Int)), (b2, h2, false, (s2 : Int)), (b3, h3, false, (s3 : Int))] = 2) := Lib.hid ((HSF.out.idx hgk HK4.out rfl).trans (by rw [hj]; rfl))
               have HB := Lib.hid (HSF.out.blk (by omega) HK4.out HQ.out HO.out HCH.out)
               have hgi : (g : Int) < (k : Int) := by omega
               clear hj hq0 hq1 hq2 hq3 hg1 hcc hc0 hcd hcr hcr2 hnf1 hnc1 hgk
               go_wp2_with (first
                 | ((with_reducible refine at_load (T := 26) ?_); refine wl_ldv rfl b_5 rfl _ hv.vars.ro 1 _ Tryz.underlying26 rfl infoM (by decide) rfl ?_)
                 | (first | ((with_reducible refine at_load (T := 58) ?_); refine wl_ldv rfl b_6 rfl _ hv.vars.ro 23 _ Tryz.underlying58 rfl infoBk23 (by decide) rfl ?_) | ((with_reducible refine at_load (T := 58) ?_); refine wl_ldv rfl b_24 rfl _ hv.vars.ro 23 _ Tryz.underlying58 rfl infoBk23 (by decide) rfl ?_))
                 | (go_at_call 23; (refine (Done_2 (f0 := false) (f1 := false) (f2 := false) (f3 := false) (free := free) (chs := chs) (av := k) (la := g) (fn := nf) (cn := nc) (nf1 := nf1) (nc1 := nc1) (la1 := g1) (us := k) (hd := 3 * g) (ln := 1) (x := getN M 1348 1) (c0 := c0) (rest := rest) (M := M) hv HM.out HB.out HMF.out.ui HG1.out HG6.out HGK.out HGN.out (HMF.out.us g HGK.out).1 (HMF.out.us g HGK.out).2 rfl HCC.out HC0.out HCR.out HF1.out HNC.out HK6.out HIX.out rfl).mono ?_); rintro e w1 ⟨fa8, fc8, ca8, cc8, free8, R6, e1, rfl, he1, hv1, hq1, ho1, hp1, hso1, hs1⟩; replace hv := hv1; have HQ8 := Lib.hid hq1; have HO8 := Lib.hid ho1; have HS8 := Lib.hid hs1; clear he1 hv1 hq1 ho1 hp1 hso1 hs1)
                 | ((with_reducible refine at_alloc (T := 58) (dst := some 24) ?_); refine wl_newb rfl #[.int .i64 0, .int .i64 0, .slice none 0 0, .int .u16 0, .int .u16 0, .slice none 0 0, .int .i64 0, .bool false, .int .i64 0, .bool false, .int .i64 0, .bool false, .int .i64 0, .bool false, .int .i64 0, .bool false, .int .i64 0, .bool false, .int .i64 0, .bool false, .int .i64 0, .bool false, .int .i64 0] 58 (fun _ => rfl) ?_; intro b_24 w2 hm2; replace hv := hv.madeAt hm2; clear hm2)
                 | (first | ((with_reducible refine at_store (T := 58) ?_); refine wl_stv rfl b_24 rfl _ rfl _ hv.vars.ro hv.vars.so 23 infoBk23 rfl rfl (by simp [Value.oneCell']) ?_; intro w2 hw2; replace hv := hv.sets (by repeat first | exact .z | apply SetM.s) hw2; clear hw2) | ((with_reducible refine at_store (T := 58) ?_); refine wl_stv rfl b_6 rfl _ rfl _ hv.vars.ro hv.vars.so 23 infoBk23 rfl rfl (by simp [Value.oneCell']) ?_; intro w2 hw2; replace hv := hv.sets (by repeat first | exact .z | apply SetM.s) hw2; clear hw2))
                 | ((with_reducible refine at_load (T := 4) ?_); refine wl_ldc rfl b_22 2 rfl _ hv.vars.ro _ Tryz.underlying4 rfl (.bool false) rfl ?_)
                 | ((with_reducible refine at_store (T := 4) ?_); refine wl_stc rfl b_22 2 rfl (.bool true) rfl _ hv.vars.ro hv.vars.so (by kernel_rfl) rfl (by show 2 < 4; decide) ?_; intro w2 hw2; replace hv := hv.sets (by repeat first | exact .z | apply SetM.s) hw2; clear hw2))
               have hkn := HGK.out
               have HG1x := HG1.out
               go_roundw
               case rel => exact ⟨g1, true, true, true, false, by omega, by go_num, by rw [← HG1.out, HJ.out]; rfl, by rw [← HG1.out, HJ.out]; rfl, by rw [← HG1.out, HJ.out]; rfl, by rw [← HG1.out, HJ.out]; rfl, vb, vc, fc8, cc8, sc, cn2, c2, nf1, nc1, h0, h1, 0, h3, s0, s1, 0, s3, fa8, ca8, sa, a2, b0, b1, false, b3, ss, cs, M, free8, rest, R6, hv.drop, HM.out.mono HS8.out, HMF.out, HQ8.out, HO8.out, (by have h9 := HCH2.out; rw [HG1.out] at h9; exact h9), ⟨(by have h9 := HSF.out.e0.less (by have := HJ.out; omega); rw [HG1.out] at h9; exact h9), (by have h9 := HSF.out.e1.less (by have := HJ.out; omega); rw [HG1.out] at h9; exact h9), (by have h9 := SlE.done (g := g) (k := k); rw [HG1.out] at h9; have e9 := HJ.out; subst e9; exact h9), (by have h9 := HSF.out.e3.less (by have := HJ.out; omega); rw [HG1.out] at h9; exact h9)⟩, HD.out.mono HS8.out, HSL.out, HCN.out, by have := HF3.out; have := HNF0.out; omega, by have := HNC.out; have := HNC0.out; omega, (fun h => by omega), fun x hx => HS8.out x (HRK.out x hx)⟩
               case measure => simp [intOf] <;> omega
             · have HJ : Hid (g = 3) := Lib.hid hj
               obtain ⟨rfl, rfl, rfl, rfl⟩ : q0 = true ∧ q1 = true ∧ q2 = true ∧ q3 = false := ⟨by rw [hq0, hj]; rfl, by rw [hq1, hj]; rfl, by rw [hq2, hj]; rfl, by rw [hq3, hj]; rfl⟩
               obtain ⟨g1, hg1⟩ : ∃ g1, g + 1 = g1 := ⟨_, rfl⟩
               have HG1 := Lib.hid hg1
               have HG6 : Hid (g1 < 65536) := Lib.hid (by omega)
               have HGK := Lib.hid hgk
               have HK6 : Hid (k < 65536) := Lib.hid (by have := HK4.out; omega)
               have HGN : Hid (k ≤ g + nc) := Lib.hid (by have := HNC0.out; omega)
               obtain ⟨c0, rest, hcc, hc0, hcd, hcr, hcr2⟩ := HCH.out.cons hgk
               have HCC := Lib.hid hcc
               have HC0 := Lib.hid hc0
               have HCR : Hid (1 ≤ c0.rm) := Lib.hid (by rw [hcr]; exact Nat.le_refl 1)
               have HCH2 := Lib.hid hcr2
               obtain ⟨nf1, hnf1⟩ : ∃ n, nf + c0.ds.length = n := ⟨_, rfl⟩
               have HF1 := Lib.hid hnf1
               have HF3 : Hid (nf1 = nf + 3) := Lib.hid (by rw [← hnf1, hcd]; rfl)
               obtain ⟨nc1, hnc1⟩ : ∃ n, nc = n + 1 := ⟨nc - 1, by have := HNC0.out; omega⟩
               have HNC := Lib.hid hnc1
               have HIX : Hid (idxF (fun r : Rq => r.1 && r.2.1 == 3 * g) [(b0, h0, false, (s0 : Int)), (b1, h1, false, (s1 : Int)), (b2, h2, false, (s2 : Int)), (b3, h3, false, (s3 : Int))] = 3) := Lib.hid ((HSF.out.idx hgk HK4.out rfl).trans (by rw [hj]; rfl))
               have HB := Lib.hid (HSF.out.blk (by omega) HK4.out HQ.out HO.out HCH.out)
               have hgi : (g : Int) < (k : Int) := by omega
               clear hj hq0 hq1 hq2 hq3 hg1 hcc hc0 hcd hcr hcr2 hnf1 hnc1 hgk
               go_wp2_with (first
                 | ((with_reducible refine at_load (T := 26) ?_); refine wl_ldv rfl b_5 rfl _ hv.vars.ro 1 _ Tryz.underlying26 rfl infoM (by decide) rfl ?_)
                 | (first | ((with_reducible refine at_load (T := 58) ?_); refine wl_ldv rfl b_6 rfl _ hv.vars.ro 23 _ Tryz.underlying58 rfl infoBk23 (by decide) rfl ?_) | ((with_reducible refine at_load (T := 58) ?_); refine wl_ldv rfl b_24 rfl _ hv.vars.ro 23 _ Tryz.underlying58 rfl infoBk23 (by decide) rfl ?_))
                 | (go_at_call 23; (refine (Done_3 (f0 := false) (f1 := false) (f2 := false) (f3 := false) (free := free) (chs := chs) (av := k) (la := g) (fn := nf) (cn := nc) (nf1 := nf1) (nc1 := nc1) (la1 := g1) (us := k) (hd := 3 * g) (ln := 1) (x := getN M 1636 1) (c0 := c0) (rest := rest) (M := M) hv HM.out HB.out HMF.out.ui HG1.out HG6.out HGK.out HGN.out (HMF.out.us g HGK.out).1 (HMF.out.us g HGK.out).2 rfl HCC.out HC0.out HCR.out HF1.out HNC.out HK6.out HIX.out rfl).mono ?_); rintro e w1 ⟨fa8, fc8, ca8, cc8, free8, R6, e1, rfl, he1, hv1, hq1, ho1, hp1, hso1, hs1⟩; replace hv := hv1; have HQ8 := Lib.hid hq1; have HO8 := Lib.hid ho1; have HS8 := Lib.hid hs1; clear he1 hv1 hq1 ho1 hp1 hso1 hs1)
                 | ((with_reducible refine at_alloc (T := 58) (dst := some 24) ?_); refine wl_newb rfl #[.int .i64 0, .int .i64 0, .slice none 0 0, .int .u16 0, .int .u16 0, .slice none 0 0, .int .i64 0, .bool false, .int .i64 0, .bool false, .int .i64 0, .bool false, .int .i64 0, .bool false, .int .i64 0, .bool false, .int .i64 0, .bool false, .int .i64 0, .bool false, .int .i64 0, .bool false, .int .i64 0] 58 (fun _ => rfl) ?_; intro b_24 w2 hm2; replace hv := hv.madeAt hm2; clear hm2)
                 | (first | ((with_reducible refine at_store (T := 58) ?_); refine wl_stv rfl b_24 rfl _ rfl _ hv.vars.ro hv.vars.so 23 infoBk23 rfl rfl (by simp [Value.oneCell']) ?_; intro w2 hw2; replace hv := hv.sets (by repeat first | exact .z | apply SetM.s) hw2; clear hw2) | ((with_reducible refine at_store (T := 58) ?_); refine wl_stv rfl b_6 rfl _ rfl _ hv.vars.ro hv.vars.so 23 infoBk23 rfl rfl (by simp [Value.oneCell']) ?_; intro w2 hw2; replace hv := hv.sets (by repeat first | exact .z | apply SetM.s) hw2; clear hw2))
                 | ((with_reducible refine at_load (T := 4) ?_); refine wl_ldc rfl b_22 3 rfl _ hv.vars.ro _ Tryz.underlying4 rfl (.bool false) rfl ?_)
                 | ((with_reducible refine at_store (T := 4) ?_); refine wl_stc rfl b_22 3 rfl (.bool true) rfl _ hv.vars.ro hv.vars.so (by kernel_rfl) rfl (by show 3 < 4; decide) ?_; intro w2 hw2; replace hv := hv.sets (by repeat first | exact .z | apply SetM.s) hw2; clear hw2))
               have hkn := HGK.out
               have HG1x := HG1.out
               go_roundw
               case rel => exact ⟨g1, true, true, true, true, by omega, by go_num, by rw [← HG1.out, HJ.out]; rfl, by rw [← HG1.out, HJ.out]; rfl, by rw [← HG1.out, HJ.out]; rfl, by rw [← HG1.out, HJ.out]; rfl, vb, vc, fc8, cc8, sc, cn2, c2, nf1, nc1, h0, h1, h2, 0, s0, s1, s2, 0, fa8, ca8, sa, a2, b0, b1, b2, false, ss, cs, M, free8, rest, R6, hv.drop, HM.out.mono HS8.out, HMF.out, HQ8.out, HO8.out, (by have h9 := HCH2.out; rw [HG1.out] at h9; exact h9), ⟨(by have h9 := HSF.out.e0.less (by have := HJ.out; omega); rw [HG1.out] at h9; exact h9), (by have h9 := HSF.out.e1.less (by have := HJ.out; omega); rw [HG1.out] at h9; exact h9), (by have h9 := HSF.out.e2.less (by have := HJ.out; omega); rw [HG1.out] at h9; exact h9), (by have h9 := SlE.done (g := g) (k := k); rw [HG1.out] at h9; have e9 := HJ.out; subst e9; exact h9)⟩, HD.out.mono HS8.out, HSL.out, HCN.out, by have := HF3.out; have := HNF0.out; omega, by have := HNC.out; have := HNC0.out; omega, (fun h => by omega), fun x hx => HS8.out x (HRK.out x hx)⟩
               case measure => simp [intOf] <;> omega
           · obtain rfl : k = g := by omega
             clear hgk hg
             obtain ⟨⟨rfl, rfl, rfl⟩, ⟨rfl, rfl, rfl⟩, ⟨rfl, rfl, rfl⟩, ⟨rfl, rfl, rfl⟩⟩ : (b0 = false ∧ h0 = 0 ∧ s0 = 0) ∧ (b1 = false ∧ h1 = 0 ∧ s1 = 0) ∧ (b2 = false ∧ h2 = 0 ∧ s2 = 0) ∧ (b3 = false ∧ h3 = 0 ∧ s3 = 0) := ⟨HSF.out.e0.out, HSF.out.e1.out, HSF.out.e2.out, HSF.out.e3.out⟩
             have HB := Lib.hid (HSF.out.blk (Nat.le_refl _) HK4.out HQ.out HO.out HCH.out)
             have HK6 : Hid (k < 65536) := Lib.hid (by have := HK4.out; omega)
             replace hv : Mem w wr [(b_22, #[.bool q0, .bool q1, .bool q2, .bool q3]), (b_10, #[.int .i64 0, .int .i64 16, .int .u16 k, .int .u16 k]), (b_8, #[.slice sa 8 sc, .slice a2 cn2 c2]), (b_6, #[.int .i64 0, .int .i64 16, .slice fa nf fc, .int .u16 k, .int .u16 k, .slice ca nc cc, .int .i64 500, .bool false, .int .i64 0, .bool false, .int .i64 0, .bool false, .int .i64 0, .bool false, .int .i64 0, .bool false, .int .i64 0, .bool false, .int .i64 0, .bool false, .int .i64 0, .bool false, .int .i64 0]), (b_5, #[.slice (some ⟨vb, 0, none⟩) 1700 vc])] Rk := hv
             have HEQ := eqA4R
             have ymin : min (4 : Int) (i : Int) = (k : Int) := by have := HKB.out; omega
             have hgi : ¬ (k : Int) < (k : Int) := by omega
             clear hq0 hq1 hq2 hq3
             go_wp2_with (first
               | ((with_reducible refine at_load (T := 26) ?_); refine wl_ldv rfl b_5 rfl _ hv.vars.ro 1 _ Tryz.underlying26 rfl infoM (by decide) rfl ?_)
               | ((with_reducible refine at_load (T := 58) ?_); refine wl_ldv rfl b_6 rfl _ hv.vars.ro 23 _ Tryz.underlying58 rfl infoBk23 (by decide) rfl ?_)
               | (go_at_call 23; (refine (Done_none (b0 := false) (h0 := 0) (f0 := false) (s0 := 0) (b1 := false) (h1 := 0) (f1 := false) (s1 := 0) (b2 := false) (h2 := 0) (f2 := false) (s2 := 0) (b3 := false) (h3 := 0) (f3 := false) (s3 := 0) (free := free) (chs := chs) (av := k) (la := k) (fn := nf) (cn := nc) (M := M) hv HM.out HB.out HMF.out.ui HK6.out).mono ?_); rintro e w1 ⟨rfl, hv1⟩; replace hv := hv1; clear hv1)
               | ((with_reducible refine at_alloc (T := 58) (dst := some 28) ?_); refine wl_newb rfl #[.int .i64 0, .int .i64 0, .slice none 0 0, .int .u16 0, .int .u16 0, .slice none 0 0, .int .i64 0, .bool false, .int .i64 0, .bool false, .int .i64 0, .bool false, .int .i64 0, .bool false, .int .i64 0, .bool false, .int .i64 0, .bool false, .int .i64 0, .bool false, .int .i64 0, .bool false, .int .i64 0] 58 (fun _ => rfl) ?_; intro b_28 w2 hm2; replace hv := hv.madeAt hm2; clear hm2)
               | ((with_reducible refine at_store (T := 58) ?_); refine wl_stv rfl b_28 rfl _ rfl _ hv.vars.ro hv.vars.so 23 infoBk23 rfl rfl (by simp [Value.oneCell']) ?_; intro w2 hw2; replace hv := hv.sets (by repeat first | exact .z | apply SetM.s) hw2; clear hw2)
               | ((with_reducible refine at_load (T := 56) ?_); refine wl_ldp rfl b_6 7 rfl _ hv.vars.ro 16 _ Tryz.underlying56 rfl infoA16 (by decide) (by show 7 + 16 ≤ 23; decide) #[.bool false, .int .i64 0, .bool false, .int .i64 0, .bool false, .int .i64 0, .bool false, .int .i64 0, .bool false, .int .i64 0, .bool false, .int .i64 0, .bool false, .int .i64 0, .bool false, .int .i64 0] rfl ?_)
               | ((with_reducible refine at_build (T := 56) ?_); refine wl_build rfl _ rfl built_zr4 ?_)
               | (go_at_call 19; (with_reducible refine (heads09 _).mono ?_); rintro e w1 ⟨rfl, hn1⟩; replace hv := hv.new hn1; clear hn1))
             go_ret
             exact ⟨rfl, hv.below⟩
theorem VblkFour_any (ba : Option Addr) (bn bc : Nat) (bs : List Nat) (st : Int) (w : World) (R : List (Nat × Value × List Value)) (hv : Mem w w [] R) (hc : (1, .slice ba bn bc, cellsB bs) ∈ R) (hg : goodB bs) : Calls Tryz.prog 5 #[.slice ba bn bc, .int .i64 st] w (fun e w' => e = .returned (.bool true) ∧ New w w') := by
 by_cases h0 : 8 < bn
 · exact Four_c1 ba bn bc bs st w R hv hc hg h0
 · exact Four_yes ba bn bc bs st w R hv hc hg h0
end Go.Proofs.YtjmibgomkgkhnaaGreat
