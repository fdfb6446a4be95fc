/-
 The walk of the law VnetCarries.
-/
import Derived.Test.YtjmibgomkgkhnaaGreatVnHD
set_option linter.unusedVariables false
set_option linter.unusedSimpArgs false
namespace Go.Proofs.Qu
open Go Go.RowKit Go.Proofs.Nm
def lotD (ts : List (Value × List Nat)) (f : Nat) : Nat → List Nat := fun j => (ts.getD (f + j) (.bool false, [])).2
theorem lotD_at {ts : List (Value × List Nat)} {f k i : Nat} {dv : Value} {D : List Nat} (hik : i = f + k) (h : i < ts.length) (hx : ts[i] = (dv, D)) : lotD ts f k = D := by
 subst hik
 unfold lotD
 rw [List.getD_eq_getElem?_getD, List.getElem?_eq_getElem h, hx]; rfl
def lensOk (ts : List (Value × List Nat)) (i : Nat) : Prop := ∀ j (h : j < ts.length), j < i → 1 ≤ ts[j].2.length ∧ ts[j].2.length ≤ 180
end Go.Proofs.Qu
namespace Go.Proofs.YtjmibgomkgkhnaaGreat
open Go.Proofs.Qu Go.Proofs.Nm Go.RowKit Go.Proofs
def BringC (R : List (Nat × Value × List Value)) (f k i rav rla rfc rcc tav tla tfn tfc tcn tcc i0 i1 i2 i3 o0 o1 o2 o3 : Nat) (rfa rca tfa tca : Option Addr) (D : Nat → List Nat) (v : Value) (R' : List (Nat × Value × List Value)) : Prop :=
 ∃ vb1 vc1 : Nat, v = .tuple #[.agg #[.slice (some ⟨vb1, 0, none⟩) 1900 vc1], .agg #[.int .i64 0, .int .i64 4, .int .u16 ((i + 1 : Nat) : Int), .int .u16 ((i + 1 : Nat) : Int)], .int .i64 0] ∧ DrS R' vb1 vc1 rav rla rfc rcc tav tla tfn tfc tcn tcc i0 i1 i2 i3 o0 o1 o2 o3 rfa rca tfa tca f f 0 (k + 1) 0 0 k D D ∧ ∀ x ∈ R, x ∈ R'
theorem Bring_C {w0 w : World} {L : List (Nat × Array Value)} {R R0 : List (Nat × Value × List Value)} (hv : Mem w0 w L R) (hR : ∀ x ∈ R0, x ∈ R) {vb vc rav rla rfc rcc tav tla tfn tfc tcn tcc i0 i1 i2 i3 o0 o1 o2 o3 : Nat} {rfa rca tfa tca : Option Addr} {f k i dn dc : Nat} {da : Option Addr} {D : Nat → List Nat} {D0 : List Nat} (h : DrS R0 vb vc rav rla rfc rcc tav tla tfn tfc tcn tcc i0 i1 i2 i3 o0 o1 o2 o3 rfa rca tfa tca f f 0 k 0 0 k D D) (hik : i = f + k) (hk : k < 4) (hD : D k = D0) (hdr : (1, .slice da dn dc, cellsB D0) ∈ R) (hg : goodB D0) (hn : dn ≤ 180) :
   Calls Tryz.prog 10 #[.agg #[.slice (some ⟨vb, 0, none⟩) 1900 vc], .agg #[.int .i64 0, .int .i64 4, .int .u16 i, .int .u16 i], .slice da dn dc] w fun e w' => ∃ v R', e = .returned v ∧ BringC R0 f k i rav rla rfc rcc tav tla tfn tfc tcn tcc i0 i1 i2 i3 o0 o1 o2 o3 rfa rca tfa tca D v R' ∧ Mem w0 w' L R' ∧ ∀ x ∈ R, x ∈ R' := by
 subst hD
 refine (Bring_L (sn := i) hv (h.mono hR) hik (by omega) hdr hg (by omega)).mono ?_
 rintro e w' ⟨vb5, vc5, sn5, R5, rfl, hv1, hd1, hsn, hs1⟩
 obtain rfl : sn5 = i + 1 := by omega
 exact ⟨_, R5, rfl, ⟨vb5, vc5, rfl, hd1, fun x hx => hs1 x (hR x hx)⟩, hv1, hs1⟩
theorem Send_C {w0 w : World} {L : List (Nat × Array Value)} {R R0 : List (Nat × Value × List Value)} (hv : Mem w0 w L R) (hR : ∀ x ∈ R0, x ∈ R) {vb vc rav rla rfc rcc tav tla tfn tfc tcn tcc i0 i1 i2 i3 o0 o1 o2 o3 : Nat} {rfa rca tfa tca : Option Addr} {f k rk dn dc : Nat} {da : Option Addr} {D : Nat → List Nat} {D0 : List Nat} (h : DrS R0 vb vc rav rla rfc rcc tav tla tfn tfc tcn tcc i0 i1 i2 i3 o0 o1 o2 o3 rfa rca tfa tca f f 0 rk 0 0 k D D) (hk : k < 4) (hD : D k = D0) (hdr : (1, .slice da dn dc, cellsB D0) ∈ R) (hg : goodB D0) (hn1 : 1 ≤ dn) (hn : dn ≤ 180) :
   Calls Tryz.prog 13 #[.agg #[.slice (some ⟨vb, 0, none⟩) 1900 vc], .agg #[.int .i64 0, .int .i64 4, .slice rfa 0 rfc, .int .u16 rav, .int .u16 rla, .slice rca 4 rcc, .int .i64 120, .int .i64 4, .slice tfa tfn tfc, .int .u16 tav, .int .u16 tla, .slice tca tcn tcc, .int .i64 300, .int .i64 i0, .int .i64 i1, .int .i64 i2, .int .i64 i3, .int .i64 o0, .int .i64 o1, .int .i64 o2, .int .i64 o3], .slice da dn dc] w fun e w' => ∃ v R', e = .returned v ∧ SentS R0 rav rla rfc rcc tla i0 i1 i2 i3 rfa rca f f 0 rk k D D v R' ∧ Mem w0 w' L R' ∧ ∀ x ∈ R, x ∈ R' := by
 subst hD
 refine (Send_L (tj := 0) hv (h.mono hR) hk hdr hg hn1 hn).mono ?_
 rintro e w' ⟨v, R3, rfl, ⟨vb3, vc3, tav3, nf1, fc3, nc1, cc3, p0, p1, p2, p3, fa3, ca3, e1, hd1, hs1⟩, hv1⟩
 exact ⟨v, R3, rfl, ⟨vb3, vc3, tav3, nf1, fc3, nc1, cc3, p0, p1, p2, p3, fa3, ca3, e1, hd1, fun x hx => hs1 x (hR x hx)⟩, hv1, hs1⟩
set_option maxRecDepth 100000 in
set_option maxHeartbeats 16000000 in
theorem NCar_c1 (la : Option Addr) (ln lc : Nat) (ts : List (Value × List Nat)) (many : Int) (w : World) (R : List (Nat × Value × List Value)) (hv : Mem w w [] R) (hl : (1, .slice la ln lc, ts.map (·.1)) ∈ R) (ht : ∀ p ∈ ts, (1, p.1, cellsB p.2) ∈ R ∧ goodB p.2) (h0 : 30 < ln) : Calls Tryz.prog 4 #[.slice la ln lc, .int .i64 many] w (fun e w' => e = .returned (.bool true) ∧ New w w') := by
 have y0 : decide ((30 : Int) < (ln : Int)) = true := decide_eq_true (by omega)
 have z0 : decide (30 < ln) = true := decide_eq_true h0
 clear hl ht h0
 go_enter Tryz.func4, Tryz.ntmps4
 try simp only [List.append_eq, List.cons_append, List.nil_append]
 go_wp2_with (first
   | (go_at_call 7; (with_reducible refine (heads10 _).mono ?_); rintro e w1 ⟨rfl, hn1⟩; replace hv := hv.new hn1; clear hn1))
 go_ret
 exact ⟨rfl, hv.below⟩
set_option maxRecDepth 100000 in
set_option maxHeartbeats 16000000 in
theorem NCar_c2 (la : Option Addr) (ln lc : Nat) (ts : List (Value × List Nat)) (many : Int) (w : World) (R : List (Nat × Value × List Value)) (hv : Mem w w [] R) (hl : (1, .slice la ln lc, ts.map (·.1)) ∈ R) (ht : ∀ p ∈ ts, (1, p.1, cellsB p.2) ∈ R ∧ goodB p.2) (h0 : ¬ 30 < ln) (h1 : many < 1) : Calls Tryz.prog 4 #[.slice la ln lc, .int .i64 many] w (fun e w' => e = .returned (.bool true) ∧ New w w') := by
 have y0 : decide ((30 : Int) < (ln : Int)) = false := decide_eq_false (by omega)
 have z0 : decide (30 < ln) = false := decide_eq_false h0
 have y1 : decide (many < 1) = true := decide_eq_true h1
 clear hl ht h0 h1
 go_enter Tryz.func4, Tryz.ntmps4
 try simp only [List.append_eq, List.cons_append, List.nil_append]
 go_wp2_with (first
   | (go_at_call 7; (with_reducible refine (heads10 _).mono ?_); rintro e w1 ⟨rfl, hn1⟩; replace hv := hv.new hn1; clear hn1))
 go_ret
 exact ⟨rfl, hv.below⟩
set_option maxRecDepth 100000 in
set_option maxHeartbeats 16000000 in
theorem NCar_c3 (la : Option Addr) (ln lc : Nat) (ts : List (Value × List Nat)) (many : Int) (w : World) (R : List (Nat × Value × List Value)) (hv : Mem w w [] R) (hl : (1, .slice la ln lc, ts.map (·.1)) ∈ R) (ht : ∀ p ∈ ts, (1, p.1, cellsB p.2) ∈ R ∧ goodB p.2) (h0 : ¬ 30 < ln) (h1 : ¬ many < 1) (h2 : 4 < many) : Calls Tryz.prog 4 #[.slice la ln lc, .int .i64 many] w (fun e w' => e = .returned (.bool true) ∧ New w w') := by
 have y0 : decide ((30 : Int) < (ln : Int)) = false := decide_eq_false (by omega)
 have z0 : decide (30 < ln) = false := decide_eq_false h0
 have y1 : decide (many < 1) = false := decide_eq_false h1
 have y2 : decide (4 < many) = true := decide_eq_true h2
 clear hl ht h0 h1 h2
 go_enter Tryz.func4, Tryz.ntmps4
 try simp only [List.append_eq, List.cons_append, List.nil_append]
 go_wp2_with (first
   | (go_at_call 7; (with_reducible refine (heads10 _).mono ?_); rintro e w1 ⟨rfl, hn1⟩; replace hv := hv.new hn1; clear hn1))
 go_ret
 exact ⟨rfl, hv.below⟩
set_option maxRecDepth 100000 in
set_option maxHeartbeats 32000000 in
theorem NCar_yes (la : Option Addr) (ln lc : Nat) (ts : List (Value × List Nat)) (many : Nat) (w : World) (R : List (Nat × Value × List Value)) (hv : Mem w w [] R) (hl : (1, .slice la ln lc, ts.map (·.1)) ∈ R) (ht : ∀ p ∈ ts, (1, p.1, cellsB p.2) ∈ R ∧ goodB p.2) (h0 : ¬ 30 < ln) (h1 : 1 ≤ many) (h2 : many ≤ 4) : Calls Tryz.prog 4 #[.slice la ln lc, .int .i64 many] w (fun e w' => e = .returned (.bool true) ∧ New w w') := by
 have hln : ts.length = ln := by
   obtain ⟨_, _, _, e, g, _⟩ := hv.rd hl
   cases e
   simpa using g
 have HL := Lib.hid hl
 have HT := Lib.hid ht
 have HLN := Lib.hid hln
 have HL30 : Hid (ln ≤ 30) := Lib.hid (by omega)
 have HM1 := Lib.hid h1
 have HM4 := Lib.hid h2
 have y0 : decide ((30 : Int) < (ln : Int)) = false := decide_eq_false (by omega)
 have z0 : decide (30 < ln) = false := decide_eq_false h0
 have y1 : decide ((many : Int) < 1) = false := decide_eq_false (by omega)
 have z1 : decide (many < 1) = false := decide_eq_false (by omega)
 have y2 : decide ((4 : Int) < (many : Int)) = false := decide_eq_false (by omega)
 have z2 : decide (4 < many) = false := decide_eq_false (by omega)
 clear hl ht h0 hln h1 h2
 go_enter Tryz.func4, Tryz.ntmps4
 try simp only [List.append_eq, List.cons_append, List.nil_append]
 go_wp2
 go_loopw [5] (fun iv wr => ∃ i : Nat, i ≤ ln ∧ iv = .int .i64 i ∧ Mem w wr [] R ∧ Hid (lensOk ts i)) (fun iv _ => 100 - (intOf iv).toNat)
 case atStart => exact ⟨0, Nat.zero_le _, rfl, hv, Lib.hid (fun j h h' => by omega)⟩
 case round =>
   clear hv
   obtain ⟨i, hi0, rfl, hv, HLO⟩ := hrel
   by_cases hi : i < ln
   · have y9 : decide ((i : Int) < (ln : Int)) = true := decide_eq_true (by omega)
     have z9 : decide (i < ln) = true := decide_eq_true hi
     have hl30 := HL30.out
     have hil : i < ts.length := by rw [HLN.out]; exact hi
     have HSB : Hid (∀ x ∈ R, x ∈ R) := Lib.hid (fun x hx => hx)
     obtain ⟨⟨dv, D0⟩, hx⟩ : ∃ x, ts[i] = x := ⟨_, rfl⟩
     obtain ⟨hdr, hgd⟩ : (1, dv, cellsB D0) ∈ R ∧ goodB D0 := by
       have := HT.out ts[i] (List.getElem_mem hil)
       rw [hx] at this
       exact this
     have HLR := Lib.hid (HSB.out _ HL.out)
     have HDR1 := HSB.out _ hdr
     obtain ⟨da, dn, dc, hdv, gdl, gdc, _⟩ := id (hv.rd HDR1)
     subst hdv
     rw [cellsB_len, Nat.mul_one] at gdl
     have HX : Hid ((ts.map (·.1))[i]? = some (.slice da dn dc)) := Lib.hid (by rw [List.getElem?_map, List.getElem?_eq_getElem hil, hx]; rfl)
     have HGD := Lib.hid hgd
     have HDR := Lib.hid HDR1
     obtain ⟨lb, lo, _, _, e, hq⟩ := (hv.rd HLR.out).some (by rw [List.length_map]; omega)
     clear hq
     cases e
     have hki : (i : Int) ≤ 30 := by omega
     have hkl : (i : Int) < (ln : Int) := by omega
     have HIN := Lib.hid hi
     by_cases h18 : 1 ≤ dn ∧ dn ≤ 180
     · have y8 : decide ((dn : Int) < 1) = false := decide_eq_false (by omega)
       have z8 : decide (dn < 1) = false := decide_eq_false (by omega)
       have y7 : decide ((180 : Int) < (dn : Int)) = false := decide_eq_false (by omega)
       have z7 : decide (180 < dn) = false := decide_eq_false (by omega)
       have HLO1 : Hid (lensOk ts (i + 1)) := Lib.hid (fun j h h' => by
         rcases Nat.lt_or_ge j i with h3 | h3
         · exact HLO.out j h h3
         · obtain rfl : j = i := by omega
           rw [hx]; show 1 ≤ D0.length ∧ D0.length ≤ 180; omega)
       clear hi hi0 hl30 hil hx hdr hgd gdl gdc HDR1 h18
       go_wp2_with (first
         | ((with_reducible refine at_load (T := 24) ?_); refine wl_rd rfl (c := ts.map (·.1)) (hv.rd HLR.out) i rfl _ Tryz.underlying24 rfl (.slice da dn dc) HX.out ?_))
       have hin := HIN.out
       go_roundw
       case rel => exact ⟨i + 1, by omega, by go_num, hv, HLO1⟩
       case measure => simp [intOf]; omega
     · by_cases hz : dn < 1
       · have y8 : decide ((dn : Int) < 1) = true := decide_eq_true (by omega)
         have z8 : decide (dn < 1) = true := decide_eq_true hz
         clear hi hi0 hl30 hil hx hdr hgd gdl gdc HDR1 h18 hz
         go_wp2_with (first
           | ((with_reducible refine at_load (T := 24) ?_); refine wl_rd rfl (c := ts.map (·.1)) (hv.rd HLR.out) i rfl _ Tryz.underlying24 rfl (.slice da dn dc) HX.out ?_)
           | (go_at_call 7; (with_reducible refine (heads10 _).mono ?_); rintro e w1 ⟨rfl, hn1⟩; replace hv := hv.new hn1; clear hn1))
         try rw [Exit.noGoto_ret]
         go_ret
         exact ⟨rfl, hv.below⟩
       · have y8 : decide ((dn : Int) < 1) = false := decide_eq_false (by omega)
         have z8 : decide (dn < 1) = false := decide_eq_false (by omega)
         have y7 : decide ((180 : Int) < (dn : Int)) = true := decide_eq_true (by omega)
         have z7 : decide (180 < dn) = true := decide_eq_true (by omega)
         clear hi hi0 hl30 hil hx hdr hgd gdl gdc HDR1 h18 hz
         go_wp2_with (first
           | ((with_reducible refine at_load (T := 24) ?_); refine wl_rd rfl (c := ts.map (·.1)) (hv.rd HLR.out) i rfl _ Tryz.underlying24 rfl (.slice da dn dc) HX.out ?_)
           | (go_at_call 7; (with_reducible refine (heads10 _).mono ?_); rintro e w1 ⟨rfl, hn1⟩; replace hv := hv.new hn1; clear hn1))
         try rw [Exit.noGoto_ret]
         go_ret
         exact ⟨rfl, hv.below⟩
   · have y9 : decide ((i : Int) < (ln : Int)) = false := decide_eq_false (by omega)
     have z9 : decide (i < ln) = false := decide_eq_false hi
     have HALL : Hid (∀ j (h : j < ts.length), 1 ≤ ts[j].2.length ∧ ts[j].2.length ≤ 180) := Lib.hid (fun j h => HLO.out j h (by have := HLN.out; omega))
     clear hi hi0 HLO
     go_wp2_with (first
       | ((with_reducible refine at_mkslice (T := 24) ?_); refine wl_mkz rfl 1900 rfl rfl (by decide) ?_; intro b_62 w2 hm2; have hv1 := Mem.yield (L1 := []) (hv.madeAt hm2) (zeros_row b_62 1900 (by decide)); simp only [List.nil_append] at hv1; replace hv := hv1; clear hv1 hm2; have HMZ : Hid (InM ((1, .slice (some ⟨b_62, 0, none⟩) 1900 1900, cellsB (List.replicate 1900 0)) :: R) b_62 0 1900 1900 NM0) := Lib.hid ⟨Mem.z, List.length_replicate, by decide, by decide, zeros_good 1900⟩)
       | ((with_reducible refine at_build (T := 26) ?_); refine wl_build rfl _ rfl (built_mem _ _ _) ?_)
       | (go_at_call 8; (with_reducible refine (New_L hv HMZ.out).mono ?_); rintro e w1 ⟨v, R1, rfl, ⟨vb, vc, rav, rla, rfc, rcc, tav, tla, tfn, tfc, tcn, tcc, i0, i1, i2, i3, o0, o1, o2, o3, rfa, rca, tfa, tca, rfl, hd1, hs1⟩, hv1⟩; replace hv := hv1; have HD := Lib.hid (hd1 (lotD ts 0) (lotD ts 0)); have HSB : Hid (∀ x ∈ R, x ∈ R1) := Lib.hid (fun x hx => hs1 x (Mem.s hx)); clear hv1 hd1 hs1)
       | ((with_reducible refine at_alloc (T := 26) (dst := some 6) ?_); refine wl_newb rfl #[.slice none 0 0] 26 (fun _ => rfl) ?_; intro b_6 w2 hm2; replace hv := hv.madeAt hm2; clear hm2)
       | ((with_reducible refine at_alloc (T := 33) (dst := some 7) ?_); refine wl_newb rfl #[.int .i64 0, .int .i64 0, .slice none 0 0, .int .u16 0, .int .u16 0, .slice none 0 0, .int .i64 0, .int .i64 0, .slice none 0 0, .int .u16 0, .int .u16 0, .slice none 0 0, .int .i64 0, .int .i64 0, .int .i64 0, .int .i64 0, .int .i64 0, .int .i64 0, .int .i64 0, .int .i64 0, .int .i64 0] 33 (fun _ => rfl) ?_; intro b_7 w2 hm2; replace hv := hv.madeAt hm2; clear hm2)
       | ((with_reducible refine at_store (T := 26) ?_); refine wl_stv rfl b_6 rfl _ rfl _ hv.vars.ro hv.vars.so 1 infoM rfl rfl (by simp [Value.oneCell']) ?_; intro w2 hw2; replace hv := hv.sets (by repeat first | exact .z | apply SetM.s) hw2; clear hw2)
       | ((with_reducible refine at_store (T := 33) ?_); refine wl_stv rfl b_7 rfl _ rfl _ hv.vars.ro hv.vars.so 21 infoN rfl rfl (by simp [Value.oneCell']) ?_; intro w2 hw2; replace hv := hv.sets (by repeat first | exact .z | apply SetM.s) hw2; clear hw2)
       | (go_at_call 9; (with_reducible refine (RServe4_0 _).mono ?_); rintro e w1 ⟨rfl, hn1⟩; replace hv := hv.new hn1; clear hn1)
       | (go_at_call 9; (with_reducible refine (RServe4_120 _).mono ?_); rintro e w1 ⟨rfl, hn1⟩; replace hv := hv.new hn1; clear hn1)
       | ((with_reducible refine at_alloc (T := 38) (dst := some 9) ?_); refine wl_newb rfl #[.int .i64 0, .int .i64 0, .int .u16 0, .int .u16 0] 38 (fun _ => rfl) ?_; intro b_9 w2 hm2; replace hv := hv.madeAt hm2; clear hm2)
       | ((with_reducible refine at_alloc (T := 38) (dst := some 10) ?_); refine wl_newb rfl #[.int .i64 0, .int .i64 0, .int .u16 0, .int .u16 0] 38 (fun _ => rfl) ?_; intro b_10 w2 hm2; replace hv := hv.madeAt hm2; clear hm2)
       | ((with_reducible refine at_store (T := 38) ?_); refine wl_stv rfl b_9 rfl _ rfl _ hv.vars.ro hv.vars.so 4 infoS4 rfl rfl (by simp [Value.oneCell']) ?_; intro w2 hw2; replace hv := hv.sets (by repeat first | exact .z | apply SetM.s) hw2; clear hw2)
       | ((with_reducible refine at_store (T := 38) ?_); refine wl_stv rfl b_10 rfl _ rfl _ hv.vars.ro hv.vars.so 4 infoS4 rfl rfl (by simp [Value.oneCell']) ?_; intro w2 hw2; replace hv := hv.sets (by repeat first | exact .z | apply SetM.s) hw2; clear hw2))
     go_loopw [11] (fun iv wr => ∃ (f a vb vc rav rla rfc rcc tav tla tfn tfc tcn tcc i0 i1 i2 i3 o0 o1 o2 o3 : Nat) (rfa rca tfa tca : Option Addr) (R1 : List (Nat × Value × List Value)), f ≤ 34 ∧ iv = .int .i64 f ∧ Mem w wr [(b_10, #[.int .i64 120, .int .i64 4, .int .u16 a, .int .u16 a]), (b_9, #[.int .i64 0, .int .i64 4, .int .u16 a, .int .u16 a]), (b_7, #[.int .i64 0, .int .i64 4, .slice rfa 0 rfc, .int .u16 rav, .int .u16 rla, .slice rca 4 rcc, .int .i64 120, .int .i64 4, .slice tfa tfn tfc, .int .u16 tav, .int .u16 tla, .slice tca tcn tcc, .int .i64 300, .int .i64 i0, .int .i64 i1, .int .i64 i2, .int .i64 i3, .int .i64 o0, .int .i64 o1, .int .i64 o2, .int .i64 o3]), (b_6, #[.slice (some ⟨vb, 0, none⟩) 1900 vc])] R1 ∧ Hid (a = min f ln) ∧ Hid (DrS R1 vb vc rav rla rfc rcc tav tla tfn tfc tcn tcc i0 i1 i2 i3 o0 o1 o2 o3 rfa rca tfa tca a a 0 0 0 0 0 (lotD ts a) (lotD ts a)) ∧ Hid (∀ x ∈ R, x ∈ R1)) (fun iv _ => 100 - (intOf iv).toNat)
     case atStart => exact ⟨0, 0, vb, vc, rav, rla, rfc, rcc, tav, tla, tfn, tfc, tcn, tcc, i0, i1, i2, i3, o0, o1, o2, o3, rfa, rca, tfa, tca, R1, by decide, rfl, hv, Lib.hid (by omega), HD, HSB⟩
     case round =>
       clear hv HD HSB HMZ
       obtain ⟨f0, f, vb, vc, rav, rla, rfc, rcc, tav, tla, tfn, tfc, tcn, tcc, i0, i1, i2, i3, o0, o1, o2, o3, rfa, rca, tfa, tca, R1, hf34, rfl, hv, HA, HD, HSB⟩ := hrel
       by_cases hf : f0 < ln
       · obtain rfl : f = f0 := by have := HA.out; omega
         have y9 : decide ((f : Int) < (ln : Int)) = true := decide_eq_true (by omega)
         have z9 : decide (f < ln) = true := decide_eq_true hf
         clear HA
         obtain ⟨to, hto⟩ : ∃ t, min ln (f + many) = t := ⟨_, rfl⟩
         obtain ⟨m, hm⟩ : ∃ m, to - f = m := ⟨_, rfl⟩
         have hl30 := HL30.out
         have hm1 := HM1.out
         have hm4 := HM4.out
         have HTO : Hid (to = f + m ∧ 1 ≤ m ∧ m ≤ 4 ∧ to ≤ ln ∧ m ≤ many) := Lib.hid (by omega)
         have HNF : Hid (f + m = min (f + many) ln) := Lib.hid (by omega)
         have HF34 : Hid (f + many ≤ 34 ∧ 1 ≤ many) := Lib.hid (by omega)
         have q1 : IntKind.i64.wrap ((f : Int) + (many : Int)) = (f : Int) + (many : Int) := IntWalk.i64_in _ (by omega)
         have ymin : min (ln : Int) ((f : Int) + (many : Int)) = (to : Int) := by omega
         have hto34 : (to : Int) ≤ 34 := by omega
         clear hf hf34 hto hm hl30 hm1 hm4
         go_wp2
         go_loopw [13] (fun iv wr => ∃ (i k vb vc rav rla rfc rcc tav tla tfn tfc tcn tcc i0 i1 i2 i3 o0 o1 o2 o3 : Nat) (rfa rca tfa tca : Option Addr) (R1 : List (Nat × Value × List Value)), i ≤ 34 ∧ iv = .int .i64 i ∧ Mem w wr [(b_10, #[.int .i64 120, .int .i64 4, .int .u16 f, .int .u16 f]), (b_9, #[.int .i64 0, .int .i64 4, .int .u16 i, .int .u16 i]), (b_7, #[.int .i64 0, .int .i64 4, .slice rfa 0 rfc, .int .u16 rav, .int .u16 rla, .slice rca 4 rcc, .int .i64 120, .int .i64 4, .slice tfa tfn tfc, .int .u16 tav, .int .u16 tla, .slice tca tcn tcc, .int .i64 300, .int .i64 i0, .int .i64 i1, .int .i64 i2, .int .i64 i3, .int .i64 o0, .int .i64 o1, .int .i64 o2, .int .i64 o3]), (b_6, #[.slice (some ⟨vb, 0, none⟩) 1900 vc])] R1 ∧ Hid (i = f + k) ∧ Hid (i ≤ to) ∧ Hid (DrS R1 vb vc rav rla rfc rcc tav tla tfn tfc tcn tcc i0 i1 i2 i3 o0 o1 o2 o3 rfa rca tfa tca f f 0 k 0 0 k (lotD ts f) (lotD ts f)) ∧ Hid (∀ x ∈ R, x ∈ R1)) (fun iv _ => 100 - (intOf iv).toNat)
         case atStart => exact ⟨f, 0, vb, vc, rav, rla, rfc, rcc, tav, tla, tfn, tfc, tcn, tcc, i0, i1, i2, i3, o0, o1, o2, o3, rfa, rca, tfa, tca, R1, by have := HTO.out; have := HL30.out; omega, rfl, hv, Lib.hid rfl, Lib.hid (by have := HTO.out; omega), HD, HSB⟩
         case round =>
           clear hv HD HSB
           obtain ⟨i, k, vb, vc, rav, rla, rfc, rcc, tav, tla, tfn, tfc, tcn, tcc, i0, i1, i2, i3, o0, o1, o2, o3, rfa, rca, tfa, tca, R1, hi34, rfl, hv, HIK, HIT, HD, HSB⟩ := hrel
           by_cases hi : i < to
           · have y9 : decide ((i : Int) < (to : Int)) = true := decide_eq_true (by omega)
             have z9 : decide (i < to) = true := decide_eq_true hi
             have hto := HTO.out
             have hil : i < ts.length := by rw [HLN.out]; omega
             obtain ⟨⟨dv, D0⟩, hx⟩ : ∃ x, ts[i] = x := ⟨_, rfl⟩
             obtain ⟨hdr, hgd⟩ : (1, dv, cellsB D0) ∈ R ∧ goodB D0 := by
               have := HT.out ts[i] (List.getElem_mem hil)
               rw [hx] at this
               exact this
             have HLR := Lib.hid (HSB.out _ HL.out)
             have HDR1 := HSB.out _ hdr
             obtain ⟨da, dn, dc, hdv, gdl, gdc, _⟩ := id (hv.rd HDR1)
             subst hdv
             rw [cellsB_len, Nat.mul_one] at gdl
             have HX : Hid ((ts.map (·.1))[i]? = some (.slice da dn dc)) := Lib.hid (by rw [List.getElem?_map, List.getElem?_eq_getElem hil, hx]; rfl)
             have HGD := Lib.hid hgd
             have HDR := Lib.hid HDR1
             obtain ⟨lb, lo, _, _, e, hq⟩ := (hv.rd HLR.out).some (by rw [List.length_map]; omega)
             clear hq
             cases e
             have HK4 : Hid (k < 4) := Lib.hid (by have := HIK.out; omega)
             have HLD : Hid (lotD ts f k = D0) := Lib.hid (lotD_at HIK.out hil hx)
             obtain ⟨g1, g2⟩ := HALL.out i hil
             rw [hx] at g1 g2
             replace g1 : 1 ≤ D0.length := g1
             replace g2 : D0.length ≤ 180 := g2
             have HN11 : Hid (1 ≤ dn) := Lib.hid (by omega)
             have HN18 : Hid (dn ≤ 180) := Lib.hid (by omega)
             have hki : (i : Int) ≤ 34 := by omega
             have hkl : (i : Int) < (ln : Int) := by omega
             have HIN := Lib.hid hi
             clear hi hi34 hto hil hx hdr hgd gdl gdc HDR1 g1 g2
             go_wp2
             have HSO : Hid (∃ v R', BringC R1 f k i rav rla rfc rcc tav tla tfn tfc tcn tcc i0 i1 i2 i3 o0 o1 o2 o3 rfa rca tfa tca (lotD ts f) v R') := Lib.hid (Bny.some_of (Bring_C hv (fun x hx => hx) HD.out HIK.out HK4.out HLD.out HDR.out HGD.out HN18.out))
             have hv0 := hv
             clear hv
             have hv : Mem w _ ([(b_10, #[.int .i64 120, .int .i64 4, .int .u16 f, .int .u16 f]), (b_9, #[.int .i64 0, .int .i64 4, .int .u16 i, .int .u16 i]), (b_7, #[.int .i64 0, .int .i64 4, .slice rfa 0 rfc, .int .u16 rav, .int .u16 rla, .slice rca 4 rcc, .int .i64 120, .int .i64 4, .slice tfa tfn tfc, .int .u16 tav, .int .u16 tla, .slice tca tcn tcc, .int .i64 300, .int .i64 i0, .int .i64 i1, .int .i64 i2, .int .i64 i3, .int .i64 o0, .int .i64 o1, .int .i64 o2, .int .i64 o3]), (b_6, #[.slice (some ⟨vb, 0, none⟩) 1900 vc])] ++ []) R1 := hv0
             clear hv0
             try simp only [Act.put]
             refine Bny.wp_region_walk _ _ [⟨[1003], none⟩, ⟨[1001], none⟩, ⟨[], none⟩, ⟨[], none⟩, ⟨[], none⟩, ⟨[], none⟩, ⟨[], some 6⟩, ⟨[], none⟩, ⟨[], none⟩, ⟨[], none⟩, ⟨[], none⟩, ⟨[], some 11⟩, ⟨[], some 12⟩, ⟨[11], some 11⟩, ⟨[12], some 12⟩, ⟨[], none⟩] [.val, .val, .val, .val, .val, .val, .mem (BringC R1 f k i rav rla rfc rcc tav tla tfn tfc tcn tcc i0 i1 i2 i3 o0 o1 o2 o3 rfa rca tfa tca (lotD ts f)), .pure, .pure, .pure, .pure, .lay #[.slice none 0 0], .lay #[.int .i64 0, .int .i64 0, .int .u16 0, .int .u16 0], .put, .put, .pure] (by kernel_rfl) (by kernel_rfl) hv ?_
             simp only [List.length_cons, List.length_nil, Nat.zero_add, Any.someVals]
             iterate 16 apply Exists.intro
             repeat (first
               | (refine Bny.E_off rfl ?_; simp only [Act.put, sia, scs, scz])
               | ((with_reducible refine Bny.at_ealloc ?_); refine Bny.E_lay (t := 26) rfl rfl rfl (fun _ => rfl) ?_; intro b_14; simp only [Act.put, sia, scs, scz])
               | ((with_reducible refine Bny.at_ealloc ?_); refine Bny.E_lay (t := 38) rfl rfl rfl (fun _ => rfl) ?_; intro b_15; simp only [Act.put, sia, scs, scz])
               | ((with_reducible refine Bny.at_estore (T := 26) ?_); refine Bny.E_putv (T := 26) rfl rfl rfl rfl rfl rfl 1 infoM rfl rfl (by simp [Value.oneCell']) ?_; simp only [Act.put, sia, scs, scz])
               | ((with_reducible refine Bny.at_estore (T := 38) ?_); refine Bny.E_putv (T := 38) rfl rfl rfl rfl rfl rfl 4 infoS4 rfl rfl (by simp [Value.oneCell']) ?_; simp only [Act.put, sia, scs, scz])
               | ((with_reducible refine Bny.at_ecallf (f := 10) ?_); refine Bny.E_callmem rfl rfl rfl (Go.Proofs.enters_of Tryz.func10 (by kernel_rfl) rfl) rfl [.agg #[.slice (some ⟨vb, 0, none⟩) 1900 vc], .agg #[.int .i64 0, .int .i64 4, .int .u16 i, .int .u16 i], .slice da dn dc] rfl HSO.out R1 (fun x hx => .inl hx) (fun w0 w L R' hm hs => Bring_C hm hs HD.out HIK.out HK4.out HLD.out (hs _ HDR.out) HGD.out HN18.out) ?_; rintro v R2 ⟨vb1, vc1, rfl, hd1, hs1⟩; have HD1 := Lib.hid hd1; have HS1 := Lib.hid hs1; clear hd1 hs1; simp only [Act.put, sia, scs, scz])
               | (apply Bny.E_pureq rfl rfl rfl
                  case h => intro K hK; go_big_quiet_op; (refine hK _ ?_; rfl)
                  case hr => exact fun _ => rfl
                  simp only [Act.put, sia, scs, scz])
               | (apply Bny.E_val rfl rfl rfl rfl
                  case h =>
                    intro E' hA K hK
                    first
                      | ((with_reducible refine Bny.at_qload (T := 26) ?_); refine Bny.q_ldv 1003 hA (by decide) rfl rfl 1 _ Tryz.underlying26 rfl infoM (by decide) rfl ?_; refine hK _ ?_; rfl)
                      | ((with_reducible refine Bny.at_qload (T := 38) ?_); refine Bny.q_ldv 1001 hA (by decide) rfl rfl 4 _ Tryz.underlying38 rfl infoS4 (by decide) rfl ?_; refine hK _ ?_; rfl)
                      | ((with_reducible refine Bny.at_qload (T := 24) ?_); refine Bny.q_rd (.inl HLR.out) hA i rfl _ Tryz.underlying24 rfl (.slice da dn dc) HX.out ?_; refine hK _ ?_; rfl)
                      | (go_big_quiet_op; first
                        | (refine hK _ ?_; rfl)
                        | (refine ⟨_, fun _ _ => rfl, ?_⟩; refine hK _ ?_; rfl)
                        | (apply Exists.intro; refine ⟨fun w1 hw1 => ?_, ?_⟩; · (first
                            | fail)
                           refine hK _ ?_; rfl))
                  case hD => rfl
                  simp only [Act.put, sia, scs, scz]))
             try any_goals exact undef
             refine Bny.E_nil ?_
             intro w9 hE9
             replace hv : Mem w w9 ([(b_14, #[.slice (some ⟨vb1, 0, none⟩) 1900 vc1]), (b_15, #[.int .i64 0, .int .i64 4, .int .u16 ((i + 1 : Nat) : Int), .int .u16 ((i + 1 : Nat) : Int)]), (b_10, #[.int .i64 120, .int .i64 4, .int .u16 f, .int .u16 f]), (b_9, #[.int .i64 0, .int .i64 4, .int .u16 i, .int .u16 i]), (b_7, #[.int .i64 0, .int .i64 4, .slice rfa 0 rfc, .int .u16 rav, .int .u16 rla, .slice rca 4 rcc, .int .i64 120, .int .i64 4, .slice tfa tfn tfc, .int .u16 tav, .int .u16 tla, .slice tca tcn tcc, .int .i64 300, .int .i64 i0, .int .i64 i1, .int .i64 i2, .int .i64 i3, .int .i64 o0, .int .i64 o1, .int .i64 o2, .int .i64 o3]), (b_6, #[.slice (some ⟨vb, 0, none⟩) 1900 vc])] ++ []) R2 := hE9.mem1 [11, 12, 1000, 1001, 1002, 1003] (by decide) 6 rfl
             clear hE9
             simp only [List.cons_append, List.nil_append] at hv
             have HDR2 := Lib.hid (HS1.out _ HDR.out)
             have HLR2 := Lib.hid (HS1.out _ HLR.out)
             go_wp2
             have HSP : Hid (∃ v R', SentS R2 rav rla rfc rcc tla i0 i1 i2 i3 rfa rca f f 0 (k + 1) k (lotD ts f) (lotD ts f) v R') := Lib.hid (Bny.some_of (Send_C hv (fun x hx => hx) HD1.out HK4.out HLD.out HDR2.out HGD.out HN11.out HN18.out))
             have hv0 := hv
             clear hv
             have hv : Mem w _ ([(b_14, #[.slice (some ⟨vb1, 0, none⟩) 1900 vc1]), (b_15, #[.int .i64 0, .int .i64 4, .int .u16 ((i + 1 : Nat) : Int), .int .u16 ((i + 1 : Nat) : Int)]), (b_10, #[.int .i64 120, .int .i64 4, .int .u16 f, .int .u16 f]), (b_9, #[.int .i64 0, .int .i64 4, .int .u16 i, .int .u16 i]), (b_7, #[.int .i64 0, .int .i64 4, .slice rfa 0 rfc, .int .u16 rav, .int .u16 rla, .slice rca 4 rcc, .int .i64 120, .int .i64 4, .slice tfa tfn tfc, .int .u16 tav, .int .u16 tla, .slice tca tcn tcc, .int .i64 300, .int .i64 i0, .int .i64 i1, .int .i64 i2, .int .i64 i3, .int .i64 o0, .int .i64 o1, .int .i64 o2, .int .i64 o3]), (b_6, #[.slice (some ⟨vb, 0, none⟩) 1900 vc])] ++ []) R2 := hv0
             clear hv0
             try simp only [Act.put]
             refine Bny.wp_region_walk _ _ [⟨[1000], none⟩, ⟨[1004], none⟩, ⟨[], none⟩, ⟨[], none⟩, ⟨[], none⟩, ⟨[], none⟩, ⟨[], some 6⟩, ⟨[], none⟩, ⟨[], none⟩, ⟨[], none⟩, ⟨[], none⟩, ⟨[], some 11⟩, ⟨[1000], some 1000⟩, ⟨[11], some 11⟩, ⟨[], none⟩] [.val, .val, .val, .val, .val, .val, .mem (SentS R2 rav rla rfc rcc tla i0 i1 i2 i3 rfa rca f f 0 (k + 1) k (lotD ts f) (lotD ts f)), .pure, .pure, .pure, .pure, .lay #[.int .i64 0, .int .i64 0, .slice none 0 0, .int .u16 0, .int .u16 0, .slice none 0 0, .int .i64 0, .int .i64 0, .slice none 0 0, .int .u16 0, .int .u16 0, .slice none 0 0, .int .i64 0, .int .i64 0, .int .i64 0, .int .i64 0, .int .i64 0, .int .i64 0, .int .i64 0, .int .i64 0, .int .i64 0], .put, .put, .pure] (by kernel_rfl) (by kernel_rfl) hv ?_
             simp only [List.length_cons, List.length_nil, Nat.zero_add, Any.someVals]
             iterate 15 apply Exists.intro
             repeat (first
               | (refine Bny.E_off rfl ?_; simp only [Act.put, sia, scs, scz])
               | ((with_reducible refine Bny.at_ealloc ?_); refine Bny.E_lay (t := 33) rfl rfl rfl (fun _ => rfl) ?_; intro b_17; simp only [Act.put, sia, scs, scz])
               | ((with_reducible refine Bny.at_estore (T := 26) ?_); refine Bny.E_putv (T := 26) rfl rfl rfl rfl rfl rfl 1 infoM rfl rfl (by simp [Value.oneCell']) ?_; simp only [Act.put, sia, scs, scz])
               | ((with_reducible refine Bny.at_estore (T := 33) ?_); refine Bny.E_putv (T := 33) rfl rfl rfl rfl rfl rfl 21 infoN rfl rfl (by simp [Value.oneCell']) ?_; simp only [Act.put, sia, scs, scz])
               | ((with_reducible refine Bny.at_ecallf (f := 13) ?_); refine Bny.E_callmem rfl rfl rfl (Go.Proofs.enters_of Tryz.func13 (by kernel_rfl) rfl) rfl [.agg #[.slice (some ⟨vb1, 0, none⟩) 1900 vc1], .agg #[.int .i64 0, .int .i64 4, .slice rfa 0 rfc, .int .u16 rav, .int .u16 rla, .slice rca 4 rcc, .int .i64 120, .int .i64 4, .slice tfa tfn tfc, .int .u16 tav, .int .u16 tla, .slice tca tcn tcc, .int .i64 300, .int .i64 i0, .int .i64 i1, .int .i64 i2, .int .i64 i3, .int .i64 o0, .int .i64 o1, .int .i64 o2, .int .i64 o3], .slice da dn dc] rfl HSP.out R2 (fun x hx => .inl hx) (fun w0 w L R' hm hs => Send_C hm hs HD1.out HK4.out HLD.out (hs _ HDR2.out) HGD.out HN11.out HN18.out) ?_; rintro v R3 ⟨vb3, vc3, tav3, nf3, fc3, nc3, cc3, p0, p1, p2, p3, fa3, ca3, rfl, hd1, hs1⟩; have HD2 := Lib.hid hd1; have HS2 := Lib.hid hs1; clear hd1 hs1; simp only [Act.put, sia, scs, scz])
               | (apply Bny.E_pureq rfl rfl rfl
                  case h => intro K hK; go_big_quiet_op; (refine hK _ ?_; rfl)
                  case hr => exact fun _ => rfl
                  simp only [Act.put, sia, scs, scz])
               | (apply Bny.E_val rfl rfl rfl rfl
                  case h =>
                    intro E' hA K hK
                    first
                      | ((with_reducible refine Bny.at_qload (T := 26) ?_); refine Bny.q_ldv 1000 hA (by decide) rfl rfl 1 _ Tryz.underlying26 rfl infoM (by decide) rfl ?_; refine hK _ ?_; rfl)
                      | ((with_reducible refine Bny.at_qload (T := 33) ?_); refine Bny.q_ldv 1004 hA (by decide) rfl rfl 21 _ Tryz.underlying33 rfl infoN (by decide) rfl ?_; refine hK _ ?_; rfl)
                      | ((with_reducible refine Bny.at_qload (T := 24) ?_); refine Bny.q_rd (.inl HLR2.out) hA i rfl _ Tryz.underlying24 rfl (.slice da dn dc) HX.out ?_; refine hK _ ?_; rfl)
                      | (go_big_quiet_op; first
                        | (refine hK _ ?_; rfl)
                        | (refine ⟨_, fun _ _ => rfl, ?_⟩; refine hK _ ?_; rfl)
                        | (apply Exists.intro; refine ⟨fun w1 hw1 => ?_, ?_⟩; · (first
                            | fail)
                           refine hK _ ?_; rfl))
                  case hD => rfl
                  simp only [Act.put, sia, scs, scz]))
             try any_goals exact undef
             refine Bny.E_nil ?_
             intro w9 hE9
             replace hv : Mem w w9 ([(b_17, #[.int .i64 0, .int .i64 4, .slice rfa 0 rfc, .int .u16 rav, .int .u16 rla, .slice rca 4 rcc, .int .i64 120, .int .i64 4, .slice fa3 nf3 fc3, .int .u16 tav3, .int .u16 tla, .slice ca3 nc3 cc3, .int .i64 300, .int .i64 i0, .int .i64 i1, .int .i64 i2, .int .i64 i3, .int .i64 p0, .int .i64 p1, .int .i64 p2, .int .i64 p3]), (b_14, #[.slice (some ⟨vb3, 0, none⟩) 1900 vc3]), (b_15, #[.int .i64 0, .int .i64 4, .int .u16 ((i + 1 : Nat) : Int), .int .u16 ((i + 1 : Nat) : Int)]), (b_10, #[.int .i64 120, .int .i64 4, .int .u16 f, .int .u16 f]), (b_9, #[.int .i64 0, .int .i64 4, .int .u16 i, .int .u16 i]), (b_7, #[.int .i64 0, .int .i64 4, .slice rfa 0 rfc, .int .u16 rav, .int .u16 rla, .slice rca 4 rcc, .int .i64 120, .int .i64 4, .slice tfa tfn tfc, .int .u16 tav, .int .u16 tla, .slice tca tcn tcc, .int .i64 300, .int .i64 i0, .int .i64 i1, .int .i64 i2, .int .i64 i3, .int .i64 o0, .int .i64 o1, .int .i64 o2, .int .i64 o3]), (b_6, #[.slice (some ⟨vb, 0, none⟩) 1900 vc])] ++ []) R3 := hE9.mem1 [11, 1000, 1001, 1002, 1003, 1004, 1005] (by decide) 6 rfl
             clear hE9
             simp only [List.cons_append, List.nil_append] at hv
             go_wp2
             have hv0 := hv
             clear hv
             have hv : Mem w _ ([(b_17, #[.int .i64 0, .int .i64 4, .slice rfa 0 rfc, .int .u16 rav, .int .u16 rla, .slice rca 4 rcc, .int .i64 120, .int .i64 4, .slice fa3 nf3 fc3, .int .u16 tav3, .int .u16 tla, .slice ca3 nc3 cc3, .int .i64 300, .int .i64 i0, .int .i64 i1, .int .i64 i2, .int .i64 i3, .int .i64 p0, .int .i64 p1, .int .i64 p2, .int .i64 p3]), (b_14, #[.slice (some ⟨vb3, 0, none⟩) 1900 vc3]), (b_15, #[.int .i64 0, .int .i64 4, .int .u16 ((i + 1 : Nat) : Int), .int .u16 ((i + 1 : Nat) : Int)]), (b_10, #[.int .i64 120, .int .i64 4, .int .u16 f, .int .u16 f]), (b_9, #[.int .i64 0, .int .i64 4, .int .u16 i, .int .u16 i]), (b_7, #[.int .i64 0, .int .i64 4, .slice rfa 0 rfc, .int .u16 rav, .int .u16 rla, .slice rca 4 rcc, .int .i64 120, .int .i64 4, .slice tfa tfn tfc, .int .u16 tav, .int .u16 tla, .slice tca tcn tcc, .int .i64 300, .int .i64 i0, .int .i64 i1, .int .i64 i2, .int .i64 i3, .int .i64 o0, .int .i64 o1, .int .i64 o2, .int .i64 o3]), (b_6, #[.slice (some ⟨vb, 0, none⟩) 1900 vc])] ++ []) R3 := hv0
             clear hv0
             try simp only [Act.put]
             refine Bny.wp_region_walk _ _ [⟨[1001], none⟩, ⟨[1002], none⟩, ⟨[1000], none⟩, ⟨[1006], some 1006⟩, ⟨[1004], some 1004⟩, ⟨[1005], some 1005⟩] [.val, .val, .val, .put, .put, .put] (by kernel_rfl) (by kernel_rfl) hv ?_
             simp only [List.length_cons, List.length_nil, Nat.zero_add, Any.someVals]
             iterate 6 apply Exists.intro
             repeat (first
               | (refine Bny.E_off rfl ?_; simp only [Act.put, sia, scs, scz])
               | ((with_reducible refine Bny.at_estore (T := 26) ?_); refine Bny.E_putv (T := 26) rfl rfl rfl rfl rfl rfl 1 infoM rfl rfl (by simp [Value.oneCell']) ?_; simp only [Act.put, sia, scs, scz])
               | ((with_reducible refine Bny.at_estore (T := 38) ?_); refine Bny.E_putv (T := 38) rfl rfl rfl rfl rfl rfl 4 infoS4 rfl rfl (by simp [Value.oneCell']) ?_; simp only [Act.put, sia, scs, scz])
               | ((with_reducible refine Bny.at_estore (T := 33) ?_); refine Bny.E_putv (T := 33) rfl rfl rfl rfl rfl rfl 21 infoN rfl rfl (by simp [Value.oneCell']) ?_; simp only [Act.put, sia, scs, scz])
               | (apply Bny.E_pureq rfl rfl rfl
                  case h => intro K hK; go_big_quiet_op; (refine hK _ ?_; rfl)
                  case hr => exact fun _ => rfl
                  simp only [Act.put, sia, scs, scz])
               | (apply Bny.E_val rfl rfl rfl rfl
                  case h =>
                    intro E' hA K hK
                    first
                      | ((with_reducible refine Bny.at_qload (T := 26) ?_); refine Bny.q_ldv 1001 hA (by decide) rfl rfl 1 _ Tryz.underlying26 rfl infoM (by decide) rfl ?_; refine hK _ ?_; rfl)
                      | ((with_reducible refine Bny.at_qload (T := 38) ?_); refine Bny.q_ldv 1002 hA (by decide) rfl rfl 4 _ Tryz.underlying38 rfl infoS4 (by decide) rfl ?_; refine hK _ ?_; rfl)
                      | ((with_reducible refine Bny.at_qload (T := 33) ?_); refine Bny.q_ldv 1000 hA (by decide) rfl rfl 21 _ Tryz.underlying33 rfl infoN (by decide) rfl ?_; refine hK _ ?_; rfl)
                      | (go_big_quiet_op; first
                        | (refine hK _ ?_; rfl)
                        | (refine ⟨_, fun _ _ => rfl, ?_⟩; refine hK _ ?_; rfl)
                        | (apply Exists.intro; refine ⟨fun w1 hw1 => ?_, ?_⟩; · (first
                            | fail)
                           refine hK _ ?_; rfl))
                  case hD => rfl
                  simp only [Act.put, sia, scs, scz]))
             try any_goals exact undef
             refine Bny.E_nil ?_
             intro w9 hE9
             replace hv : Mem w w9 ([(b_10, #[.int .i64 120, .int .i64 4, .int .u16 f, .int .u16 f]), (b_9, #[.int .i64 0, .int .i64 4, .int .u16 ((i + 1 : Nat) : Int), .int .u16 ((i + 1 : Nat) : Int)]), (b_7, #[.int .i64 0, .int .i64 4, .slice rfa 0 rfc, .int .u16 rav, .int .u16 rla, .slice rca 4 rcc, .int .i64 120, .int .i64 4, .slice fa3 nf3 fc3, .int .u16 tav3, .int .u16 tla, .slice ca3 nc3 cc3, .int .i64 300, .int .i64 i0, .int .i64 i1, .int .i64 i2, .int .i64 i3, .int .i64 p0, .int .i64 p1, .int .i64 p2, .int .i64 p3]), (b_6, #[.slice (some ⟨vb3, 0, none⟩) 1900 vc3])] ++ []) R3 := hE9.mem0 [1003, 1004, 1005, 1006] (by decide)
             clear hE9
             simp only [List.cons_append, List.nil_append] at hv
             go_wp2
             have hin := HIN.out
             have hik := HIK.out
             go_roundw
             case rel => exact ⟨i + 1, k + 1, vb3, vc3, rav, rla, rfc, rcc, tav3, tla, nf3, fc3, nc3, cc3, i0, i1, i2, i3, p0, p1, p2, p3, rfa, rca, fa3, ca3, R3, by omega, by go_num, hv, Lib.hid (by omega), Lib.hid (by omega), HD2, Lib.hid (fun x hx => HS2.out x (HS1.out x (HSB.out x hx)))⟩
             case measure => simp [intOf]; omega
           · have y9 : decide ((i : Int) < (to : Int)) = false := decide_eq_false (by omega)
             have z9 : decide (i < to) = false := decide_eq_false hi
             obtain rfl : to = i := by have := HIT.out; omega
             obtain rfl : m = k := by have := HIK.out; have := HTO.out; omega
             clear hi hi34 HIT y9 z9
             have y9 : decide ((to : Int) < (to : Int)) = false := decide_eq_false (by omega)
             have z9 : decide (to < to) = false := decide_eq_false (by omega)
             go_wp2
             go_loopw [19] (fun iv wr => ∃ (i k vb vc rav rla rfc rcc tav tla tfn tfc tcn tcc i0 i1 i2 i3 o0 o1 o2 o3 : Nat) (rfa rca tfa tca : Option Addr) (R1 : List (Nat × Value × List Value)), i ≤ 34 ∧ iv = .int .i64 i ∧ Mem w wr [(b_10, #[.int .i64 120, .int .i64 4, .int .u16 i, .int .u16 i]), (b_9, #[.int .i64 0, .int .i64 4, .int .u16 to, .int .u16 to]), (b_7, #[.int .i64 0, .int .i64 4, .slice rfa 0 rfc, .int .u16 rav, .int .u16 rla, .slice rca 4 rcc, .int .i64 120, .int .i64 4, .slice tfa tfn tfc, .int .u16 tav, .int .u16 tla, .slice tca tcn tcc, .int .i64 300, .int .i64 i0, .int .i64 i1, .int .i64 i2, .int .i64 i3, .int .i64 o0, .int .i64 o1, .int .i64 o2, .int .i64 o3]), (b_6, #[.slice (some ⟨vb, 0, none⟩) 1900 vc])] R1 ∧ Hid (i = f + k) ∧ Hid (i ≤ to) ∧ Hid (DrS R1 vb vc rav rla rfc rcc tav tla tfn tfc tcn tcc i0 i1 i2 i3 o0 o1 o2 o3 rfa rca tfa tca f f k m k k m (lotD ts f) (lotD ts f)) ∧ Hid (∀ x ∈ R, x ∈ R1)) (fun iv _ => 100 - (intOf iv).toNat)
             case atStart => exact ⟨f, 0, vb, vc, rav, rla, rfc, rcc, tav, tla, tfn, tfc, tcn, tcc, i0, i1, i2, i3, o0, o1, o2, o3, rfa, rca, tfa, tca, R1, by have := HTO.out; have := HL30.out; omega, rfl, hv, Lib.hid rfl, Lib.hid (by have := HTO.out; omega), HD, HSB⟩
             case round =>
               clear hv HD HSB
               obtain ⟨i, k, vb, vc, rav, rla, rfc, rcc, tav, tla, tfn, tfc, tcn, tcc, i0, i1, i2, i3, o0, o1, o2, o3, rfa, rca, tfa, tca, R1, hi34, rfl, hv, HIK, HIT, HD, HSB⟩ := hrel
               by_cases hi : i < to
               · have y9 : decide ((i : Int) < (to : Int)) = true := decide_eq_true (by omega)
                 have z9 : decide (i < to) = true := decide_eq_true hi
                 have hto := HTO.out
                 have hil : i < ts.length := by rw [HLN.out]; omega
                 obtain ⟨⟨dv, D0⟩, hx⟩ : ∃ x, ts[i] = x := ⟨_, rfl⟩
                 obtain ⟨hdr, hgd⟩ : (1, dv, cellsB D0) ∈ R ∧ goodB D0 := by
                   have := HT.out ts[i] (List.getElem_mem hil)
                   rw [hx] at this
                   exact this
                 have HLR := Lib.hid (HSB.out _ HL.out)
                 have HDR1 := HSB.out _ hdr
                 obtain ⟨da, dn, dc, hdv, gdl, gdc, _⟩ := id (hv.rd HDR1)
                 subst hdv
                 rw [cellsB_len, Nat.mul_one] at gdl
                 have HX : Hid ((ts.map (·.1))[i]? = some (.slice da dn dc)) := Lib.hid (by rw [List.getElem?_map, List.getElem?_eq_getElem hil, hx]; rfl)
                 have HGD := Lib.hid hgd
                 have HDR := Lib.hid HDR1
                 obtain ⟨lb, lo, _, _, e, hq⟩ := (hv.rd HLR.out).some (by rw [List.length_map]; omega)
                 clear hq
                 cases e
                 have HK4 : Hid (k < 4) := Lib.hid (by have := HIK.out; omega)
                 have HKM : Hid (k < m) := Lib.hid (by have := HIK.out; omega)
                 have HLD : Hid (lotD ts f k = D0) := Lib.hid (lotD_at HIK.out hil hx)
                 have HLL : Hid ((lotD ts f k).length = dn) := Lib.hid (by rw [HLD.out]; omega)
                 obtain ⟨g1, g2⟩ := HALL.out i hil
                 rw [hx] at g1 g2
                 replace g1 : 1 ≤ D0.length := g1
                 replace g2 : D0.length ≤ 180 := g2
                 have HN11 : Hid (1 ≤ dn) := Lib.hid (by omega)
                 have HN18 : Hid (dn ≤ 180) := Lib.hid (by omega)
                 have hki : (i : Int) ≤ 34 := by omega
                 have hkl : (i : Int) < (ln : Int) := by omega
                 have HIN := Lib.hid hi
                 have kB : ∀ u v w', Rd w' 1 u (cellsB (lotD ts f k)) → Rd w' 1 v (cellsB D0) → Calls Tryz.prog 16 #[u, v] w' fun e w2 => e = .returned (.bool true) ∧ New w' w2 := fun u v w' h1 h2 => by
                   rw [HLD.out] at h1
                   refine (Bytes_any u v D0 D0 w' h1 h2 HGD.out HGD.out).mono ?_
                   rintro e w2 ⟨rfl, rfl⟩
                   exact ⟨by rw [decide_eq_true rfl], Below.refl _ _⟩
                 clear hi hi34 hto hil hx hdr hgd gdl gdc HDR1 g1 g2
                 go_wp2_with (first
                   | ((with_reducible refine at_load (T := 26) ?_); refine wl_ldv rfl b_6 rfl _ hv.vars.ro 1 _ Tryz.underlying26 rfl infoM (by decide) rfl ?_)
                   | ((with_reducible refine at_load (T := 33) ?_); refine wl_ldv rfl b_7 rfl _ hv.vars.ro 21 _ Tryz.underlying33 rfl infoN (by decide) rfl ?_)
                   | (go_at_call 11; (with_reducible refine (Take_yes_L (n := dn) hv HD.out HKM.out HK4.out HLL.out HN11.out HN18.out).mono ?_); rintro e w1 ⟨vb2, vc2, rav2, rla2, fc2, cc2, fa2, ca2, R3, gb, gc, rfl, hv1, hd1, hg1, hs1⟩; replace hv := hv1; have HD2 := Lib.hid hd1; have HG2 := Lib.hid hg1; have HS2 := Lib.hid hs1; clear hv1 hd1 hg1 hs1)
                   | ((with_reducible refine at_alloc (T := 26) (dst := some 20) ?_); refine wl_newb rfl #[.slice none 0 0] 26 (fun _ => rfl) ?_; intro b_20 w2 hm2; replace hv := hv.madeAt hm2; clear hm2)
                   | ((with_reducible refine at_alloc (T := 33) (dst := some 21) ?_); refine wl_newb rfl #[.int .i64 0, .int .i64 0, .slice none 0 0, .int .u16 0, .int .u16 0, .slice none 0 0, .int .i64 0, .int .i64 0, .slice none 0 0, .int .u16 0, .int .u16 0, .slice none 0 0, .int .i64 0, .int .i64 0, .int .i64 0, .int .i64 0, .int .i64 0, .int .i64 0, .int .i64 0, .int .i64 0, .int .i64 0] 33 (fun _ => rfl) ?_; intro b_21 w2 hm2; replace hv := hv.madeAt hm2; clear hm2)
                   | ((with_reducible refine at_store (T := 26) ?_); refine wl_stv rfl b_20 rfl _ rfl _ hv.vars.ro hv.vars.so 1 infoM rfl rfl (by simp [Value.oneCell']) ?_; intro w2 hw2; replace hv := hv.sets (by repeat first | exact .z | apply SetM.s) hw2; clear hw2)
                   | ((with_reducible refine at_store (T := 33) ?_); refine wl_stv rfl b_21 rfl _ rfl _ hv.vars.ro hv.vars.so 21 infoN rfl rfl (by simp [Value.oneCell']) ?_; intro w2 hw2; replace hv := hv.sets (by repeat first | exact .z | apply SetM.s) hw2; clear hw2)
                   | ((with_reducible refine at_load (T := 26) ?_); refine wl_ldv rfl b_20 rfl _ hv.vars.ro 1 _ Tryz.underlying26 rfl infoM (by decide) rfl ?_)
                   | ((with_reducible refine at_load (T := 38) ?_); refine wl_ldv rfl b_10 rfl _ hv.vars.ro 4 _ Tryz.underlying38 rfl infoS4 (by decide) rfl ?_)
                   | (go_at_call 14; (with_reducible refine (Fetch_L (n := dn) hv HD2.out HIK.out HKM.out HLL.out).mono ?_); rintro e w1 ⟨vb4, vc4, sn4, ao, gc4, R4, rfl, hv1, hd1, hsn, hg1, hs1⟩; obtain rfl : sn4 = i + 1 := (by have := HIK.out; omega); replace hv := hv1; have HD3 := Lib.hid hd1; have HG3 := Lib.hid hg1; have HS3 := Lib.hid hs1; clear hv1 hd1 hg1 hs1 hsn)
                   | ((with_reducible refine at_alloc (T := 38) (dst := some 24) ?_); refine wl_newb rfl #[.int .i64 0, .int .i64 0, .int .u16 0, .int .u16 0] 38 (fun _ => rfl) ?_; intro b_24 w2 hm2; replace hv := hv.madeAt hm2; clear hm2)
                   | ((with_reducible refine at_store (T := 38) ?_); refine wl_stv rfl b_24 rfl _ rfl _ hv.vars.ro hv.vars.so 4 infoS4 rfl rfl (by simp [Value.oneCell']) ?_; intro w2 hw2; replace hv := hv.sets (by repeat first | exact .z | apply SetM.s) hw2; clear hw2)
                   | ((with_reducible refine at_load (T := 33) ?_); refine wl_ldv rfl b_21 rfl _ hv.vars.ro 21 _ Tryz.underlying33 rfl infoN (by decide) rfl ?_)
                   | (go_at_call 15; (with_reducible refine (Reap_L hv HD3.out HKM.out).mono ?_); rintro e w1 ⟨v, R5, rfl, ⟨tla5, nf5, fc5, nc5, cc5, q0, q1, q2, q3, fa5, ca5, rfl, hd1, hs1⟩, hv1⟩; replace hv := hv1; have HD4 := Lib.hid hd1; have HS4 := Lib.hid hs1; clear hv1 hd1 hs1; have HB1 := Lib.hid (HS4.out _ (HS3.out _ HG2.out)); have HB2 := Lib.hid (HS4.out _ HG3.out); have HDR5 := Lib.hid (HS4.out _ (HS3.out _ (HS2.out _ HDR.out))); have HLR5 := Lib.hid (HS4.out _ (HS3.out _ (HS2.out _ HLR.out))))
                   | ((with_reducible refine at_load (T := 24) ?_); refine wl_rd rfl (c := ts.map (·.1)) (hv.rd HLR5.out) i rfl _ Tryz.underlying24 rfl (.slice da dn dc) HX.out ?_)
                   | (go_at_call 16; (with_reducible refine (kB _ _ _ (hv.rd HB1.out) (hv.rd HDR5.out)).mono ?_); rintro e w1 ⟨rfl, hn1⟩; replace hv := hv.new hn1; clear hn1)
                   | (go_at_call 16; (with_reducible refine (kB _ _ _ (hv.rd HB2.out) (hv.rd HDR5.out)).mono ?_); rintro e w1 ⟨rfl, hn1⟩; replace hv := hv.new hn1; clear hn1)
                   | (go_at_call 12; (with_reducible refine (Check_L hv HD4.out).mono ?_); rintro e w1 ⟨rfl, hn1⟩; replace hv := hv.new hn1; clear hn1))
                 have hv0 := hv
                 clear hv
                 have hv : Mem w _ ([(b_24, #[.int .i64 120, .int .i64 4, .int .u16 ((i + 1 : Nat) : Int), .int .u16 ((i + 1 : Nat) : Int)]), (b_21, #[.int .i64 0, .int .i64 4, .slice fa2 0 fc2, .int .u16 rav2, .int .u16 rla2, .slice ca2 4 cc2, .int .i64 120, .int .i64 4, .slice fa5 nf5 fc5, .int .u16 tav, .int .u16 tla5, .slice ca5 nc5 cc5, .int .i64 300, .int .i64 i0, .int .i64 i1, .int .i64 i2, .int .i64 i3, .int .i64 q0, .int .i64 q1, .int .i64 q2, .int .i64 q3]), (b_20, #[.slice (some ⟨vb4, 0, none⟩) 1900 vc4]), (b_10, #[.int .i64 120, .int .i64 4, .int .u16 i, .int .u16 i]), (b_9, #[.int .i64 0, .int .i64 4, .int .u16 to, .int .u16 to]), (b_7, #[.int .i64 0, .int .i64 4, .slice rfa 0 rfc, .int .u16 rav, .int .u16 rla, .slice rca 4 rcc, .int .i64 120, .int .i64 4, .slice tfa tfn tfc, .int .u16 tav, .int .u16 tla, .slice tca tcn tcc, .int .i64 300, .int .i64 i0, .int .i64 i1, .int .i64 i2, .int .i64 i3, .int .i64 o0, .int .i64 o1, .int .i64 o2, .int .i64 o3]), (b_6, #[.slice (some ⟨vb, 0, none⟩) 1900 vc])] ++ []) R5 := hv0
                 clear hv0
                 try simp only [Act.put]
                 refine Bny.wp_region_walk _ _ [⟨[1002], none⟩, ⟨[1001], none⟩, ⟨[1000], none⟩, ⟨[1006], some 1006⟩, ⟨[1005], some 1005⟩, ⟨[1003], some 1003⟩] [.val, .val, .val, .put, .put, .put] (by kernel_rfl) (by kernel_rfl) hv ?_
                 simp only [List.length_cons, List.length_nil, Nat.zero_add, Any.someVals]
                 iterate 6 apply Exists.intro
                 repeat (first
                   | (refine Bny.E_off rfl ?_; simp only [Act.put, sia, scs, scz])
                   | ((with_reducible refine Bny.at_estore (T := 26) ?_); refine Bny.E_putv (T := 26) rfl rfl rfl rfl rfl rfl 1 infoM rfl rfl (by simp [Value.oneCell']) ?_; simp only [Act.put, sia, scs, scz])
                   | ((with_reducible refine Bny.at_estore (T := 33) ?_); refine Bny.E_putv (T := 33) rfl rfl rfl rfl rfl rfl 21 infoN rfl rfl (by simp [Value.oneCell']) ?_; simp only [Act.put, sia, scs, scz])
                   | ((with_reducible refine Bny.at_estore (T := 38) ?_); refine Bny.E_putv (T := 38) rfl rfl rfl rfl rfl rfl 4 infoS4 rfl rfl (by simp [Value.oneCell']) ?_; simp only [Act.put, sia, scs, scz])
                   | (apply Bny.E_pureq rfl rfl rfl
                      case h => intro K hK; go_big_quiet_op; (refine hK _ ?_; rfl)
                      case hr => exact fun _ => rfl
                      simp only [Act.put, sia, scs, scz])
                   | (apply Bny.E_val rfl rfl rfl rfl
                      case h =>
                        intro E' hA K hK
                        first
                          | ((with_reducible refine Bny.at_qload (T := 26) ?_); refine Bny.q_ldv 1002 hA (by decide) rfl rfl 1 _ Tryz.underlying26 rfl infoM (by decide) rfl ?_; refine hK _ ?_; rfl)
                          | ((with_reducible refine Bny.at_qload (T := 33) ?_); refine Bny.q_ldv 1001 hA (by decide) rfl rfl 21 _ Tryz.underlying33 rfl infoN (by decide) rfl ?_; refine hK _ ?_; rfl)
                          | ((with_reducible refine Bny.at_qload (T := 38) ?_); refine Bny.q_ldv 1000 hA (by decide) rfl rfl 4 _ Tryz.underlying38 rfl infoS4 (by decide) rfl ?_; refine hK _ ?_; rfl)
                          | (go_big_quiet_op; first
                            | (refine hK _ ?_; rfl)
                            | (refine ⟨_, fun _ _ => rfl, ?_⟩; refine hK _ ?_; rfl)
                            | (apply Exists.intro; refine ⟨fun w1 hw1 => ?_, ?_⟩; · (first
                                | fail)
                               refine hK _ ?_; rfl))
                      case hD => rfl
                      simp only [Act.put, sia, scs, scz]))
                 try any_goals exact undef
                 refine Bny.E_nil ?_
                 intro w9 hE9
                 replace hv : Mem w w9 ([(b_10, #[.int .i64 120, .int .i64 4, .int .u16 ((i + 1 : Nat) : Int), .int .u16 ((i + 1 : Nat) : Int)]), (b_9, #[.int .i64 0, .int .i64 4, .int .u16 to, .int .u16 to]), (b_7, #[.int .i64 0, .int .i64 4, .slice fa2 0 fc2, .int .u16 rav2, .int .u16 rla2, .slice ca2 4 cc2, .int .i64 120, .int .i64 4, .slice fa5 nf5 fc5, .int .u16 tav, .int .u16 tla5, .slice ca5 nc5 cc5, .int .i64 300, .int .i64 i0, .int .i64 i1, .int .i64 i2, .int .i64 i3, .int .i64 q0, .int .i64 q1, .int .i64 q2, .int .i64 q3]), (b_6, #[.slice (some ⟨vb4, 0, none⟩) 1900 vc4])] ++ []) R5 := hE9.mem0 [1003, 1004, 1005, 1006] (by decide)
                 clear hE9
                 simp only [List.cons_append, List.nil_append] at hv
                 go_wp2
                 have hin := HIN.out
                 have hik := HIK.out
                 go_roundw
                 case rel => exact ⟨i + 1, k + 1, vb4, vc4, rav2, rla2, fc2, cc2, tav, tla5, nf5, fc5, nc5, cc5, i0, i1, i2, i3, q0, q1, q2, q3, fa2, ca2, fa5, ca5, R5, by omega, by go_num, hv, Lib.hid (by omega), Lib.hid (by omega), HD4, Lib.hid (fun x hx => HS4.out x (HS3.out x (HS2.out x (HSB.out x hx))))⟩
                 case measure => simp [intOf]; omega
               · have y9 : decide ((i : Int) < (to : Int)) = false := decide_eq_false (by omega)
                 have z9 : decide (i < to) = false := decide_eq_false hi
                 obtain rfl : to = i := by have := HIT.out; omega
                 obtain rfl : m = k := by have := HIK.out; have := HTO.out; omega
                 have q1 : IntKind.i64.wrap ((f : Int) + (many : Int)) = (f : Int) + (many : Int) := IntWalk.i64_in _ (by have := HF34.out; omega)
                 clear hi hi34 HIT y9 z9
                 go_wp2
                 have hf34 := HF34.out
                 have hto := HTO.out
                 go_roundw
                 case rel =>
                   refine ⟨f + many, to, vb, vc, rav, rla, rfc, rcc, tav, tla, tfn, tfc, tcn, tcc, i0, i1, i2, i3, o0, o1, o2, o3, rfa, rca, tfa, tca, R1, by omega, by go_num, hv, Lib.hid (by rw [← HNF.out]; omega), ?_, HSB⟩
                   have h9 := DrS.next (lotD ts (f + m)) (lotD ts (f + m)) HD.out (by have := HL30.out; omega) (by have := HL30.out; omega)
                   rw [show f + m = to from by omega] at h9
                   exact Lib.hid h9
                 case measure => simp [intOf]; omega
       · have y9 : decide ((f0 : Int) < (ln : Int)) = false := decide_eq_false (by omega)
         have z9 : decide (f0 < ln) = false := decide_eq_false hf
         clear hf hf34
         go_wp2_with (first
           | (go_at_call 7; (with_reducible refine (heads10 _).mono ?_); rintro e w1 ⟨rfl, hn1⟩; replace hv := hv.new hn1; clear hn1))
         go_ret
         exact ⟨rfl, hv.below⟩
theorem VnetCarries_any (la : Option Addr) (ln lc : Nat) (ts : List (Value × List Nat)) (many : Int) (w : World) (R : List (Nat × Value × List Value)) (hv : Mem w w [] R) (hl : (1, .slice la ln lc, ts.map (·.1)) ∈ R) (ht : ∀ p ∈ ts, (1, p.1, cellsB p.2) ∈ R ∧ goodB p.2) : Calls Tryz.prog 4 #[.slice la ln lc, .int .i64 many] w (fun e w' => e = .returned (.bool true) ∧ New w w') := by
 by_cases h0 : 30 < ln
 · exact NCar_c1 la ln lc ts many w R hv hl ht h0
 by_cases h1 : many < 1
 · exact NCar_c2 la ln lc ts many w R hv hl ht h0 h1
 by_cases h2 : 4 < many
 · exact NCar_c3 la ln lc ts many w R hv hl ht h0 h1 h2
 obtain ⟨n, rfl⟩ : ∃ n : Nat, many = (n : Int) := ⟨many.toNat, by omega⟩
 exact NCar_yes la ln lc ts n w R hv hl ht h0 (by omega) (by omega)
end Go.Proofs.YtjmibgomkgkhnaaGreat
