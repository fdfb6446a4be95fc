import Derived.Test.YtjmibgomkgkhnaaGreatVnW
import Derived.Test.YtjmibgomkgkhnaaGreatBytes
set_option linter.unusedSimpArgs false
set_option linter.unusedVariables false
set_option maxRecDepth 100000
set_option maxHeartbeats 32000000
section
/-
 Layer 10's head says yes.
-/
namespace Go.Proofs.YtjmibgomkgkhnaaGreat
open Go.Proofs.Qu Go.Proofs.Nm Go.RowKit Go.Proofs
theorem built_srv4_0 : Tryz.prog.built 38 [(0, .int .i64 0), (1, .int .i64 4)] = some #[.int .i64 0, .int .i64 4, .int .u16 0, .int .u16 0] := by kernel_rfl
theorem built_srv4_120 : Tryz.prog.built 38 [(0, .int .i64 120), (1, .int .i64 4)] = some #[.int .i64 120, .int .i64 4, .int .u16 0, .int .u16 0] := by kernel_rfl
theorem RServe4_0 (w : World) : Calls Tryz.prog 9 #[.int .i64 0, .int .i64 4] w fun e w' => e = .returned (.agg #[.int .i64 0, .int .i64 4, .int .u16 0, .int .u16 0]) ∧ New w w' := by
 have hv := Mem.nil w
 go_enter Tryz.func9, Tryz.ntmps9
 go_wp2_with (first
   | ((with_reducible refine at_alloc (T := 38) (dst := some 4) ?_); refine wl_newb rfl #[.int .i64 0, .int .i64 0, .int .u16 0, .int .u16 0] 38 (fun _ => rfl) ?_; intro b_4 w2 hm2; replace hv := hv.madeAt hm2; clear hm2)
   | ((with_reducible refine at_build (T := 38) ?_); refine wl_build rfl _ rfl built_srv4_0 ?_)
   | ((with_reducible refine at_store (T := 38) ?_); refine wl_stv rfl b_4 rfl _ rfl _ hv.vars.ro hv.vars.so 4 infoS4 rfl rfl (by simp [Value.oneCell']) ?_; intro w2 hw2; replace hv := hv.sets (by repeat first | exact .z | apply SetM.s) hw2; clear hw2))
 first
   | (go_ret; exact ⟨rfl, hv.below⟩)
   | (try simp only [Exit.inBlock, Exit.then]
      refine ret_cell1 (v := .agg #[.int .i64 0, .int .i64 4, .int .u16 0, .int .u16 0]) rfl rfl (read_row _ b_4 38 _ (hv.vars.ro (b := b_4)) 4 _ Tryz.underlying38 rfl infoS4 (by decide) rfl) rfl ?_
      exact ⟨rfl, hv.below⟩)
theorem RServe4_120 (w : World) : Calls Tryz.prog 9 #[.int .i64 120, .int .i64 4] w fun e w' => e = .returned (.agg #[.int .i64 120, .int .i64 4, .int .u16 0, .int .u16 0]) ∧ New w w' := by
 have hv := Mem.nil w
 go_enter Tryz.func9, Tryz.ntmps9
 go_wp2_with (first
   | ((with_reducible refine at_alloc (T := 38) (dst := some 4) ?_); refine wl_newb rfl #[.int .i64 0, .int .i64 0, .int .u16 0, .int .u16 0] 38 (fun _ => rfl) ?_; intro b_4 w2 hm2; replace hv := hv.madeAt hm2; clear hm2)
   | ((with_reducible refine at_build (T := 38) ?_); refine wl_build rfl _ rfl built_srv4_120 ?_)
   | ((with_reducible refine at_store (T := 38) ?_); refine wl_stv rfl b_4 rfl _ rfl _ hv.vars.ro hv.vars.so 4 infoS4 rfl rfl (by simp [Value.oneCell']) ?_; intro w2 hw2; replace hv := hv.sets (by repeat first | exact .z | apply SetM.s) hw2; clear hw2))
 first
   | (go_ret; exact ⟨rfl, hv.below⟩)
   | (try simp only [Exit.inBlock, Exit.then]
      refine ret_cell1 (v := .agg #[.int .i64 120, .int .i64 4, .int .u16 0, .int .u16 0]) rfl rfl (read_row _ b_4 38 _ (hv.vars.ro (b := b_4)) 4 _ Tryz.underlying38 rfl infoS4 (by decide) rfl) rfl ?_
      exact ⟨rfl, hv.below⟩)
def BringH (R : List (Nat × Value × List Value)) (rav rla rfc rcc tav tla tfn tfc tcn tcc i0 i1 i2 i3 o0 o1 o2 o3 : Nat) (rfa rca tfa tca : Option Addr) (v : Value) (R' : List (Nat × Value × List Value)) : Prop :=
 ∃ vb1 vc1 : Nat, v = .tuple #[.agg #[.slice (some ⟨vb1, 0, none⟩) 1900 vc1], .agg #[.int .i64 0, .int .i64 4, .int .u16 1, .int .u16 1], .int .i64 0] ∧ DrS R' vb1 vc1 rav rla rfc rcc tav tla tfn tfc tcn tcc i0 i1 i2 i3 o0 o1 o2 o3 rfa rca tfa tca 0 0 0 1 0 0 0 (fun _ => [1, 2, 3]) (fun _ => [4]) ∧ ∀ x ∈ R, x ∈ R'
theorem Bring_H {w0 w : World} {L : List (Nat × Array Value)} {R R0 : List (Nat × Value × List Value)} (hv : Mem w0 w L R) (hR : ∀ x ∈ R0, x ∈ R) {vb vc rav rla rfc rcc tav tla tfn tfc tcn tcc i0 i1 i2 i3 o0 o1 o2 o3 : Nat} {rfa rca tfa tca : Option Addr} {da : Option Addr} {dc : Nat} (h : DrS R0 vb vc rav rla rfc rcc tav tla tfn tfc tcn tcc i0 i1 i2 i3 o0 o1 o2 o3 rfa rca tfa tca 0 0 0 0 0 0 0 (fun _ => [1, 2, 3]) (fun _ => [4])) (hdr : (1, .slice da 3 dc, cellsB [1, 2, 3]) ∈ R) :
   Calls Tryz.prog 10 #[.agg #[.slice (some ⟨vb, 0, none⟩) 1900 vc], .agg #[.int .i64 0, .int .i64 4, .int .u16 0, .int .u16 0], .slice da 3 dc] w fun e w' => ∃ v R', e = .returned v ∧ BringH R0 rav rla rfc rcc tav tla tfn tfc tcn tcc i0 i1 i2 i3 o0 o1 o2 o3 rfa rca tfa tca v R' ∧ Mem w0 w' L R' ∧ ∀ x ∈ R, x ∈ R' := by
 refine (Bring_L (sn := 0) hv (h.mono hR) rfl (by decide) hdr (by intro x hx; simp at hx; omega) (by decide)).mono ?_
 rintro e w' ⟨vb5, vc5, sn5, R5, rfl, hv1, hd1, hsn, hs1⟩
 obtain rfl : sn5 = 1 := hsn
 exact ⟨_, R5, rfl, ⟨vb5, vc5, rfl, hd1, fun x hx => hs1 x (hR x hx)⟩, hv1, hs1⟩
def FetchH (R : List (Nat × Value × List Value)) (rav rla rfc rcc tav tla tfn tfc tcn tcc i0 i1 i2 i3 o0 o1 o2 o3 : Nat) (rfa rca tfa tca : Option Addr) (v : Value) (R' : List (Nat × Value × List Value)) : Prop :=
 ∃ (vb4 vc4 gc4 : Nat) (ao : Option Addr), v = .tuple #[.agg #[.slice (some ⟨vb4, 0, none⟩) 1900 vc4], .agg #[.int .i64 120, .int .i64 4, .int .u16 1, .int .u16 1], .slice ao 1 gc4, .int .i64 0] ∧ DrS R' vb4 vc4 rav rla rfc rcc tav tla tfn tfc tcn tcc i0 i1 i2 i3 o0 o1 o2 o3 rfa rca tfa tca 0 0 1 1 0 1 1 (fun _ => [1, 2, 3]) (fun _ => [4]) ∧ (1, .slice ao 1 gc4, cellsB [4]) ∈ R' ∧ ∀ x ∈ R, x ∈ R'
theorem Fetch_H {w0 w : World} {L : List (Nat × Array Value)} {R R0 : List (Nat × Value × List Value)} (hv : Mem w0 w L R) (hR : ∀ x ∈ R0, x ∈ R) {vb vc rav rla rfc rcc tav tla tfn tfc tcn tcc i0 i1 i2 i3 o0 o1 o2 o3 : Nat} {rfa rca tfa tca : Option Addr} (h : DrS R0 vb vc rav rla rfc rcc tav tla tfn tfc tcn tcc i0 i1 i2 i3 o0 o1 o2 o3 rfa rca tfa tca 0 0 1 1 0 0 1 (fun _ => [1, 2, 3]) (fun _ => [4])) :
   Calls Tryz.prog 14 #[.agg #[.slice (some ⟨vb, 0, none⟩) 1900 vc], .agg #[.int .i64 120, .int .i64 4, .int .u16 0, .int .u16 0]] w fun e w' => ∃ v R', e = .returned v ∧ FetchH R0 rav rla rfc rcc tav tla tfn tfc tcn tcc i0 i1 i2 i3 o0 o1 o2 o3 rfa rca tfa tca v R' ∧ Mem w0 w' L R' ∧ ∀ x ∈ R, x ∈ R' := by
 refine (Fetch_L (sn := 0) (n := 1) hv (h.mono hR) rfl (by decide) rfl).mono ?_
 rintro e w' ⟨vb5, vc5, sn5, ao, gc5, R5, rfl, hv1, hd1, hsn, hg1, hs1⟩
 obtain rfl : sn5 = 1 := hsn
 exact ⟨_, R5, rfl, ⟨vb5, vc5, gc5, ao, rfl, hd1, hg1, fun x hx => hs1 x (hR x hx)⟩, hv1, hs1⟩
theorem eqA4 (w : World) : (Op.equalIn 10000 31 (.agg #[.int .i64 0, .int .i64 0, .int .i64 0, .int .i64 0]) (.agg #[.int .i64 0, .int .i64 0, .int .i64 0, .int .i64 0])).run Tryz.prog w = .ok true w := by
 obtain ⟨i, hi⟩ : ∃ i, Tryz.prog.info? 3 = some i := by
   have h1 : (Tryz.prog.info? 3).isSome = true := by kernel_rfl
   exact Option.isSome_iff_exists.1 h1
 have h := run_eqArr (P := Tryz.prog) w 9999 31 4 3 #[.int .i64 0, .int .i64 0, .int .i64 0, .int .i64 0] #[.int .i64 0, .int .i64 0, .int .i64 0, .int .i64 0] (fun _ => true) i Tryz.underlying31 hi (fun k hk => by
   have e : Tryz.prog.cellsOf 3 = 1 := by kernel_rfl
   rw [e, Nat.mul_one]
   rcases (show k = 0 ∨ k = 1 ∨ k = 2 ∨ k = 3 from by omega) with rfl | rfl | rfl | rfl
   · exact ⟨_, _, run_part_cell w _ _ _ _ _ Tryz.underlying3 rfl rfl, run_part_cell w _ _ _ _ _ Tryz.underlying3 rfl rfl, run_equalIn_int w 9998 _ _ _ _ _ Tryz.underlying3⟩
   · exact ⟨_, _, run_part_cell w _ _ _ _ _ Tryz.underlying3 rfl rfl, run_part_cell w _ _ _ _ _ Tryz.underlying3 rfl rfl, run_equalIn_int w 9998 _ _ _ _ _ Tryz.underlying3⟩
   · exact ⟨_, _, run_part_cell w _ _ _ _ _ Tryz.underlying3 rfl rfl, run_part_cell w _ _ _ _ _ Tryz.underlying3 rfl rfl, run_equalIn_int w 9998 _ _ _ _ _ Tryz.underlying3⟩
   · exact ⟨_, _, run_part_cell w _ _ _ _ _ Tryz.underlying3 rfl rfl, run_part_cell w _ _ _ _ _ Tryz.underlying3 rfl rfl, run_equalIn_int w 9998 _ _ _ _ _ Tryz.underlying3⟩)
 rw [h]; rfl
theorem built_za4 : Tryz.prog.built 31 [] = some #[.int .i64 0, .int .i64 0, .int .i64 0, .int .i64 0] := by kernel_rfl
theorem DrS.none0 {R : List (Nat × Value × List Value)} {vb vc rav rla rfc rcc tav tla tfn tfc tcn tcc i0 i1 i2 i3 o0 o1 o2 o3 : Nat} {rfa rca tfa tca : Option Addr} {a ta rj rk m tf : Nat} {D E : Nat → List Nat} (h : DrS R vb vc rav rla rfc rcc tav tla tfn tfc tcn tcc i0 i1 i2 i3 o0 o1 o2 o3 rfa rca tfa tca a ta rj rk m tf m D E) : o0 = 0 ∧ o1 = 0 ∧ o2 = 0 ∧ o3 = 0 := by
 obtain ⟨M, rchs, tfree, tchs, h⟩ := h
 have h1 := h.os
 have h2 := h.b
 have : ∀ k, k < 5 → outs k k = [0, 0, 0, 0] := by decide
 rw [this m (by omega)] at h1
 simp only [List.cons.injEq] at h1
 exact ⟨h1.1, h1.2.1, h1.2.2.1, h1.2.2.2.1⟩
theorem Reap_H {w0 w : World} {L : List (Nat × Array Value)} {R : List (Nat × Value × List Value)} (hv : Mem w0 w L R) {vb vc rav rla rfc rcc tav tla tfn tfc tcn tcc i0 i1 i2 i3 o0 o1 o2 o3 : Nat} {rfa rca tfa tca : Option Addr} (h : DrS R vb vc rav rla rfc rcc tav tla tfn tfc tcn tcc i0 i1 i2 i3 o0 o1 o2 o3 rfa rca tfa tca 0 0 1 1 0 1 1 (fun _ => [1, 2, 3]) (fun _ => [4])) :
   Calls Tryz.prog 15 #[.agg #[.slice (some ⟨vb, 0, none⟩) 1900 vc], .agg #[.int .i64 0, .int .i64 4, .slice rfa 0 rfc, .int .u16 rav, .int .u16 rla, .slice rca 4 rcc, .int .i64 120, .int .i64 4, .slice tfa tfn tfc, .int .u16 tav, .int .u16 tla, .slice tca tcn tcc, .int .i64 300, .int .i64 i0, .int .i64 i1, .int .i64 i2, .int .i64 i3, .int .i64 o0, .int .i64 o1, .int .i64 o2, .int .i64 o3]] w fun e w' => ∃ (tla3 tfn1 fc3 tcn1 cc3 : Nat) (fa3 ca3 : Option Addr) (R3 : List (Nat × Value × List Value)), e = .returned (.tuple #[.agg #[.int .i64 0, .int .i64 4, .slice rfa 0 rfc, .int .u16 rav, .int .u16 rla, .slice rca 4 rcc, .int .i64 120, .int .i64 4, .slice fa3 tfn1 fc3, .int .u16 tav, .int .u16 tla3, .slice ca3 tcn1 cc3, .int .i64 300, .int .i64 i0, .int .i64 i1, .int .i64 i2, .int .i64 i3, .int .i64 0, .int .i64 0, .int .i64 0, .int .i64 0], .int .i64 0]) ∧ Mem w0 w' L R3 ∧ DrS R3 vb vc rav rla rfc rcc tav tla3 tfn1 fc3 tcn1 cc3 i0 i1 i2 i3 0 0 0 0 rfa rca fa3 ca3 0 0 1 1 1 1 1 (fun _ => [1, 2, 3]) (fun _ => [4]) ∧ ∀ x ∈ R, x ∈ R3 := by
 refine (Reap_L hv h (by decide)).mono ?_
 rintro e w' ⟨v, R3, rfl, ⟨tla3, tfn1, fc3, tcn1, cc3, p0, p1, p2, p3, fa3, ca3, rfl, hd1, hs1⟩, hv1⟩
 obtain ⟨rfl, rfl, rfl, rfl⟩ := DrS.none0 hd1
 exact ⟨tla3, tfn1, fc3, tcn1, cc3, fa3, ca3, R3, rfl, hv1, hd1, hs1⟩
theorem Take_H {w0 w : World} {L : List (Nat × Array Value)} {R : List (Nat × Value × List Value)} (hv : Mem w0 w L R) {vb vc rav rla rfc rcc tav tla tfn tfc tcn tcc i0 i1 i2 i3 o0 o1 o2 o3 : Nat} {rfa rca tfa tca : Option Addr} (h : DrS R vb vc rav rla rfc rcc tav tla tfn tfc tcn tcc i0 i1 i2 i3 o0 o1 o2 o3 rfa rca tfa tca 0 0 0 1 0 0 0 (fun _ => [1, 2, 3]) (fun _ => [4])) :
   Calls Tryz.prog 11 #[.agg #[.slice (some ⟨vb, 0, none⟩) 1900 vc], .agg #[.int .i64 0, .int .i64 4, .slice rfa 0 rfc, .int .u16 rav, .int .u16 rla, .slice rca 4 rcc, .int .i64 120, .int .i64 4, .slice tfa tfn tfc, .int .u16 tav, .int .u16 tla, .slice tca tcn tcc, .int .i64 300, .int .i64 i0, .int .i64 i1, .int .i64 i2, .int .i64 i3, .int .i64 o0, .int .i64 o1, .int .i64 o2, .int .i64 o3]] w fun e w' => ∃ vb5 vc5 rav5 rla5 fc5 cc5 fa5 ca5 R5 gb gc, e = .returned (.tuple #[.agg #[.slice (some ⟨vb5, 0, none⟩) 1900 vc5], .agg #[.int .i64 0, .int .i64 4, .slice fa5 0 fc5, .int .u16 (rav5 : Nat), .int .u16 (rla5 : Nat), .slice ca5 4 cc5, .int .i64 120, .int .i64 4, .slice tfa tfn tfc, .int .u16 tav, .int .u16 tla, .slice tca tcn tcc, .int .i64 300, .int .i64 i0, .int .i64 i1, .int .i64 i2, .int .i64 i3, .int .i64 o0, .int .i64 o1, .int .i64 o2, .int .i64 o3], .slice (some ⟨gb, 0, none⟩) 3 gc, .int .i64 0]) ∧ Mem w0 w' L R5 ∧ DrS R5 vb5 vc5 rav5 rla5 fc5 cc5 tav tla tfn tfc tcn tcc i0 i1 i2 i3 o0 o1 o2 o3 fa5 ca5 tfa tca 0 0 1 1 0 0 0 (fun _ => [1, 2, 3]) (fun _ => [4]) ∧ (1, .slice (some ⟨gb, 0, none⟩) 3 gc, cellsB [1, 2, 3]) ∈ R5 ∧ ∀ x ∈ R, x ∈ R5 := Take_yes_L (n := 3) hv h (by decide) (by decide) rfl (by decide) (by decide)
theorem Take_none_H {w0 w : World} {L : List (Nat × Array Value)} {R : List (Nat × Value × List Value)} (hv : Mem w0 w L R) {vb vc rav rla rfc rcc tav tla tfn tfc tcn tcc i0 i1 i2 i3 o0 o1 o2 o3 : Nat} {rfa rca tfa tca : Option Addr} (h : DrS R vb vc rav rla rfc rcc tav tla tfn tfc tcn tcc i0 i1 i2 i3 o0 o1 o2 o3 rfa rca tfa tca 0 0 1 1 0 0 0 (fun _ => [1, 2, 3]) (fun _ => [4])) :
   Calls Tryz.prog 11 #[.agg #[.slice (some ⟨vb, 0, none⟩) 1900 vc], .agg #[.int .i64 0, .int .i64 4, .slice rfa 0 rfc, .int .u16 rav, .int .u16 rla, .slice rca 4 rcc, .int .i64 120, .int .i64 4, .slice tfa tfn tfc, .int .u16 tav, .int .u16 tla, .slice tca tcn tcc, .int .i64 300, .int .i64 i0, .int .i64 i1, .int .i64 i2, .int .i64 i3, .int .i64 o0, .int .i64 o1, .int .i64 o2, .int .i64 o3]] w fun e w' => e = .returned (.tuple #[.agg #[.slice (some ⟨vb, 0, none⟩) 1900 vc], .agg #[.int .i64 0, .int .i64 4, .slice rfa 0 rfc, .int .u16 rav, .int .u16 rla, .slice rca 4 rcc, .int .i64 120, .int .i64 4, .slice tfa tfn tfc, .int .u16 tav, .int .u16 tla, .slice tca tcn tcc, .int .i64 300, .int .i64 i0, .int .i64 i1, .int .i64 i2, .int .i64 i3, .int .i64 o0, .int .i64 o1, .int .i64 o2, .int .i64 o3], .slice none 0 0, .int .i64 7]) ∧ Mem w0 w' L R := Take_none_L (rk := 1) hv h
theorem Send_H {w0 w : World} {L : List (Nat × Array Value)} {R : List (Nat × Value × List Value)} (hv : Mem w0 w L R) {vb vc rav rla rfc rcc tav tla tfn tfc tcn tcc i0 i1 i2 i3 o0 o1 o2 o3 : Nat} {rfa rca tfa tca : Option Addr} {dc : Nat} {da : Option Addr} (h : DrS R vb vc rav rla rfc rcc tav tla tfn tfc tcn tcc i0 i1 i2 i3 o0 o1 o2 o3 rfa rca tfa tca 0 0 1 1 0 0 0 (fun _ => [1, 2, 3]) (fun _ => [4])) (hdr : (1, .slice da 1 dc, cellsB [4]) ∈ R) :
   Calls Tryz.prog 13 #[.agg #[.slice (some ⟨vb, 0, none⟩) 1900 vc], .agg #[.int .i64 0, .int .i64 4, .slice rfa 0 rfc, .int .u16 rav, .int .u16 rla, .slice rca 4 rcc, .int .i64 120, .int .i64 4, .slice tfa tfn tfc, .int .u16 tav, .int .u16 tla, .slice tca tcn tcc, .int .i64 300, .int .i64 i0, .int .i64 i1, .int .i64 i2, .int .i64 i3, .int .i64 o0, .int .i64 o1, .int .i64 o2, .int .i64 o3], .slice da 1 dc] w fun e w' => ∃ (vb3 vc3 tav3 nf1 fc3 nc1 cc3 p0 p1 p2 p3 : Nat) (fa3 ca3 : Option Addr) (R3 : List (Nat × Value × List Value)), e = .returned (.tuple #[.agg #[.slice (some ⟨vb3, 0, none⟩) 1900 vc3], .agg #[.int .i64 0, .int .i64 4, .slice rfa 0 rfc, .int .u16 rav, .int .u16 rla, .slice rca 4 rcc, .int .i64 120, .int .i64 4, .slice fa3 nf1 fc3, .int .u16 tav3, .int .u16 tla, .slice ca3 nc1 cc3, .int .i64 300, .int .i64 i0, .int .i64 i1, .int .i64 i2, .int .i64 i3, .int .i64 p0, .int .i64 p1, .int .i64 p2, .int .i64 p3], .int .i64 0]) ∧ Mem w0 w' L R3 ∧ DrS R3 vb3 vc3 rav rla rfc rcc tav3 tla nf1 fc3 nc1 cc3 i0 i1 i2 i3 p0 p1 p2 p3 rfa rca fa3 ca3 0 0 1 1 0 0 1 (fun _ => [1, 2, 3]) (fun _ => [4]) ∧ ∀ x ∈ R, x ∈ R3 := by
 refine (Send_L (tj := 0) hv h (by decide) hdr (by intro x hx; simp at hx; omega) (by decide) (by decide)).mono ?_
 rintro e w' ⟨v, R3, rfl, ⟨vb3, vc3, tav3, nf1, fc3, nc1, cc3, p0, p1, p2, p3, fa3, ca3, rfl, hd1, hs1⟩, hv1⟩
 exact ⟨vb3, vc3, tav3, nf1, fc3, nc1, cc3, p0, p1, p2, p3, fa3, ca3, R3, rfl, hv1, hd1, hs1⟩
theorem Send_nil_H {w0 w : World} {L : List (Nat × Array Value)} {R : List (Nat × Value × List Value)} (hv : Mem w0 w L R) {vb vc rav rla rfc rcc tav tla tfn tfc tcn tcc i0 i1 i2 i3 o0 o1 o2 o3 : Nat} {rfa rca tfa tca : Option Addr} (h : DrS R vb vc rav rla rfc rcc tav tla tfn tfc tcn tcc i0 i1 i2 i3 o0 o1 o2 o3 rfa rca tfa tca 0 0 1 1 0 1 1 (fun _ => [1, 2, 3]) (fun _ => [4])) : Calls Tryz.prog 13 #[.agg #[.slice (some ⟨vb, 0, none⟩) 1900 vc], .agg #[.int .i64 0, .int .i64 4, .slice rfa 0 rfc, .int .u16 rav, .int .u16 rla, .slice rca 4 rcc, .int .i64 120, .int .i64 4, .slice tfa tfn tfc, .int .u16 tav, .int .u16 tla, .slice tca tcn tcc, .int .i64 300, .int .i64 i0, .int .i64 i1, .int .i64 i2, .int .i64 i3, .int .i64 o0, .int .i64 o1, .int .i64 o2, .int .i64 o3], .slice none 0 0] w fun e w' => e = .returned (.tuple #[.agg #[.slice (some ⟨vb, 0, none⟩) 1900 vc], .agg #[.int .i64 0, .int .i64 4, .slice rfa 0 rfc, .int .u16 rav, .int .u16 rla, .slice rca 4 rcc, .int .i64 120, .int .i64 4, .slice tfa tfn tfc, .int .u16 tav, .int .u16 tla, .slice tca tcn tcc, .int .i64 300, .int .i64 i0, .int .i64 i1, .int .i64 i2, .int .i64 i3, .int .i64 o0, .int .i64 o1, .int .i64 o2, .int .i64 o3], .int .i64 2]) ∧ Mem w0 w' L R := Send_nil_L hv h
theorem Reap_none_H {w0 w : World} {L : List (Nat × Array Value)} {R : List (Nat × Value × List Value)} (hv : Mem w0 w L R) {vb vc rav rla rfc rcc tav tla tfn tfc tcn tcc i0 i1 i2 i3 : Nat} {rfa rca tfa tca : Option Addr} (h : DrS R vb vc rav rla rfc rcc tav tla tfn tfc tcn tcc i0 i1 i2 i3 0 0 0 0 rfa rca tfa tca 0 0 1 1 1 1 1 (fun _ => [1, 2, 3]) (fun _ => [4])) :
   Calls Tryz.prog 15 #[.agg #[.slice (some ⟨vb, 0, none⟩) 1900 vc], .agg #[.int .i64 0, .int .i64 4, .slice rfa 0 rfc, .int .u16 rav, .int .u16 rla, .slice rca 4 rcc, .int .i64 120, .int .i64 4, .slice tfa tfn tfc, .int .u16 tav, .int .u16 tla, .slice tca tcn tcc, .int .i64 300, .int .i64 i0, .int .i64 i1, .int .i64 i2, .int .i64 i3, .int .i64 0, .int .i64 0, .int .i64 0, .int .i64 0]] w fun e w' => e = .returned (.tuple #[.agg #[.int .i64 0, .int .i64 4, .slice rfa 0 rfc, .int .u16 rav, .int .u16 rla, .slice rca 4 rcc, .int .i64 120, .int .i64 4, .slice tfa tfn tfc, .int .u16 tav, .int .u16 tla, .slice tca tcn tcc, .int .i64 300, .int .i64 i0, .int .i64 i1, .int .i64 i2, .int .i64 i3, .int .i64 0, .int .i64 0, .int .i64 0, .int .i64 0], .int .i64 7]) ∧ Mem w0 w' L R := Reap_none_L hv h
theorem Check_H {w0 w : World} {L : List (Nat × Array Value)} {R : List (Nat × Value × List Value)} (hv : Mem w0 w L R) {vb vc rav rla rfc rcc tav tla tfn tfc tcn tcc i0 i1 i2 i3 : Nat} {rfa rca tfa tca : Option Addr} (h : DrS R vb vc rav rla rfc rcc tav tla tfn tfc tcn tcc i0 i1 i2 i3 0 0 0 0 rfa rca tfa tca 0 0 1 1 1 1 1 (fun _ => [1, 2, 3]) (fun _ => [4])) :
   Calls Tryz.prog 12 #[.agg #[.int .i64 0, .int .i64 4, .slice rfa 0 rfc, .int .u16 rav, .int .u16 rla, .slice rca 4 rcc, .int .i64 120, .int .i64 4, .slice tfa tfn tfc, .int .u16 tav, .int .u16 tla, .slice tca tcn tcc, .int .i64 300, .int .i64 i0, .int .i64 i1, .int .i64 i2, .int .i64 i3, .int .i64 0, .int .i64 0, .int .i64 0, .int .i64 0]] w fun e w' => e = .returned (.bool true) ∧ New w w' := Check_L hv h
theorem heads10 (w : World) : Calls Tryz.prog 7 #[] w fun e w' => e = .returned (.bool true) ∧ New w w' := by
 have kB : ∀ u v l w', Rd w' 1 u (cellsB l) → Rd w' 1 v (cellsB l) → goodB l → Calls Tryz.prog 16 #[u, v] w' fun e w2 => e = .returned (.bool true) ∧ New w' w2 := fun u v l w' h1 h2 h3 => by
   refine (Bytes_any u v l l w' h1 h2 h3 h3).mono ?_
   rintro e w2 ⟨rfl, rfl⟩
   exact ⟨by rw [decide_eq_true rfl], Below.refl _ _⟩
 have G3 : Hid (goodB [1, 2, 3]) := Lib.hid (by intro x hx; simp at hx; omega)
 have G4 : Hid (goodB [4]) := Lib.hid (by intro x hx; simp at hx; omega)
 have HQ : ∀ w : World, (Op.equalIn 10000 31 (.agg #[.int .i64 0, .int .i64 0, .int .i64 0, .int .i64 0]) (.agg #[.int .i64 0, .int .i64 0, .int .i64 0, .int .i64 0])).run Tryz.prog w = .ok true w := eqA4
 have hv := Mem.nil w
 obtain ⟨R, hR⟩ : ∃ R : List (Nat × Value × List Value), R = [] := ⟨[], rfl⟩
 rw [← hR] at hv
 clear hR
 go_enter Tryz.func7, Tryz.ntmps7
 try simp only [List.append_eq, List.cons_append, List.nil_append]
 go_wp2_with (first
   | ((with_reducible refine at_mkslice (T := 24) ?_); refine wl_mkz rfl 1900 rfl rfl (by decide) ?_; intro b_24 w2 hm2; have hv1 := Mem.yield (L1 := []) (hv.madeAt hm2) (zeros_row b_24 1900 (by decide)); simp only [List.nil_append] at hv1; replace hv := hv1; clear hv1 hm2; have HMZ : Hid (InM ((1, .slice (some ⟨b_24, 0, none⟩) 1900 1900, cellsB (List.replicate 1900 0)) :: R) b_24 0 1900 1900 NM0) := Lib.hid ⟨Mem.z, List.length_replicate, by decide, by decide, zeros_good 1900⟩)
   | ((with_reducible refine at_build (T := 26) ?_); refine wl_build rfl _ rfl (built_mem _ _ _) ?_)
   | (go_at_call 8; (with_reducible refine (New_L hv HMZ.out).mono ?_); rintro e w1 ⟨v, R1, rfl, ⟨vb, vc, rav, rla, rfc, rcc, tav, tla, tfn, tfc, tcn, tcc, i0, i1, i2, i3, o0, o1, o2, o3, rfa, rca, tfa, tca, rfl, hd1, hs1⟩, hv1⟩; replace hv := hv1; have HD := Lib.hid (hd1 (fun _ => [1, 2, 3]) (fun _ => [4])); clear hv1 hd1 hs1)
   | ((with_reducible refine at_alloc (T := 26) (dst := some 1) ?_); refine wl_newb rfl #[.slice none 0 0] 26 (fun _ => rfl) ?_; intro b_1 w2 hm2; replace hv := hv.madeAt hm2; clear hm2)
   | ((with_reducible refine at_alloc (T := 33) (dst := some 2) ?_); refine wl_newb rfl #[.int .i64 0, .int .i64 0, .slice none 0 0, .int .u16 0, .int .u16 0, .slice none 0 0, .int .i64 0, .int .i64 0, .slice none 0 0, .int .u16 0, .int .u16 0, .slice none 0 0, .int .i64 0, .int .i64 0, .int .i64 0, .int .i64 0, .int .i64 0, .int .i64 0, .int .i64 0, .int .i64 0, .int .i64 0] 33 (fun _ => rfl) ?_; intro b_2 w2 hm2; replace hv := hv.madeAt hm2; clear hm2)
   | ((with_reducible refine at_store (T := 26) ?_); refine wl_stv rfl b_1 rfl _ rfl _ hv.vars.ro hv.vars.so 1 infoM rfl rfl (by simp [Value.oneCell']) ?_; intro w2 hw2; replace hv := hv.sets (by repeat first | exact .z | apply SetM.s) hw2; clear hw2)
   | ((with_reducible refine at_store (T := 33) ?_); refine wl_stv rfl b_2 rfl _ rfl _ hv.vars.ro hv.vars.so 21 infoN rfl rfl (by simp [Value.oneCell']) ?_; intro w2 hw2; replace hv := hv.sets (by repeat first | exact .z | apply SetM.s) hw2; clear hw2))
 have HSO : Hid (∃ v R', BringH R1 rav rla rfc rcc tav tla tfn tfc tcn tcc i0 i1 i2 i3 o0 o1 o2 o3 rfa rca tfa tca v R') := Lib.hid (Bny.some_of (Bring_H (hv.bsl' (k := 1) (n := 3) (c := cellsB [1, 2, 3]) ⟨rfl, made_alloc _ #[.int .u8 1, .int .u8 2, .int .u8 3] 5⟩ rfl rfl (by unfold maxLen; omega)) (fun x hx => Mem.s hx) HD.out Mem.z))
 have HKN : Hid (∀ (B2 : Nat) {E : Bny.Env} (ks : List Nat), 2 ∈ ks → E 2 = .rds [(1, .slice (some ⟨B2, 0, none⟩) 3 3, cellsB [1, 2, 3])] → ∀ x ∈ (1, Value.slice (some ⟨B2, 0, none⟩) 3 3, cellsB [1, 2, 3]) :: R1, Bny.Known ⟨w, [], R1⟩ E ks x) := Lib.hid (fun B2 E ks h1 h2 x hx => by
   rcases List.mem_cons.1 hx with rfl | hx
   · exact .inr ⟨2, h1, by rw [h2]; exact List.mem_singleton_self _⟩
   · exact .inl hx)
 replace hv : Mem w _ ([(b_2, _), (b_1, _)] ++ []) R1 := hv
 try simp only [Act.put]
 refine Bny.wp_region_walk _ _ [⟨[1001], none⟩, ⟨[], none⟩, ⟨[], some 2⟩, ⟨[2], some 3⟩, ⟨[], none⟩, ⟨[], none⟩, ⟨[], none⟩, ⟨[], none⟩, ⟨[], some 8⟩, ⟨[1001], some 1001⟩, ⟨[8], some 8⟩, ⟨[], none⟩] [.val, .val, .bslR 1 3 #[.int .u8 1, .int .u8 2, .int .u8 3], .mem (BringH R1 rav rla rfc rcc tav tla tfn tfc tcn tcc i0 i1 i2 i3 o0 o1 o2 o3 rfa rca tfa tca), .pure, .pure, .pure, .pure, .lay #[.int .i64 0, .int .i64 0, .int .u16 0, .int .u16 0], .put, .put, .pure] (by kernel_rfl) (by kernel_rfl) hv ?_
 simp only [List.length_cons, List.length_nil, Nat.zero_add, Any.someVals]
 iterate 12 apply Exists.intro
 repeat (first
   | (refine Bny.E_off rfl ?_; simp only [Act.put, sia, scs, scz])
   | ((with_reducible refine Bny.at_ealloc ?_); refine Bny.E_lay (t := 38) rfl rfl rfl (fun _ => rfl) ?_; intro b_4; simp only [Act.put, sia, scs, scz])
   | ((with_reducible refine Bny.at_estore (T := 26) ?_); refine Bny.E_putv (T := 26) rfl rfl rfl rfl rfl rfl 1 infoM rfl rfl (by simp [Value.oneCell']) ?_; simp only [Act.put, sia, scs, scz])
   | ((with_reducible refine Bny.at_estore (T := 38) ?_); refine Bny.E_putv (T := 38) rfl rfl rfl rfl rfl rfl 4 infoS4 rfl rfl (by simp [Value.oneCell']) ?_; simp only [Act.put, sia, scs, scz])
   | ((with_reducible refine Bny.at_ecallf (f := 10) ?_); refine Bny.E_callmem rfl rfl rfl (Go.Proofs.enters_of Tryz.func10 (by kernel_rfl) rfl) rfl [.agg #[.slice (some ⟨vb, 0, none⟩) 1900 vc], .agg #[.int .i64 0, .int .i64 4, .int .u16 0, .int .u16 0], .slice (some ⟨B2, 0, none⟩) 3 3] rfl HSO.out ((1, .slice (some ⟨B2, 0, none⟩) 3 3, cellsB [1, 2, 3]) :: R1) (HKN.out B2 _ (by decide) rfl) (fun w0 w L R' hm hs => Bring_H hm (fun x hx => hs x (List.mem_cons_of_mem _ hx)) HD.out (hs _ (List.mem_cons_self ..))) ?_; rintro v R2 ⟨vb1, vc1, rfl, hd1, hs1⟩; have HD1 := Lib.hid hd1; clear hd1 hs1; simp only [Act.put, sia, scs, scz])
   | ((with_reducible refine Bny.at_ebsl ?_); refine Bny.E_bslR (t := 5) rfl rfl rfl (fun w' => (by unfold execOp; go_simp)) rfl (by unfold maxLen; omega) ?_; intro B2; simp only [Act.put, sia, scs, scz])
   | (apply Bny.E_pureq rfl rfl rfl
      case h => intro K hK; go_big_quiet_op; (refine hK _ ?_; rfl)
      case hr => exact fun _ => rfl
      simp only [Act.put, sia, scs, scz])
   | (apply Bny.E_val rfl rfl rfl rfl
      case h =>
        intro E' hA K hK
        first
          | ((with_reducible refine Bny.at_qload (T := 26) ?_); refine Bny.q_ldv 1001 hA (by decide) rfl rfl 1 _ Tryz.underlying26 rfl infoM (by decide) rfl ?_; refine hK _ ?_; rfl)
          | (go_big_quiet_op; first
            | (refine hK _ ?_; rfl)
            | (refine ⟨_, fun _ _ => rfl, ?_⟩; refine hK _ ?_; rfl)
            | (apply Exists.intro; refine ⟨fun w1 hw1 => ?_, ?_⟩; · (first
                | (go_at_call 9; exact Bny.calls_VE (RServe4_0 _) hw1))
               refine hK _ ?_; rfl))
      case hD => rfl
      simp only [Act.put, sia, scs, scz]))
 try any_goals exact undef
 refine Bny.E_nil ?_
 intro w9 hE9
 replace hv : Mem w w9 ([(b_4, #[.int .i64 0, .int .i64 4, .int .u16 1, .int .u16 1]), (b_2, #[.int .i64 0, .int .i64 4, .slice rfa 0 rfc, .int .u16 rav, .int .u16 rla, .slice rca 4 rcc, .int .i64 120, .int .i64 4, .slice tfa tfn tfc, .int .u16 tav, .int .u16 tla, .slice tca tcn tcc, .int .i64 300, .int .i64 i0, .int .i64 i1, .int .i64 i2, .int .i64 i3, .int .i64 o0, .int .i64 o1, .int .i64 o2, .int .i64 o3]), (b_1, #[.slice (some ⟨vb1, 0, none⟩) 1900 vc1])] ++ []) R2 := hE9.mem1 [8, 1000, 1001] (by decide) 3 rfl
 clear hE9
 simp only [List.cons_append, List.nil_append] at hv
 go_wp2_with (first
   | ((with_reducible refine at_load (T := 26) ?_); refine wl_ldv rfl b_1 rfl _ hv.vars.ro 1 _ Tryz.underlying26 rfl infoM (by decide) rfl ?_)
   | ((with_reducible refine at_load (T := 33) ?_); refine wl_ldv rfl b_2 rfl _ hv.vars.ro 21 _ Tryz.underlying33 rfl infoN (by decide) rfl ?_)
   | (go_at_call 11; (with_reducible refine (Take_H hv HD1.out).mono ?_); rintro e w1 ⟨vb2, vc2, rav2, rla2, fc2, cc2, fa2, ca2, R3, gb, gc, rfl, hv1, hd1, hg1, hs1⟩; replace hv := hv1; have HD2 := Lib.hid hd1; have HG2 := Lib.hid hg1; clear hv1 hd1 hg1 hs1)
   | (go_at_call 11; (with_reducible refine (Take_none_H hv HD2.out).mono ?_); rintro e w1 ⟨rfl, hv1⟩; replace hv := hv1; clear hv1)
   | ((with_reducible refine at_alloc (T := 26) (dst := some 8) ?_); refine wl_newb rfl #[.slice none 0 0] 26 (fun _ => rfl) ?_; intro b_8 w2 hm2; replace hv := hv.madeAt hm2; clear hm2)
   | ((with_reducible refine at_alloc (T := 33) (dst := some 9) ?_); refine wl_newb rfl #[.int .i64 0, .int .i64 0, .slice none 0 0, .int .u16 0, .int .u16 0, .slice none 0 0, .int .i64 0, .int .i64 0, .slice none 0 0, .int .u16 0, .int .u16 0, .slice none 0 0, .int .i64 0, .int .i64 0, .int .i64 0, .int .i64 0, .int .i64 0, .int .i64 0, .int .i64 0, .int .i64 0, .int .i64 0] 33 (fun _ => rfl) ?_; intro b_9 w2 hm2; replace hv := hv.madeAt hm2; clear hm2)
   | ((with_reducible refine at_store (T := 26) ?_); refine wl_stv rfl b_1 rfl _ rfl _ hv.vars.ro hv.vars.so 1 infoM rfl rfl (by simp [Value.oneCell']) ?_; intro w2 hw2; replace hv := hv.sets (by repeat first | exact .z | apply SetM.s) hw2; clear hw2)
   | ((with_reducible refine at_store (T := 33) ?_); refine wl_stv rfl b_2 rfl _ rfl _ hv.vars.ro hv.vars.so 21 infoN rfl rfl (by simp [Value.oneCell']) ?_; intro w2 hw2; replace hv := hv.sets (by repeat first | exact .z | apply SetM.s) hw2; clear hw2)
   | ((with_reducible refine at_store (T := 26) ?_); refine wl_stv rfl b_8 rfl _ rfl _ hv.vars.ro hv.vars.so 1 infoM rfl rfl (by simp [Value.oneCell']) ?_; intro w2 hw2; replace hv := hv.sets (by repeat first | exact .z | apply SetM.s) hw2; clear hw2)
   | ((with_reducible refine at_store (T := 33) ?_); refine wl_stv rfl b_9 rfl _ rfl _ hv.vars.ro hv.vars.so 21 infoN rfl rfl (by simp [Value.oneCell']) ?_; intro w2 hw2; replace hv := hv.sets (by repeat first | exact .z | apply SetM.s) hw2; clear hw2)
   | (go_at_call 13; replace hv := hv.bsl' (k := 1) (n := 1) (c := cellsB [4]) ⟨rfl, made_alloc _ #[.int .u8 4] 5⟩ rfl rfl (by unfold maxLen; omega); (with_reducible refine (Send_H hv (HD2.out.mono fun x hx => Mem.s hx) Mem.z).mono ?_); rintro e w1 ⟨vb3, vc3, tav3, nf3, fc3, nc3, cc3, p0, p1, p2, p3, fa3, ca3, R4, rfl, hv1, hd1, hs1⟩; replace hv := hv1; have HD3 := Lib.hid hd1; have HG3 := Lib.hid (hs1 _ (Mem.s HG2.out)); clear hv1 hd1 hs1))
 have HSF : Hid (∃ v R', FetchH R4 rav2 rla2 fc2 cc2 tav3 tla nf3 fc3 nc3 cc3 i0 i1 i2 i3 p0 p1 p2 p3 fa2 ca2 fa3 ca3 v R') := Lib.hid (Bny.some_of (Fetch_H hv (fun x hx => hx) HD3.out))
 replace hv : Mem w _ ([(b_9, _), (b_8, _), (b_4, _), (b_2, _), (b_1, _)] ++ []) R4 := hv
 try simp only [Act.put]
 refine Bny.wp_region_walk _ _ [⟨[1004], none⟩, ⟨[], none⟩, ⟨[], some 2⟩, ⟨[], none⟩, ⟨[], none⟩, ⟨[], none⟩, ⟨[], none⟩, ⟨[], none⟩, ⟨[], some 8⟩, ⟨[1004], some 1004⟩, ⟨[8], some 8⟩, ⟨[], none⟩, ⟨[], none⟩] [.val, .val, .mem (FetchH R4 rav2 rla2 fc2 cc2 tav3 tla nf3 fc3 nc3 cc3 i0 i1 i2 i3 p0 p1 p2 p3 fa2 ca2 fa3 ca3), .pure, .pure, .pure, .pure, .pure, .lay #[.int .i64 0, .int .i64 0, .int .u16 0, .int .u16 0], .put, .put, .pure, .pure] (by kernel_rfl) (by kernel_rfl) hv ?_
 simp only [List.length_cons, List.length_nil, Nat.zero_add, Any.someVals]
 iterate 13 apply Exists.intro
 repeat (first
   | (refine Bny.E_off rfl ?_; simp only [Act.put, sia, scs, scz])
   | ((with_reducible refine Bny.at_ealloc ?_); refine Bny.E_lay (t := 38) rfl rfl rfl (fun _ => rfl) ?_; intro b_13; simp only [Act.put, sia, scs, scz])
   | ((with_reducible refine Bny.at_estore (T := 26) ?_); refine Bny.E_putv (T := 26) rfl rfl rfl rfl rfl rfl 1 infoM rfl rfl (by simp [Value.oneCell']) ?_; simp only [Act.put, sia, scs, scz])
   | ((with_reducible refine Bny.at_estore (T := 38) ?_); refine Bny.E_putv (T := 38) rfl rfl rfl rfl rfl rfl 4 infoS4 rfl rfl (by simp [Value.oneCell']) ?_; simp only [Act.put, sia, scs, scz])
   | ((with_reducible refine Bny.at_ecallf (f := 14) ?_); refine Bny.E_callmem rfl rfl rfl (Go.Proofs.enters_of Tryz.func14 (by kernel_rfl) rfl) rfl [.agg #[.slice (some ⟨vb3, 0, none⟩) 1900 vc3], .agg #[.int .i64 120, .int .i64 4, .int .u16 0, .int .u16 0]] rfl HSF.out R4 (fun x hx => .inl hx) (fun w0 w L R' hm hs => Fetch_H hm hs HD3.out) ?_; rintro v R5 ⟨vb4, vc4, gc4, ao, rfl, hd1, hg1, hs1⟩; have HD4 := Lib.hid hd1; have HG4 := Lib.hid hg1; have HG5 := Lib.hid (hs1 _ HG3.out); clear hd1 hg1 hs1; simp only [Act.put, sia, scs, scz])
   | (apply Bny.E_pureq rfl rfl rfl
      case h => intro K hK; go_big_quiet_op; (refine hK _ ?_; rfl)
      case hr => exact fun _ => rfl
      simp only [Act.put, sia, scs, scz])
   | (apply Bny.E_val rfl rfl rfl rfl
      case h =>
        intro E' hA K hK
        first
          | ((with_reducible refine Bny.at_qload (T := 26) ?_); refine Bny.q_ldv 1004 hA (by decide) rfl rfl 1 _ Tryz.underlying26 rfl infoM (by decide) rfl ?_; refine hK _ ?_; rfl)
          | (go_big_quiet_op; first
            | (refine hK _ ?_; rfl)
            | (refine ⟨_, fun _ _ => rfl, ?_⟩; refine hK _ ?_; rfl)
            | (apply Exists.intro; refine ⟨fun w1 hw1 => ?_, ?_⟩; · (first
                | (go_at_call 9; exact Bny.calls_VE (RServe4_120 _) hw1))
               refine hK _ ?_; rfl))
      case hD => rfl
      simp only [Act.put, sia, scs, scz]))
 try any_goals exact undef
 refine Bny.E_nil ?_
 intro w9 hE9
 replace hv : Mem w w9 ([(b_13, #[.int .i64 120, .int .i64 4, .int .u16 1, .int .u16 1]), (b_9, #[.int .i64 0, .int .i64 4, .slice fa2 0 fc2, .int .u16 rav2, .int .u16 rla2, .slice ca2 4 cc2, .int .i64 120, .int .i64 4, .slice tfa tfn tfc, .int .u16 tav, .int .u16 tla, .slice tca tcn tcc, .int .i64 300, .int .i64 i0, .int .i64 i1, .int .i64 i2, .int .i64 i3, .int .i64 o0, .int .i64 o1, .int .i64 o2, .int .i64 o3]), (b_8, #[.slice (some ⟨vb2, 0, none⟩) 1900 vc2]), (b_4, #[.int .i64 0, .int .i64 4, .int .u16 1, .int .u16 1]), (b_2, #[.int .i64 0, .int .i64 4, .slice fa2 0 fc2, .int .u16 rav2, .int .u16 rla2, .slice ca2 4 cc2, .int .i64 120, .int .i64 4, .slice fa3 nf3 fc3, .int .u16 tav3, .int .u16 tla, .slice ca3 nc3 cc3, .int .i64 300, .int .i64 i0, .int .i64 i1, .int .i64 i2, .int .i64 i3, .int .i64 p0, .int .i64 p1, .int .i64 p2, .int .i64 p3]), (b_1, #[.slice (some ⟨vb4, 0, none⟩) 1900 vc4])] ++ []) R5 := hE9.mem1 [8, 1000, 1001, 1002, 1003, 1004] (by decide) 2 rfl
 clear hE9
 simp only [List.cons_append, List.nil_append] at hv
 go_wp2_with (first
   | ((with_reducible refine at_load (T := 26) ?_); refine wl_ldv rfl b_1 rfl _ hv.vars.ro 1 _ Tryz.underlying26 rfl infoM (by decide) rfl ?_)
   | ((with_reducible refine at_load (T := 33) ?_); refine wl_ldv rfl b_2 rfl _ hv.vars.ro 21 _ Tryz.underlying33 rfl infoN (by decide) rfl ?_)
   | (go_at_call 15; (with_reducible refine (Reap_H hv HD4.out).mono ?_); rintro e w1 ⟨tla5, nf5, fc5, nc5, cc5, fa5, ca5, R6, rfl, hv1, hd1, hs1⟩; replace hv := hv1; have HD5 := Lib.hid hd1; have HG6 := Lib.hid (hs1 _ HG4.out); have HG7 := Lib.hid (hs1 _ HG5.out); have HD6 := Lib.hid (HD4.out.mono hs1); clear hv1 hd1 hs1)
   | ((with_reducible refine at_alloc (T := 33) (dst := some 16) ?_); refine wl_newb rfl #[.int .i64 0, .int .i64 0, .slice none 0 0, .int .u16 0, .int .u16 0, .slice none 0 0, .int .i64 0, .int .i64 0, .slice none 0 0, .int .u16 0, .int .u16 0, .slice none 0 0, .int .i64 0, .int .i64 0, .int .i64 0, .int .i64 0, .int .i64 0, .int .i64 0, .int .i64 0, .int .i64 0, .int .i64 0] 33 (fun _ => rfl) ?_; intro b_16 w2 hm2; replace hv := hv.madeAt hm2; clear hm2)
   | ((with_reducible refine at_store (T := 33) ?_); refine wl_stv rfl b_16 rfl _ rfl _ hv.vars.ro hv.vars.so 21 infoN rfl rfl (by simp [Value.oneCell']) ?_; intro w2 hw2; replace hv := hv.sets (by repeat first | exact .z | apply SetM.s) hw2; clear hw2)
   | ((with_reducible refine at_load (T := 33) ?_); refine wl_ldv rfl b_16 rfl _ hv.vars.ro 21 _ Tryz.underlying33 rfl infoN (by decide) rfl ?_)
   | (go_at_call 15; (with_reducible refine (Reap_none_H hv HD5.out).mono ?_); rintro e w1 ⟨rfl, hv1⟩; replace hv := hv1; clear hv1)
   | ((with_reducible refine at_alloc (T := 33) (dst := some 18) ?_); refine wl_newb rfl #[.int .i64 0, .int .i64 0, .slice none 0 0, .int .u16 0, .int .u16 0, .slice none 0 0, .int .i64 0, .int .i64 0, .slice none 0 0, .int .u16 0, .int .u16 0, .slice none 0 0, .int .i64 0, .int .i64 0, .int .i64 0, .int .i64 0, .int .i64 0, .int .i64 0, .int .i64 0, .int .i64 0, .int .i64 0] 33 (fun _ => rfl) ?_; intro b_18 w2 hm2; replace hv := hv.madeAt hm2; clear hm2)
   | ((with_reducible refine at_store (T := 33) ?_); refine wl_stv rfl b_18 rfl _ rfl _ hv.vars.ro hv.vars.so 21 infoN rfl rfl (by simp [Value.oneCell']) ?_; intro w2 hw2; replace hv := hv.sets (by repeat first | exact .z | apply SetM.s) hw2; clear hw2)
   | (go_at_call 13; (with_reducible refine (Send_nil_H hv HD6.out).mono ?_); rintro e w1 ⟨rfl, hv1⟩; replace hv := hv1; clear hv1)
   | ((with_reducible refine at_alloc (T := 26) (dst := some 20) ?_); refine wl_newb rfl #[.slice none 0 0] 26 (fun _ => rfl) ?_; intro b_20 w2 hm2; replace hv := hv.madeAt hm2; clear hm2)
   | ((with_reducible refine at_alloc (T := 33) (dst := some 21) ?_); refine wl_newb rfl #[.int .i64 0, .int .i64 0, .slice none 0 0, .int .u16 0, .int .u16 0, .slice none 0 0, .int .i64 0, .int .i64 0, .slice none 0 0, .int .u16 0, .int .u16 0, .slice none 0 0, .int .i64 0, .int .i64 0, .int .i64 0, .int .i64 0, .int .i64 0, .int .i64 0, .int .i64 0, .int .i64 0, .int .i64 0] 33 (fun _ => rfl) ?_; intro b_21 w2 hm2; replace hv := hv.madeAt hm2; clear hm2)
   | ((with_reducible refine at_store (T := 26) ?_); refine wl_stv rfl b_20 rfl _ rfl _ hv.vars.ro hv.vars.so 1 infoM rfl rfl (by simp [Value.oneCell']) ?_; intro w2 hw2; replace hv := hv.sets (by repeat first | exact .z | apply SetM.s) hw2; clear hw2)
   | ((with_reducible refine at_store (T := 33) ?_); refine wl_stv rfl b_21 rfl _ rfl _ hv.vars.ro hv.vars.so 21 infoN rfl rfl (by simp [Value.oneCell']) ?_; intro w2 hw2; replace hv := hv.sets (by repeat first | exact .z | apply SetM.s) hw2; clear hw2)
   | ((with_reducible refine at_load (T := 27) ?_); refine wl_ldc rfl b_4 3 rfl _ hv.vars.ro _ Tryz.underlying27 rfl (.int .u16 1) rfl ?_)
   | ((with_reducible refine at_load (T := 27) ?_); refine wl_ldc rfl b_13 3 rfl _ hv.vars.ro _ Tryz.underlying27 rfl (.int .u16 1) rfl ?_)
   | (go_at_call 16; have hv1 := hv.bsl' (k := 1) (n := 3) (c := cellsB [1, 2, 3]) ⟨rfl, made_alloc _ #[.int .u8 1, .int .u8 2, .int .u8 3] 5⟩ rfl rfl (by unfold maxLen; omega); replace hv := hv1; clear hv1; (with_reducible refine (kB _ _ _ _ (hv.rd (Mem.s HG7.out)) (hv.rd Mem.z) G3.out).mono ?_); rintro e w1 ⟨rfl, hn1⟩; replace hv := hv.new hn1; clear hn1)
   | (go_at_call 16; have hv1 := hv.bsl' (k := 1) (n := 1) (c := cellsB [4]) ⟨rfl, made_alloc _ #[.int .u8 4] 5⟩ rfl rfl (by unfold maxLen; omega); replace hv := hv1; clear hv1; (with_reducible refine (kB _ _ _ _ (hv.rd (Mem.s (Mem.s HG6.out))) (hv.rd Mem.z) G4.out).mono ?_); rintro e w1 ⟨rfl, hn1⟩; replace hv := hv.new hn1; clear hn1)
   | (go_at_call 12; (with_reducible refine (Check_H hv (HD5.out.mono fun x hx => Mem.s (Mem.s hx))).mono ?_); rintro e w1 ⟨rfl, hn1⟩; replace hv := hv.new hn1; clear hn1)
   | ((with_reducible refine at_load (T := 31) ?_); refine wl_ldp rfl b_16 17 rfl _ (hv.vars.ro (b := b_16)) 4 _ Tryz.underlying31 rfl infoA4 (by decide) (by show 17 + 4 ≤ 21; decide) #[.int .i64 0, .int .i64 0, .int .i64 0, .int .i64 0] rfl ?_)
   | ((with_reducible refine at_build (T := 31) ?_); refine wl_build rfl _ rfl built_za4 ?_))
 go_ret
 exact ⟨rfl, hv.below⟩
end Go.Proofs.YtjmibgomkgkhnaaGreat
end

section
/-
 The walk of the law VnetDrops.
-/
namespace Go
section
variable {P : Program} {ops : Array Oper} {β : Bny.Base} {S : Nat → Any.Stat} {D : Nat → Bny.Kind} {Q : Act → Bny.Env → Prop} {k : Nat} {rest : List Oper} {a : Act} {E : Bny.Env}
variable {dst : Option Tmp} {ty T : TypeId} {pos : String} {after : Array Edge} {g : Option (Nat × Bool)} {x y : Operand}
theorem Bny.at_emks (h : Bny.wpE P ops β S D Q k (⟨dst, .makeSlice T x y, ty, pos, after, g⟩ :: rest) a E) : Bny.wpE P ops β S D Q k (⟨dst, .makeSlice T x y, ty, pos, after, g⟩ :: rest) a E := h
end
end Go
namespace Go.Proofs.YtjmibgomkgkhnaaGreat
open Go.Proofs.Qu Go.Proofs.Nm Go.RowKit Go.Proofs
theorem run_emkz {a : Act} {dst : Option Tmp} {ty : TypeId} {pos : String} {after : Array Edge} {g : Option (Nat × Bool)} {x y : Operand} (n : Nat) (hx : a.eval x = .int .i64 n) (hy : a.eval y = .int .i64 n) (hn : n ≤ 100000) (w : World) :
   (execOp a.eval (⟨dst, .makeSlice 24 x y, ty, pos, after, g⟩ : Oper)).run Tryz.prog w = .ok (.value (.slice (some ⟨w.heap.size, 0, none⟩) n n)) (w.alloc (.cells (zerosR n) 5)) := by
 have h := run_mkz w n hn
 simp [execOp, hx, hy, h, Result.andThen]
def ZD (n : Nat) : Nat → List Nat := fun _ => List.replicate n 0
def BringD (R : List (Nat × Value × List Value)) (i n rav rla rfc rcc tav tla tfn tfc tcn tcc i0 i1 i2 i3 o0 o1 o2 o3 : Nat) (rfa rca tfa tca : Option Addr) (v : Value) (R' : List (Nat × Value × List Value)) : Prop :=
 ∃ vb1 vc1 : Nat, v = .tuple #[.agg #[.slice (some ⟨vb1, 0, none⟩) 1900 vc1], .agg #[.int .i64 0, .int .i64 4, .int .u16 ((i + 1 : Nat) : Int), .int .u16 ((i + 1 : Nat) : Int)], .int .i64 0] ∧ DrS R' vb1 vc1 rav rla rfc rcc tav tla tfn tfc tcn tcc i0 i1 i2 i3 o0 o1 o2 o3 rfa rca tfa tca i 0 0 1 0 0 0 (ZD n) (ZD 1) ∧ ∀ x ∈ R, x ∈ R'
theorem Bring_D {w0 w : World} {L : List (Nat × Array Value)} {R R0 : List (Nat × Value × List Value)} (hv : Mem w0 w L R) (hR : ∀ x ∈ R0, x ∈ R) {vb vc rav rla rfc rcc tav tla tfn tfc tcn tcc i0 i1 i2 i3 o0 o1 o2 o3 : Nat} {rfa rca tfa tca : Option Addr} {i n dc : Nat} {da : Option Addr} (h : DrS R0 vb vc rav rla rfc rcc tav tla tfn tfc tcn tcc i0 i1 i2 i3 o0 o1 o2 o3 rfa rca tfa tca i 0 0 0 0 0 0 (ZD n) (ZD 1)) (hdr : (1, .slice da n dc, cellsB (List.replicate n 0)) ∈ R) (hn : n ≤ 192) :
   Calls Tryz.prog 10 #[.agg #[.slice (some ⟨vb, 0, none⟩) 1900 vc], .agg #[.int .i64 0, .int .i64 4, .int .u16 i, .int .u16 i], .slice da n dc] w fun e w' => ∃ v R', e = .returned v ∧ BringD R0 i n rav rla rfc rcc tav tla tfn tfc tcn tcc i0 i1 i2 i3 o0 o1 o2 o3 rfa rca tfa tca v R' ∧ Mem w0 w' L R' ∧ ∀ x ∈ R, x ∈ R' := by
 refine (Bring_L (sn := i) hv (h.mono hR) rfl (by decide) hdr (zeros_good n) hn).mono ?_
 rintro e w' ⟨vb5, vc5, sn5, R5, rfl, hv1, hd1, hsn, hs1⟩
 obtain rfl : sn5 = i + 1 := hsn
 exact ⟨_, R5, rfl, ⟨vb5, vc5, rfl, hd1, fun x hx => hs1 x (hR x hx)⟩, hv1, hs1⟩
def BringX (R : List (Nat × Value × List Value)) (i vb vc : Nat) (v : Value) (R' : List (Nat × Value × List Value)) : Prop :=
 v = .tuple #[.agg #[.slice (some ⟨vb, 0, none⟩) 1900 vc], .agg #[.int .i64 0, .int .i64 4, .int .u16 ((i + 1 : Nat) : Int), .int .u16 i], .int .i64 70] ∧ ∀ x ∈ R, x ∈ R'
theorem Bring_X {w0 w : World} {L : List (Nat × Array Value)} {R R0 : List (Nat × Value × List Value)} (hv : Mem w0 w L R) (hR : ∀ x ∈ R0, x ∈ R) {vb vc rav rla rfc rcc tav tla tfn tfc tcn tcc i0 i1 i2 i3 o0 o1 o2 o3 : Nat} {rfa rca tfa tca : Option Addr} {i n dc : Nat} {da : Option Addr} (h : DrS R0 vb vc rav rla rfc rcc tav tla tfn tfc tcn tcc i0 i1 i2 i3 o0 o1 o2 o3 rfa rca tfa tca i 0 0 0 0 0 0 (ZD n) (ZD 1)) (hn : 192 < n) :
   Calls Tryz.prog 10 #[.agg #[.slice (some ⟨vb, 0, none⟩) 1900 vc], .agg #[.int .i64 0, .int .i64 4, .int .u16 i, .int .u16 i], .slice da n dc] w fun e w' => ∃ v R', e = .returned v ∧ BringX R0 i vb vc v R' ∧ Mem w0 w' L R' ∧ ∀ x ∈ R, x ∈ R' := by
 refine (Bring_long_L (sn := i) hv (h.mono hR) rfl (by decide) hn).mono ?_
 rintro e w' ⟨R3, rfl, hv1, hs1⟩
 exact ⟨_, R3, rfl, ⟨rfl, fun x hx => hs1 x (hR x hx)⟩, hv1, hs1⟩
theorem Drops_c1 (la : Option Addr) (ln lc : Nat) (xs : List Int) (w : World) (R : List (Nat × Value × List Value)) (hv : Mem w w [] R) (hl : (1, .slice la ln lc, xs.map (Value.int .i64)) ∈ R) (h0 : 30 < ln) : Calls Tryz.prog 3 #[.slice la ln lc] w (fun e w' => e = .returned (.bool true) ∧ New w w') := by
 have y0 : decide ((30 : Int) < (ln : Int)) = true := decide_eq_true (by omega)
 have z0 : decide (30 < ln) = true := decide_eq_true h0
 clear hl h0
 go_enter Tryz.func3, Tryz.ntmps3
 try simp only [List.append_eq, List.cons_append, List.nil_append]
 go_wp2_with (first
   | (go_at_call 7; (with_reducible refine (heads10 _).mono ?_); rintro e w1 ⟨rfl, hn1⟩; replace hv := hv.new hn1; clear hn1))
 go_ret
 exact ⟨rfl, hv.below⟩
theorem Drops_yes (la : Option Addr) (ln lc : Nat) (xs : List Int) (w : World) (R : List (Nat × Value × List Value)) (hv : Mem w w [] R) (hl : (1, .slice la ln lc, xs.map (Value.int .i64)) ∈ R) (h0 : ¬ 30 < ln) : Calls Tryz.prog 3 #[.slice la ln lc] w (fun e w' => e = .returned (.bool true) ∧ New w w') := by
 have hln : xs.length = ln := by
   obtain ⟨_, _, _, e, g, _⟩ := hv.rd hl
   cases e
   simpa using g
 have HL := Lib.hid hl
 have HLN := Lib.hid hln
 have HL30 : Hid (ln ≤ 30) := Lib.hid (by omega)
 have y0 : decide ((30 : Int) < (ln : Int)) = false := decide_eq_false (by omega)
 have z0 : decide (30 < ln) = false := decide_eq_false h0
 clear hl h0 hln
 go_enter Tryz.func3, Tryz.ntmps3
 try simp only [List.append_eq, List.cons_append, List.nil_append]
 go_wp2_with (first
   | ((with_reducible refine at_mkslice (T := 24) ?_); refine wl_mkz rfl 1900 rfl rfl (by decide) ?_; intro b_21 w2 hm2; have hv1 := Mem.yield (L1 := []) (hv.madeAt hm2) (zeros_row b_21 1900 (by decide)); simp only [List.nil_append] at hv1; replace hv := hv1; clear hv1 hm2; have HMZ : Hid (InM ((1, .slice (some ⟨b_21, 0, none⟩) 1900 1900, cellsB (List.replicate 1900 0)) :: R) b_21 0 1900 1900 NM0) := Lib.hid ⟨Mem.z, List.length_replicate, by decide, by decide, zeros_good 1900⟩)
   | ((with_reducible refine at_build (T := 26) ?_); refine wl_build rfl _ rfl (built_mem _ _ _) ?_)
   | (go_at_call 8; (with_reducible refine (New_L hv HMZ.out).mono ?_); rintro e w1 ⟨v, R1, rfl, ⟨vb, vc, rav, rla, rfc, rcc, tav, tla, tfn, tfc, tcn, tcc, i0, i1, i2, i3, o0, o1, o2, o3, rfa, rca, tfa, tca, rfl, hd1, hs1⟩, hv1⟩; replace hv := hv1; have HD := Lib.hid (hd1 (ZD 1) (ZD 1)); have HSB : Hid (∀ x ∈ R, x ∈ R1) := Lib.hid (fun x hx => hs1 x (Mem.s hx)); clear hv1 hd1 hs1)
   | ((with_reducible refine at_alloc (T := 26) (dst := some 3) ?_); refine wl_newb rfl #[.slice none 0 0] 26 (fun _ => rfl) ?_; intro b_3 w2 hm2; replace hv := hv.madeAt hm2; clear hm2)
   | ((with_reducible refine at_alloc (T := 33) (dst := some 4) ?_); refine wl_newb rfl #[.int .i64 0, .int .i64 0, .slice none 0 0, .int .u16 0, .int .u16 0, .slice none 0 0, .int .i64 0, .int .i64 0, .slice none 0 0, .int .u16 0, .int .u16 0, .slice none 0 0, .int .i64 0, .int .i64 0, .int .i64 0, .int .i64 0, .int .i64 0, .int .i64 0, .int .i64 0, .int .i64 0, .int .i64 0] 33 (fun _ => rfl) ?_; intro b_4 w2 hm2; replace hv := hv.madeAt hm2; clear hm2)
   | ((with_reducible refine at_store (T := 26) ?_); refine wl_stv rfl b_3 rfl _ rfl _ hv.vars.ro hv.vars.so 1 infoM rfl rfl (by simp [Value.oneCell']) ?_; intro w2 hw2; replace hv := hv.sets (by repeat first | exact .z | apply SetM.s) hw2; clear hw2)
   | ((with_reducible refine at_store (T := 33) ?_); refine wl_stv rfl b_4 rfl _ rfl _ hv.vars.ro hv.vars.so 21 infoN rfl rfl (by simp [Value.oneCell']) ?_; intro w2 hw2; replace hv := hv.sets (by repeat first | exact .z | apply SetM.s) hw2; clear hw2)
   | (go_at_call 9; (with_reducible refine (RServe4_0 _).mono ?_); rintro e w1 ⟨rfl, hn1⟩; replace hv := hv.new hn1; clear hn1)
   | ((with_reducible refine at_alloc (T := 38) (dst := some 6) ?_); refine wl_newb rfl #[.int .i64 0, .int .i64 0, .int .u16 0, .int .u16 0] 38 (fun _ => rfl) ?_; intro b_6 w2 hm2; replace hv := hv.madeAt hm2; clear hm2)
   | ((with_reducible refine at_store (T := 38) ?_); refine wl_stv rfl b_6 rfl _ rfl _ hv.vars.ro hv.vars.so 4 infoS4 rfl rfl (by simp [Value.oneCell']) ?_; intro w2 hw2; replace hv := hv.sets (by repeat first | exact .z | apply SetM.s) hw2; clear hw2))
 go_loopw [7] (fun iv wr => ∃ (i vb vc rav rla rfc rcc tav tla tfn tfc tcn tcc i0 i1 i2 i3 o0 o1 o2 o3 : Nat) (rfa rca tfa tca : Option Addr) (R1 : List (Nat × Value × List Value)), i ≤ ln ∧ iv = .int .i64 i ∧ Mem w wr [(b_6, #[.int .i64 0, .int .i64 4, .int .u16 i, .int .u16 i]), (b_4, #[.int .i64 0, .int .i64 4, .slice rfa 0 rfc, .int .u16 rav, .int .u16 rla, .slice rca 4 rcc, .int .i64 120, .int .i64 4, .slice tfa tfn tfc, .int .u16 tav, .int .u16 tla, .slice tca tcn tcc, .int .i64 300, .int .i64 i0, .int .i64 i1, .int .i64 i2, .int .i64 i3, .int .i64 o0, .int .i64 o1, .int .i64 o2, .int .i64 o3]), (b_3, #[.slice (some ⟨vb, 0, none⟩) 1900 vc])] R1 ∧ Hid (DrS R1 vb vc rav rla rfc rcc tav tla tfn tfc tcn tcc i0 i1 i2 i3 o0 o1 o2 o3 rfa rca tfa tca i 0 0 0 0 0 0 (ZD 1) (ZD 1)) ∧ Hid (∀ x ∈ R, x ∈ R1)) (fun iv _ => 100 - (intOf iv).toNat)
 case atStart => exact ⟨0, vb, vc, rav, rla, rfc, rcc, tav, tla, tfn, tfc, tcn, tcc, i0, i1, i2, i3, o0, o1, o2, o3, rfa, rca, tfa, tca, R1, Nat.zero_le _, rfl, hv, HD, HSB⟩
 case round =>
   clear hv HD HSB HMZ
   obtain ⟨i, vb, vc, rav, rla, rfc, rcc, tav, tla, tfn, tfc, tcn, tcc, i0, i1, i2, i3, o0, o1, o2, o3, rfa, rca, tfa, tca, R1, hi0, rfl, hv, HD, HSB⟩ := hrel
   by_cases hi : i < ln
   · have y9 : decide ((i : Int) < (ln : Int)) = true := decide_eq_true (by omega)
     have z9 : decide (i < ln) = true := decide_eq_true hi
     have hl30 := HL30.out
     have hil : i < xs.length := by rw [HLN.out]; exact hi
     obtain ⟨x, hx⟩ : ∃ x, xs[i] = x := ⟨_, rfl⟩
     have HX : Hid ((xs.map (Value.int .i64))[i]? = some (.int .i64 x)) := Lib.hid (by rw [List.getElem?_map, List.getElem?_eq_getElem hil, hx]; rfl)
     obtain ⟨n, hn, he⟩ := and_rng2 x 255 255 rfl (by decide)
     have hlr := HSB.out _ HL.out
     obtain ⟨lb, lo, _, _, e, hq⟩ := (hv.rd hlr).some (by rw [List.length_map]; omega)
     clear hq
     cases e
     have HLR := Lib.hid hlr
     have hki : (i : Int) ≤ 30 := by omega
     have hkl : (i : Int) < (ln : Int) := by omega
     have HIN := Lib.hid hi
     have HN1 : Hid (n ≤ 100000) := Lib.hid (by omega)
     have HNM : Hid (n ≤ maxLen) := Lib.hid (by unfold maxLen; omega)
     have HZ : Hid ((zerosR n).size = n * 1) := Lib.hid (by rw [Nat.mul_one]; exact zerosR_size n)
     have HRZ := zerosR_list n
     have HDN := Lib.hid (DrS.rx_any (ZD n) HD.out)
     have HKN : Hid (∀ (B3 : Nat) {E : Bny.Env} (ks : List Nat), 3 ∈ ks → E 3 = .rds [(1, .slice (some ⟨B3, 0, none⟩) n n, (zerosR n).toList)] → ∀ x ∈ (1, Value.slice (some ⟨B3, 0, none⟩) n n, (zerosR n).toList) :: R1, Bny.Known ⟨w, [], R1⟩ E ks x) := Lib.hid (fun B3 E ks h1 h2 x hx => by
       rcases List.mem_cons.1 hx with rfl | hx
       · exact .inr ⟨3, h1, by rw [h2]; exact List.mem_singleton_self _⟩
       · exact .inl hx)
     have HLN2 : Hid ((ZD n 0).length = n) := Lib.hid (by unfold ZD; exact List.length_replicate)
     have hn0 : (0 : Int) ≤ (n : Int) := by omega
     by_cases h19 : n ≤ 192
     · have HN19 := Lib.hid h19
       have y8 : decide ((n : Int) ≤ 192) = true := decide_eq_true (by omega)
       have z8 : decide (n ≤ 192) = true := decide_eq_true h19
       by_cases hok : 1 ≤ n ∧ n ≤ 180
       · have y7 : decide ((1 : Int) ≤ (n : Int)) = true := decide_eq_true (by omega)
         have z7 : decide (1 ≤ n) = true := decide_eq_true hok.1
         have y6 : decide ((n : Int) ≤ 180) = true := decide_eq_true (by omega)
         have z6 : decide (n ≤ 180) = true := decide_eq_true hok.2
         have y5 : ((n : Int) != (n : Int)) = false := by simp
         have HG1 := Lib.hid hok.1
         have HG2 := Lib.hid hok.2
         have HRZ' := Lib.hid HRZ
         clear HRZ
         clear hi hi0 hl30 hil hx hlr h19 hok hn
         go_wp2_with (first
           | ((with_reducible refine at_load (T := 3) ?_); refine wl_rd rfl (c := xs.map (Value.int .i64)) (hv.rd HLR.out) i rfl _ Tryz.underlying3 rfl (.int .i64 x) HX.out ?_))
         have HSO : Hid (∃ v R', BringD R1 i n rav rla rfc rcc tav tla tfn tfc tcn tcc i0 i1 i2 i3 o0 o1 o2 o3 rfa rca tfa tca v R') := Lib.hid (Bny.some_of (Bring_D (hv.bsl' (k := 1) (n := n) (c := (zerosR n).toList) ⟨rfl, made_alloc _ (zerosR n) 5⟩ rfl HZ.out HNM.out) (fun x hx => Mem.s hx) HDN.out (by rw [HRZ'.out]; exact Mem.z) HN19.out))
         have HRZ := HRZ'.out
         replace hv : Mem w _ ([(b_6, _), (b_4, _), (b_3, _)] ++ []) R1 := hv
         try simp only [Act.put]
         refine Bny.wp_region_walk _ _ [⟨[1002], none⟩, ⟨[1000], none⟩, ⟨[], none⟩, ⟨[], some 3⟩, ⟨[3], some 4⟩, ⟨[], none⟩, ⟨[], none⟩, ⟨[], none⟩, ⟨[], none⟩, ⟨[], some 9⟩, ⟨[], some 10⟩, ⟨[9], some 9⟩, ⟨[10], some 10⟩, ⟨[], none⟩] [.val, .val, .val, .bslR 1 n (zerosR n), .mem (BringD R1 i n rav rla rfc rcc tav tla tfn tfc tcn tcc i0 i1 i2 i3 o0 o1 o2 o3 rfa rca tfa tca), .pure, .pure, .pure, .pure, .lay #[.slice none 0 0], .lay #[.int .i64 0, .int .i64 0, .int .u16 0, .int .u16 0], .put, .put, .pure] (by kernel_rfl) (by kernel_rfl) hv ?_
         simp only [List.length_cons, List.length_nil, Nat.zero_add, Any.someVals]
         iterate 14 apply Exists.intro
         repeat (first
           | (refine Bny.E_off rfl ?_; simp only [Act.put, sia, scs, scz])
           | ((with_reducible refine Bny.at_ealloc ?_); refine Bny.E_lay (t := 26) rfl rfl rfl (fun _ => rfl) ?_; intro b_9; simp only [Act.put, sia, scs, scz])
           | ((with_reducible refine Bny.at_ealloc ?_); refine Bny.E_lay (t := 38) rfl rfl rfl (fun _ => rfl) ?_; intro b_10; simp only [Act.put, sia, scs, scz])
           | ((with_reducible refine Bny.at_estore (T := 26) ?_); refine Bny.E_putv (T := 26) rfl rfl rfl rfl rfl rfl 1 infoM rfl rfl (by simp [Value.oneCell']) ?_; simp only [Act.put, sia, scs, scz])
           | ((with_reducible refine Bny.at_estore (T := 38) ?_); refine Bny.E_putv (T := 38) rfl rfl rfl rfl rfl rfl 4 infoS4 rfl rfl (by simp [Value.oneCell']) ?_; simp only [Act.put, sia, scs, scz])
           | ((with_reducible refine Bny.at_ecallf (f := 10) ?_); refine Bny.E_callmem rfl rfl rfl (Go.Proofs.enters_of Tryz.func10 (by kernel_rfl) rfl) rfl [.agg #[.slice (some ⟨vb, 0, none⟩) 1900 vc], .agg #[.int .i64 0, .int .i64 4, .int .u16 i, .int .u16 i], .slice (some ⟨B3, 0, none⟩) n n] rfl HSO.out ((1, .slice (some ⟨B3, 0, none⟩) n n, (zerosR n).toList) :: R1) (HKN.out B3 _ (by decide) rfl) (fun w0 w L R' hm hs => Bring_D hm (fun x hx => hs x (List.mem_cons_of_mem _ hx)) HDN.out (HRZ ▸ hs _ (List.mem_cons_self ..)) HN19.out) ?_; rintro v R2 ⟨vb1, vc1, rfl, hd1, hs1⟩; have HD1 := Lib.hid hd1; have HS1 := Lib.hid hs1; clear hd1 hs1; simp only [Act.put, sia, scs, scz])
           | ((with_reducible refine Bny.at_emks ?_); refine Bny.E_bslR (n := n) (kk := 1) (z := zerosR n) (t := 5) rfl rfl rfl (fun w' => run_emkz n rfl rfl HN1.out w') HZ.out HNM.out ?_; intro B3; simp only [Act.put, sia, scs, scz])
           | (apply Bny.E_pureq rfl rfl rfl
              case h => intro K hK; go_big_quiet_op; (refine hK _ ?_; rfl)
              case hr => exact fun _ => rfl
              simp only [Act.put, sia, scs, scz])
           | (apply Bny.E_val rfl rfl rfl rfl
              case h =>
                intro E' hA K hK
                first
                  | ((with_reducible refine Bny.at_qload (T := 26) ?_); refine Bny.q_ldv 1002 hA (by decide) rfl rfl 1 _ Tryz.underlying26 rfl infoM (by decide) rfl ?_; refine hK _ ?_; rfl)
                  | ((with_reducible refine Bny.at_qload (T := 38) ?_); refine Bny.q_ldv 1000 hA (by decide) rfl rfl 4 _ Tryz.underlying38 rfl infoS4 (by decide) rfl ?_; refine hK _ ?_; rfl)
                  | (go_big_quiet_op; first
                    | (refine hK _ ?_; rfl)
                    | (refine ⟨_, fun _ _ => rfl, ?_⟩; refine hK _ ?_; rfl)
                    | (apply Exists.intro; refine ⟨fun w1 hw1 => ?_, ?_⟩; · (first
                        | fail)
                       refine hK _ ?_; rfl))
              case hD => rfl
              simp only [Act.put, sia, scs, scz]))
         try any_goals exact undef
         refine Bny.E_nil ?_
         intro w9 hE9
         replace hv : Mem w w9 ([(b_9, #[.slice (some ⟨vb1, 0, none⟩) 1900 vc1]), (b_10, #[.int .i64 0, .int .i64 4, .int .u16 ((i + 1 : Nat) : Int), .int .u16 ((i + 1 : Nat) : Int)]), (b_6, #[.int .i64 0, .int .i64 4, .int .u16 i, .int .u16 i]), (b_4, #[.int .i64 0, .int .i64 4, .slice rfa 0 rfc, .int .u16 rav, .int .u16 rla, .slice rca 4 rcc, .int .i64 120, .int .i64 4, .slice tfa tfn tfc, .int .u16 tav, .int .u16 tla, .slice tca tcn tcc, .int .i64 300, .int .i64 i0, .int .i64 i1, .int .i64 i2, .int .i64 i3, .int .i64 o0, .int .i64 o1, .int .i64 o2, .int .i64 o3]), (b_3, #[.slice (some ⟨vb, 0, none⟩) 1900 vc])] ++ []) R2 := hE9.mem1 [9, 10, 1000, 1001, 1002] (by decide) 4 rfl
         clear hE9
         simp only [List.cons_append, List.nil_append] at hv
         clear HRZ
         go_wp2_with (first
           | ((with_reducible refine at_load (T := 26) ?_); refine wl_ldv rfl b_9 rfl _ hv.vars.ro 1 _ Tryz.underlying26 rfl infoM (by decide) rfl ?_)
           | ((with_reducible refine at_load (T := 33) ?_); refine wl_ldv rfl b_4 rfl _ hv.vars.ro 21 _ Tryz.underlying33 rfl infoN (by decide) rfl ?_)
           | (go_at_call 11; (with_reducible refine (Take_yes_L (n := n) hv HD1.out (by decide) (by decide) HLN2.out HG1.out HG2.out).mono ?_); rintro e w1 ⟨vb2, vc2, rav2, rla2, fc2, cc2, fa2, ca2, R3, gb, gc, rfl, hv1, hd1, hg1, hs1⟩; replace hv := hv1; have HD2 := Lib.hid hd1; have HS2 := Lib.hid hs1; clear hv1 hd1 hg1 hs1)
           | ((with_reducible refine at_alloc (T := 26) (dst := some 12) ?_); refine wl_newb rfl #[.slice none 0 0] 26 (fun _ => rfl) ?_; intro b_12 w2 hm2; replace hv := hv.madeAt hm2; clear hm2)
           | ((with_reducible refine at_alloc (T := 33) (dst := some 13) ?_); refine wl_newb rfl #[.int .i64 0, .int .i64 0, .slice none 0 0, .int .u16 0, .int .u16 0, .slice none 0 0, .int .i64 0, .int .i64 0, .slice none 0 0, .int .u16 0, .int .u16 0, .slice none 0 0, .int .i64 0, .int .i64 0, .int .i64 0, .int .i64 0, .int .i64 0, .int .i64 0, .int .i64 0, .int .i64 0, .int .i64 0] 33 (fun _ => rfl) ?_; intro b_13 w2 hm2; replace hv := hv.madeAt hm2; clear hm2)
           | ((with_reducible refine at_store (T := 26) ?_); refine wl_stv rfl b_12 rfl _ rfl _ hv.vars.ro hv.vars.so 1 infoM rfl rfl (by simp [Value.oneCell']) ?_; intro w2 hw2; replace hv := hv.sets (by repeat first | exact .z | apply SetM.s) hw2; clear hw2)
           | ((with_reducible refine at_store (T := 33) ?_); refine wl_stv rfl b_13 rfl _ rfl _ hv.vars.ro hv.vars.so 21 infoN rfl rfl (by simp [Value.oneCell']) ?_; intro w2 hw2; replace hv := hv.sets (by repeat first | exact .z | apply SetM.s) hw2; clear hw2)
           | ((with_reducible refine at_load (T := 33) ?_); refine wl_ldv rfl b_13 rfl _ hv.vars.ro 21 _ Tryz.underlying33 rfl infoN (by decide) rfl ?_)
           | (go_at_call 12; (with_reducible refine (Check_L hv HD2.out).mono ?_); rintro e w1 ⟨rfl, hn1⟩; replace hv := hv.new hn1; clear hn1)
           | ((with_reducible refine at_load (T := 28) ?_); refine wl_ldc rfl b_13 5 rfl _ hv.vars.ro _ Tryz.underlying28 rfl (.slice ca2 4 cc2) rfl ?_))
         replace hv : Mem w _ ([(b_13, _), (b_12, _), (b_9, _), (b_10, _), (b_6, _), (b_4, _), (b_3, _)] ++ []) R3 := hv
         try simp only [Act.put]
         refine Bny.wp_region_walk _ _ [⟨[1001], none⟩, ⟨[1000], none⟩, ⟨[1003], none⟩, ⟨[1006], some 1006⟩, ⟨[1005], some 1005⟩, ⟨[1004], some 1004⟩] [.val, .val, .val, .put, .put, .put] (by kernel_rfl) (by kernel_rfl) hv ?_
         simp only [List.length_cons, List.length_nil, Nat.zero_add, Any.someVals]
         iterate 6 apply Exists.intro
         repeat (first
           | (refine Bny.E_off rfl ?_; simp only [Act.put, sia, scs, scz])
           | ((with_reducible refine Bny.at_estore (T := 26) ?_); refine Bny.E_putv (T := 26) rfl rfl rfl rfl rfl rfl 1 infoM rfl rfl (by simp [Value.oneCell']) ?_; simp only [Act.put, sia, scs, scz])
           | ((with_reducible refine Bny.at_estore (T := 33) ?_); refine Bny.E_putv (T := 33) rfl rfl rfl rfl rfl rfl 21 infoN rfl rfl (by simp [Value.oneCell']) ?_; simp only [Act.put, sia, scs, scz])
           | ((with_reducible refine Bny.at_estore (T := 38) ?_); refine Bny.E_putv (T := 38) rfl rfl rfl rfl rfl rfl 4 infoS4 rfl rfl (by simp [Value.oneCell']) ?_; simp only [Act.put, sia, scs, scz])
           | (apply Bny.E_pureq rfl rfl rfl
              case h => intro K hK; go_big_quiet_op; (refine hK _ ?_; rfl)
              case hr => exact fun _ => rfl
              simp only [Act.put, sia, scs, scz])
           | (apply Bny.E_val rfl rfl rfl rfl
              case h =>
                intro E' hA K hK
                first
                  | ((with_reducible refine Bny.at_qload (T := 26) ?_); refine Bny.q_ldv 1001 hA (by decide) rfl rfl 1 _ Tryz.underlying26 rfl infoM (by decide) rfl ?_; refine hK _ ?_; rfl)
                  | ((with_reducible refine Bny.at_qload (T := 33) ?_); refine Bny.q_ldv 1000 hA (by decide) rfl rfl 21 _ Tryz.underlying33 rfl infoN (by decide) rfl ?_; refine hK _ ?_; rfl)
                  | ((with_reducible refine Bny.at_qload (T := 38) ?_); refine Bny.q_ldv 1003 hA (by decide) rfl rfl 4 _ Tryz.underlying38 rfl infoS4 (by decide) rfl ?_; refine hK _ ?_; rfl)
                  | (go_big_quiet_op; first
                    | (refine hK _ ?_; rfl)
                    | (refine ⟨_, fun _ _ => rfl, ?_⟩; refine hK _ ?_; rfl)
                    | (apply Exists.intro; refine ⟨fun w1 hw1 => ?_, ?_⟩; · (first
                        | fail)
                       refine hK _ ?_; rfl))
              case hD => rfl
              simp only [Act.put, sia, scs, scz]))
         try any_goals exact undef
         refine Bny.E_nil ?_
         intro w9 hE9
         replace hv : Mem w w9 ([(b_6, #[.int .i64 0, .int .i64 4, .int .u16 ((i + 1 : Nat) : Int), .int .u16 ((i + 1 : Nat) : Int)]), (b_4, #[.int .i64 0, .int .i64 4, .slice fa2 0 fc2, .int .u16 rav2, .int .u16 rla2, .slice ca2 4 cc2, .int .i64 120, .int .i64 4, .slice tfa tfn tfc, .int .u16 tav, .int .u16 tla, .slice tca tcn tcc, .int .i64 300, .int .i64 i0, .int .i64 i1, .int .i64 i2, .int .i64 i3, .int .i64 o0, .int .i64 o1, .int .i64 o2, .int .i64 o3]), (b_3, #[.slice (some ⟨vb2, 0, none⟩) 1900 vc2])] ++ []) R3 := hE9.mem0 [1004, 1005, 1006] (by decide)
         clear hE9
         simp only [List.cons_append, List.nil_append] at hv
         go_wp2
         have hin := HIN.out
         go_roundw
         case rel => exact ⟨i + 1, vb2, vc2, rav2, rla2, fc2, cc2, tav, tla, tfn, tfc, tcn, tcc, i0, i1, i2, i3, o0, o1, o2, o3, fa2, ca2, tfa, tca, R3, by omega, by go_num, hv, Lib.hid (DrS.rx_next (m := 1) (ZD 1) HD2.out (by have := HL30.out; omega)), Lib.hid (fun x hx => HS2.out x (HS1.out x (HSB.out x hx)))⟩
         case measure => simp [intOf]; omega
       · by_cases hz : n = 0
         · have y7 : decide ((1 : Int) ≤ (n : Int)) = false := decide_eq_false (by omega)
           have z7 : decide (1 ≤ n) = false := decide_eq_false (by omega)
           have HG1 : Hid (n = 0 ∨ 180 < n) := Lib.hid (.inl hz)
           have HRZ' := Lib.hid HRZ
           clear HRZ
           clear hi hi0 hl30 hil hx hlr h19 hok hn hz
           go_wp2_with (first
             | ((with_reducible refine at_load (T := 3) ?_); refine wl_rd rfl (c := xs.map (Value.int .i64)) (hv.rd HLR.out) i rfl _ Tryz.underlying3 rfl (.int .i64 x) HX.out ?_))
           have HSO : Hid (∃ v R', BringD R1 i n rav rla rfc rcc tav tla tfn tfc tcn tcc i0 i1 i2 i3 o0 o1 o2 o3 rfa rca tfa tca v R') := Lib.hid (Bny.some_of (Bring_D (hv.bsl' (k := 1) (n := n) (c := (zerosR n).toList) ⟨rfl, made_alloc _ (zerosR n) 5⟩ rfl HZ.out HNM.out) (fun x hx => Mem.s hx) HDN.out (by rw [HRZ'.out]; exact Mem.z) HN19.out))
           have HRZ := HRZ'.out
           replace hv : Mem w _ ([(b_6, _), (b_4, _), (b_3, _)] ++ []) R1 := hv
           try simp only [Act.put]
           refine Bny.wp_region_walk _ _ [⟨[1002], none⟩, ⟨[1000], none⟩, ⟨[], none⟩, ⟨[], some 3⟩, ⟨[3], some 4⟩, ⟨[], none⟩, ⟨[], none⟩, ⟨[], none⟩, ⟨[], none⟩, ⟨[], some 9⟩, ⟨[], some 10⟩, ⟨[9], some 9⟩, ⟨[10], some 10⟩, ⟨[], none⟩] [.val, .val, .val, .bslR 1 n (zerosR n), .mem (BringD R1 i n rav rla rfc rcc tav tla tfn tfc tcn tcc i0 i1 i2 i3 o0 o1 o2 o3 rfa rca tfa tca), .pure, .pure, .pure, .pure, .lay #[.slice none 0 0], .lay #[.int .i64 0, .int .i64 0, .int .u16 0, .int .u16 0], .put, .put, .pure] (by kernel_rfl) (by kernel_rfl) hv ?_
           simp only [List.length_cons, List.length_nil, Nat.zero_add, Any.someVals]
           iterate 14 apply Exists.intro
           repeat (first
             | (refine Bny.E_off rfl ?_; simp only [Act.put, sia, scs, scz])
             | ((with_reducible refine Bny.at_ealloc ?_); refine Bny.E_lay (t := 26) rfl rfl rfl (fun _ => rfl) ?_; intro b_9; simp only [Act.put, sia, scs, scz])
             | ((with_reducible refine Bny.at_ealloc ?_); refine Bny.E_lay (t := 38) rfl rfl rfl (fun _ => rfl) ?_; intro b_10; simp only [Act.put, sia, scs, scz])
             | ((with_reducible refine Bny.at_estore (T := 26) ?_); refine Bny.E_putv (T := 26) rfl rfl rfl rfl rfl rfl 1 infoM rfl rfl (by simp [Value.oneCell']) ?_; simp only [Act.put, sia, scs, scz])
             | ((with_reducible refine Bny.at_estore (T := 38) ?_); refine Bny.E_putv (T := 38) rfl rfl rfl rfl rfl rfl 4 infoS4 rfl rfl (by simp [Value.oneCell']) ?_; simp only [Act.put, sia, scs, scz])
             | ((with_reducible refine Bny.at_ecallf (f := 10) ?_); refine Bny.E_callmem rfl rfl rfl (Go.Proofs.enters_of Tryz.func10 (by kernel_rfl) rfl) rfl [.agg #[.slice (some ⟨vb, 0, none⟩) 1900 vc], .agg #[.int .i64 0, .int .i64 4, .int .u16 i, .int .u16 i], .slice (some ⟨B3, 0, none⟩) n n] rfl HSO.out ((1, .slice (some ⟨B3, 0, none⟩) n n, (zerosR n).toList) :: R1) (HKN.out B3 _ (by decide) rfl) (fun w0 w L R' hm hs => Bring_D hm (fun x hx => hs x (List.mem_cons_of_mem _ hx)) HDN.out (HRZ ▸ hs _ (List.mem_cons_self ..)) HN19.out) ?_; rintro v R2 ⟨vb1, vc1, rfl, hd1, hs1⟩; have HD1 := Lib.hid hd1; have HS1 := Lib.hid hs1; clear hd1 hs1; simp only [Act.put, sia, scs, scz])
             | ((with_reducible refine Bny.at_emks ?_); refine Bny.E_bslR (n := n) (kk := 1) (z := zerosR n) (t := 5) rfl rfl rfl (fun w' => run_emkz n rfl rfl HN1.out w') HZ.out HNM.out ?_; intro B3; simp only [Act.put, sia, scs, scz])
             | (apply Bny.E_pureq rfl rfl rfl
                case h => intro K hK; go_big_quiet_op; (refine hK _ ?_; rfl)
                case hr => exact fun _ => rfl
                simp only [Act.put, sia, scs, scz])
             | (apply Bny.E_val rfl rfl rfl rfl
                case h =>
                  intro E' hA K hK
                  first
                    | ((with_reducible refine Bny.at_qload (T := 26) ?_); refine Bny.q_ldv 1002 hA (by decide) rfl rfl 1 _ Tryz.underlying26 rfl infoM (by decide) rfl ?_; refine hK _ ?_; rfl)
                    | ((with_reducible refine Bny.at_qload (T := 38) ?_); refine Bny.q_ldv 1000 hA (by decide) rfl rfl 4 _ Tryz.underlying38 rfl infoS4 (by decide) rfl ?_; refine hK _ ?_; rfl)
                    | (go_big_quiet_op; first
                      | (refine hK _ ?_; rfl)
                      | (refine ⟨_, fun _ _ => rfl, ?_⟩; refine hK _ ?_; rfl)
                      | (apply Exists.intro; refine ⟨fun w1 hw1 => ?_, ?_⟩; · (first
                          | fail)
                         refine hK _ ?_; rfl))
                case hD => rfl
                simp only [Act.put, sia, scs, scz]))
           try any_goals exact undef
           refine Bny.E_nil ?_
           intro w9 hE9
           replace hv : Mem w w9 ([(b_9, #[.slice (some ⟨vb1, 0, none⟩) 1900 vc1]), (b_10, #[.int .i64 0, .int .i64 4, .int .u16 ((i + 1 : Nat) : Int), .int .u16 ((i + 1 : Nat) : Int)]), (b_6, #[.int .i64 0, .int .i64 4, .int .u16 i, .int .u16 i]), (b_4, #[.int .i64 0, .int .i64 4, .slice rfa 0 rfc, .int .u16 rav, .int .u16 rla, .slice rca 4 rcc, .int .i64 120, .int .i64 4, .slice tfa tfn tfc, .int .u16 tav, .int .u16 tla, .slice tca tcn tcc, .int .i64 300, .int .i64 i0, .int .i64 i1, .int .i64 i2, .int .i64 i3, .int .i64 o0, .int .i64 o1, .int .i64 o2, .int .i64 o3]), (b_3, #[.slice (some ⟨vb, 0, none⟩) 1900 vc])] ++ []) R2 := hE9.mem1 [9, 10, 1000, 1001, 1002] (by decide) 4 rfl
           clear hE9
           simp only [List.cons_append, List.nil_append] at hv
           clear HRZ
           go_wp2_with (first
             | ((with_reducible refine at_load (T := 26) ?_); refine wl_ldv rfl b_9 rfl _ hv.vars.ro 1 _ Tryz.underlying26 rfl infoM (by decide) rfl ?_)
             | ((with_reducible refine at_load (T := 33) ?_); refine wl_ldv rfl b_4 rfl _ hv.vars.ro 21 _ Tryz.underlying33 rfl infoN (by decide) rfl ?_)
             | (go_at_call 11; (with_reducible refine (Take_drop_L (n := n) hv HD1.out (by decide) (by decide) HLN2.out HG1.out).mono ?_); rintro e w1 ⟨vb2, vc2, rav2, rla2, fc2, cc2, fa2, ca2, R3, rfl, hv1, hd1, hs1⟩; replace hv := hv1; have HD2 := Lib.hid hd1; have HS2 := Lib.hid hs1; clear hv1 hd1 hs1)
             | ((with_reducible refine at_alloc (T := 26) (dst := some 12) ?_); refine wl_newb rfl #[.slice none 0 0] 26 (fun _ => rfl) ?_; intro b_12 w2 hm2; replace hv := hv.madeAt hm2; clear hm2)
             | ((with_reducible refine at_alloc (T := 33) (dst := some 13) ?_); refine wl_newb rfl #[.int .i64 0, .int .i64 0, .slice none 0 0, .int .u16 0, .int .u16 0, .slice none 0 0, .int .i64 0, .int .i64 0, .slice none 0 0, .int .u16 0, .int .u16 0, .slice none 0 0, .int .i64 0, .int .i64 0, .int .i64 0, .int .i64 0, .int .i64 0, .int .i64 0, .int .i64 0, .int .i64 0, .int .i64 0] 33 (fun _ => rfl) ?_; intro b_13 w2 hm2; replace hv := hv.madeAt hm2; clear hm2)
             | ((with_reducible refine at_store (T := 26) ?_); refine wl_stv rfl b_12 rfl _ rfl _ hv.vars.ro hv.vars.so 1 infoM rfl rfl (by simp [Value.oneCell']) ?_; intro w2 hw2; replace hv := hv.sets (by repeat first | exact .z | apply SetM.s) hw2; clear hw2)
             | ((with_reducible refine at_store (T := 33) ?_); refine wl_stv rfl b_13 rfl _ rfl _ hv.vars.ro hv.vars.so 21 infoN rfl rfl (by simp [Value.oneCell']) ?_; intro w2 hw2; replace hv := hv.sets (by repeat first | exact .z | apply SetM.s) hw2; clear hw2)
             | ((with_reducible refine at_load (T := 33) ?_); refine wl_ldv rfl b_13 rfl _ hv.vars.ro 21 _ Tryz.underlying33 rfl infoN (by decide) rfl ?_)
             | (go_at_call 12; (with_reducible refine (Check_L hv HD2.out).mono ?_); rintro e w1 ⟨rfl, hn1⟩; replace hv := hv.new hn1; clear hn1)
             | ((with_reducible refine at_load (T := 28) ?_); refine wl_ldc rfl b_13 5 rfl _ hv.vars.ro _ Tryz.underlying28 rfl (.slice ca2 4 cc2) rfl ?_))
           replace hv : Mem w _ ([(b_13, _), (b_12, _), (b_9, _), (b_10, _), (b_6, _), (b_4, _), (b_3, _)] ++ []) R3 := hv
           try simp only [Act.put]
           refine Bny.wp_region_walk _ _ [⟨[1001], none⟩, ⟨[1000], none⟩, ⟨[1003], none⟩, ⟨[1006], some 1006⟩, ⟨[1005], some 1005⟩, ⟨[1004], some 1004⟩] [.val, .val, .val, .put, .put, .put] (by kernel_rfl) (by kernel_rfl) hv ?_
           simp only [List.length_cons, List.length_nil, Nat.zero_add, Any.someVals]
           iterate 6 apply Exists.intro
           repeat (first
             | (refine Bny.E_off rfl ?_; simp only [Act.put, sia, scs, scz])
             | ((with_reducible refine Bny.at_estore (T := 26) ?_); refine Bny.E_putv (T := 26) rfl rfl rfl rfl rfl rfl 1 infoM rfl rfl (by simp [Value.oneCell']) ?_; simp only [Act.put, sia, scs, scz])
             | ((with_reducible refine Bny.at_estore (T := 33) ?_); refine Bny.E_putv (T := 33) rfl rfl rfl rfl rfl rfl 21 infoN rfl rfl (by simp [Value.oneCell']) ?_; simp only [Act.put, sia, scs, scz])
             | ((with_reducible refine Bny.at_estore (T := 38) ?_); refine Bny.E_putv (T := 38) rfl rfl rfl rfl rfl rfl 4 infoS4 rfl rfl (by simp [Value.oneCell']) ?_; simp only [Act.put, sia, scs, scz])
             | (apply Bny.E_pureq rfl rfl rfl
                case h => intro K hK; go_big_quiet_op; (refine hK _ ?_; rfl)
                case hr => exact fun _ => rfl
                simp only [Act.put, sia, scs, scz])
             | (apply Bny.E_val rfl rfl rfl rfl
                case h =>
                  intro E' hA K hK
                  first
                    | ((with_reducible refine Bny.at_qload (T := 26) ?_); refine Bny.q_ldv 1001 hA (by decide) rfl rfl 1 _ Tryz.underlying26 rfl infoM (by decide) rfl ?_; refine hK _ ?_; rfl)
                    | ((with_reducible refine Bny.at_qload (T := 33) ?_); refine Bny.q_ldv 1000 hA (by decide) rfl rfl 21 _ Tryz.underlying33 rfl infoN (by decide) rfl ?_; refine hK _ ?_; rfl)
                    | ((with_reducible refine Bny.at_qload (T := 38) ?_); refine Bny.q_ldv 1003 hA (by decide) rfl rfl 4 _ Tryz.underlying38 rfl infoS4 (by decide) rfl ?_; refine hK _ ?_; rfl)
                    | (go_big_quiet_op; first
                      | (refine hK _ ?_; rfl)
                      | (refine ⟨_, fun _ _ => rfl, ?_⟩; refine hK _ ?_; rfl)
                      | (apply Exists.intro; refine ⟨fun w1 hw1 => ?_, ?_⟩; · (first
                          | fail)
                         refine hK _ ?_; rfl))
                case hD => rfl
                simp only [Act.put, sia, scs, scz]))
           try any_goals exact undef
           refine Bny.E_nil ?_
           intro w9 hE9
           replace hv : Mem w w9 ([(b_6, #[.int .i64 0, .int .i64 4, .int .u16 ((i + 1 : Nat) : Int), .int .u16 ((i + 1 : Nat) : Int)]), (b_4, #[.int .i64 0, .int .i64 4, .slice fa2 0 fc2, .int .u16 rav2, .int .u16 rla2, .slice ca2 4 cc2, .int .i64 120, .int .i64 4, .slice tfa tfn tfc, .int .u16 tav, .int .u16 tla, .slice tca tcn tcc, .int .i64 300, .int .i64 i0, .int .i64 i1, .int .i64 i2, .int .i64 i3, .int .i64 o0, .int .i64 o1, .int .i64 o2, .int .i64 o3]), (b_3, #[.slice (some ⟨vb2, 0, none⟩) 1900 vc2])] ++ []) R3 := hE9.mem0 [1004, 1005, 1006] (by decide)
           clear hE9
           simp only [List.cons_append, List.nil_append] at hv
           go_wp2
           have hin := HIN.out
           go_roundw
           case rel => exact ⟨i + 1, vb2, vc2, rav2, rla2, fc2, cc2, tav, tla, tfn, tfc, tcn, tcc, i0, i1, i2, i3, o0, o1, o2, o3, fa2, ca2, tfa, tca, R3, by omega, by go_num, hv, Lib.hid (DrS.rx_next (m := 1) (ZD 1) HD2.out (by have := HL30.out; omega)), Lib.hid (fun x hx => HS2.out x (HS1.out x (HSB.out x hx)))⟩
           case measure => simp [intOf]; omega
         · have y7 : decide ((1 : Int) ≤ (n : Int)) = true := decide_eq_true (by omega)
           have z7 : decide (1 ≤ n) = true := decide_eq_true (by omega)
           have y6 : decide ((n : Int) ≤ 180) = false := decide_eq_false (by omega)
           have z6 : decide (n ≤ 180) = false := decide_eq_false (by omega)
           have HG1 : Hid (n = 0 ∨ 180 < n) := Lib.hid (by omega)
           have HRZ' := Lib.hid HRZ
           clear HRZ
           clear hi hi0 hl30 hil hx hlr h19 hok hn hz
           go_wp2_with (first
             | ((with_reducible refine at_load (T := 3) ?_); refine wl_rd rfl (c := xs.map (Value.int .i64)) (hv.rd HLR.out) i rfl _ Tryz.underlying3 rfl (.int .i64 x) HX.out ?_))
           have HSO : Hid (∃ v R', BringD R1 i n rav rla rfc rcc tav tla tfn tfc tcn tcc i0 i1 i2 i3 o0 o1 o2 o3 rfa rca tfa tca v R') := Lib.hid (Bny.some_of (Bring_D (hv.bsl' (k := 1) (n := n) (c := (zerosR n).toList) ⟨rfl, made_alloc _ (zerosR n) 5⟩ rfl HZ.out HNM.out) (fun x hx => Mem.s hx) HDN.out (by rw [HRZ'.out]; exact Mem.z) HN19.out))
           have HRZ := HRZ'.out
           replace hv : Mem w _ ([(b_6, _), (b_4, _), (b_3, _)] ++ []) R1 := hv
           try simp only [Act.put]
           refine Bny.wp_region_walk _ _ [⟨[1002], none⟩, ⟨[1000], none⟩, ⟨[], none⟩, ⟨[], some 3⟩, ⟨[3], some 4⟩, ⟨[], none⟩, ⟨[], none⟩, ⟨[], none⟩, ⟨[], none⟩, ⟨[], some 9⟩, ⟨[], some 10⟩, ⟨[9], some 9⟩, ⟨[10], some 10⟩, ⟨[], none⟩] [.val, .val, .val, .bslR 1 n (zerosR n), .mem (BringD R1 i n rav rla rfc rcc tav tla tfn tfc tcn tcc i0 i1 i2 i3 o0 o1 o2 o3 rfa rca tfa tca), .pure, .pure, .pure, .pure, .lay #[.slice none 0 0], .lay #[.int .i64 0, .int .i64 0, .int .u16 0, .int .u16 0], .put, .put, .pure] (by kernel_rfl) (by kernel_rfl) hv ?_
           simp only [List.length_cons, List.length_nil, Nat.zero_add, Any.someVals]
           iterate 14 apply Exists.intro
           repeat (first
             | (refine Bny.E_off rfl ?_; simp only [Act.put, sia, scs, scz])
             | ((with_reducible refine Bny.at_ealloc ?_); refine Bny.E_lay (t := 26) rfl rfl rfl (fun _ => rfl) ?_; intro b_9; simp only [Act.put, sia, scs, scz])
             | ((with_reducible refine Bny.at_ealloc ?_); refine Bny.E_lay (t := 38) rfl rfl rfl (fun _ => rfl) ?_; intro b_10; simp only [Act.put, sia, scs, scz])
             | ((with_reducible refine Bny.at_estore (T := 26) ?_); refine Bny.E_putv (T := 26) rfl rfl rfl rfl rfl rfl 1 infoM rfl rfl (by simp [Value.oneCell']) ?_; simp only [Act.put, sia, scs, scz])
             | ((with_reducible refine Bny.at_estore (T := 38) ?_); refine Bny.E_putv (T := 38) rfl rfl rfl rfl rfl rfl 4 infoS4 rfl rfl (by simp [Value.oneCell']) ?_; simp only [Act.put, sia, scs, scz])
             | ((with_reducible refine Bny.at_ecallf (f := 10) ?_); refine Bny.E_callmem rfl rfl rfl (Go.Proofs.enters_of Tryz.func10 (by kernel_rfl) rfl) rfl [.agg #[.slice (some ⟨vb, 0, none⟩) 1900 vc], .agg #[.int .i64 0, .int .i64 4, .int .u16 i, .int .u16 i], .slice (some ⟨B3, 0, none⟩) n n] rfl HSO.out ((1, .slice (some ⟨B3, 0, none⟩) n n, (zerosR n).toList) :: R1) (HKN.out B3 _ (by decide) rfl) (fun w0 w L R' hm hs => Bring_D hm (fun x hx => hs x (List.mem_cons_of_mem _ hx)) HDN.out (HRZ ▸ hs _ (List.mem_cons_self ..)) HN19.out) ?_; rintro v R2 ⟨vb1, vc1, rfl, hd1, hs1⟩; have HD1 := Lib.hid hd1; have HS1 := Lib.hid hs1; clear hd1 hs1; simp only [Act.put, sia, scs, scz])
             | ((with_reducible refine Bny.at_emks ?_); refine Bny.E_bslR (n := n) (kk := 1) (z := zerosR n) (t := 5) rfl rfl rfl (fun w' => run_emkz n rfl rfl HN1.out w') HZ.out HNM.out ?_; intro B3; simp only [Act.put, sia, scs, scz])
             | (apply Bny.E_pureq rfl rfl rfl
                case h => intro K hK; go_big_quiet_op; (refine hK _ ?_; rfl)
                case hr => exact fun _ => rfl
                simp only [Act.put, sia, scs, scz])
             | (apply Bny.E_val rfl rfl rfl rfl
                case h =>
                  intro E' hA K hK
                  first
                    | ((with_reducible refine Bny.at_qload (T := 26) ?_); refine Bny.q_ldv 1002 hA (by decide) rfl rfl 1 _ Tryz.underlying26 rfl infoM (by decide) rfl ?_; refine hK _ ?_; rfl)
                    | ((with_reducible refine Bny.at_qload (T := 38) ?_); refine Bny.q_ldv 1000 hA (by decide) rfl rfl 4 _ Tryz.underlying38 rfl infoS4 (by decide) rfl ?_; refine hK _ ?_; rfl)
                    | (go_big_quiet_op; first
                      | (refine hK _ ?_; rfl)
                      | (refine ⟨_, fun _ _ => rfl, ?_⟩; refine hK _ ?_; rfl)
                      | (apply Exists.intro; refine ⟨fun w1 hw1 => ?_, ?_⟩; · (first
                          | fail)
                         refine hK _ ?_; rfl))
                case hD => rfl
                simp only [Act.put, sia, scs, scz]))
           try any_goals exact undef
           refine Bny.E_nil ?_
           intro w9 hE9
           replace hv : Mem w w9 ([(b_9, #[.slice (some ⟨vb1, 0, none⟩) 1900 vc1]), (b_10, #[.int .i64 0, .int .i64 4, .int .u16 ((i + 1 : Nat) : Int), .int .u16 ((i + 1 : Nat) : Int)]), (b_6, #[.int .i64 0, .int .i64 4, .int .u16 i, .int .u16 i]), (b_4, #[.int .i64 0, .int .i64 4, .slice rfa 0 rfc, .int .u16 rav, .int .u16 rla, .slice rca 4 rcc, .int .i64 120, .int .i64 4, .slice tfa tfn tfc, .int .u16 tav, .int .u16 tla, .slice tca tcn tcc, .int .i64 300, .int .i64 i0, .int .i64 i1, .int .i64 i2, .int .i64 i3, .int .i64 o0, .int .i64 o1, .int .i64 o2, .int .i64 o3]), (b_3, #[.slice (some ⟨vb, 0, none⟩) 1900 vc])] ++ []) R2 := hE9.mem1 [9, 10, 1000, 1001, 1002] (by decide) 4 rfl
           clear hE9
           simp only [List.cons_append, List.nil_append] at hv
           clear HRZ
           go_wp2_with (first
             | ((with_reducible refine at_load (T := 26) ?_); refine wl_ldv rfl b_9 rfl _ hv.vars.ro 1 _ Tryz.underlying26 rfl infoM (by decide) rfl ?_)
             | ((with_reducible refine at_load (T := 33) ?_); refine wl_ldv rfl b_4 rfl _ hv.vars.ro 21 _ Tryz.underlying33 rfl infoN (by decide) rfl ?_)
             | (go_at_call 11; (with_reducible refine (Take_drop_L (n := n) hv HD1.out (by decide) (by decide) HLN2.out HG1.out).mono ?_); rintro e w1 ⟨vb2, vc2, rav2, rla2, fc2, cc2, fa2, ca2, R3, rfl, hv1, hd1, hs1⟩; replace hv := hv1; have HD2 := Lib.hid hd1; have HS2 := Lib.hid hs1; clear hv1 hd1 hs1)
             | ((with_reducible refine at_alloc (T := 26) (dst := some 12) ?_); refine wl_newb rfl #[.slice none 0 0] 26 (fun _ => rfl) ?_; intro b_12 w2 hm2; replace hv := hv.madeAt hm2; clear hm2)
             | ((with_reducible refine at_alloc (T := 33) (dst := some 13) ?_); refine wl_newb rfl #[.int .i64 0, .int .i64 0, .slice none 0 0, .int .u16 0, .int .u16 0, .slice none 0 0, .int .i64 0, .int .i64 0, .slice none 0 0, .int .u16 0, .int .u16 0, .slice none 0 0, .int .i64 0, .int .i64 0, .int .i64 0, .int .i64 0, .int .i64 0, .int .i64 0, .int .i64 0, .int .i64 0, .int .i64 0] 33 (fun _ => rfl) ?_; intro b_13 w2 hm2; replace hv := hv.madeAt hm2; clear hm2)
             | ((with_reducible refine at_store (T := 26) ?_); refine wl_stv rfl b_12 rfl _ rfl _ hv.vars.ro hv.vars.so 1 infoM rfl rfl (by simp [Value.oneCell']) ?_; intro w2 hw2; replace hv := hv.sets (by repeat first | exact .z | apply SetM.s) hw2; clear hw2)
             | ((with_reducible refine at_store (T := 33) ?_); refine wl_stv rfl b_13 rfl _ rfl _ hv.vars.ro hv.vars.so 21 infoN rfl rfl (by simp [Value.oneCell']) ?_; intro w2 hw2; replace hv := hv.sets (by repeat first | exact .z | apply SetM.s) hw2; clear hw2)
             | ((with_reducible refine at_load (T := 33) ?_); refine wl_ldv rfl b_13 rfl _ hv.vars.ro 21 _ Tryz.underlying33 rfl infoN (by decide) rfl ?_)
             | (go_at_call 12; (with_reducible refine (Check_L hv HD2.out).mono ?_); rintro e w1 ⟨rfl, hn1⟩; replace hv := hv.new hn1; clear hn1)
             | ((with_reducible refine at_load (T := 28) ?_); refine wl_ldc rfl b_13 5 rfl _ hv.vars.ro _ Tryz.underlying28 rfl (.slice ca2 4 cc2) rfl ?_))
           replace hv : Mem w _ ([(b_13, _), (b_12, _), (b_9, _), (b_10, _), (b_6, _), (b_4, _), (b_3, _)] ++ []) R3 := hv
           try simp only [Act.put]
           refine Bny.wp_region_walk _ _ [⟨[1001], none⟩, ⟨[1000], none⟩, ⟨[1003], none⟩, ⟨[1006], some 1006⟩, ⟨[1005], some 1005⟩, ⟨[1004], some 1004⟩] [.val, .val, .val, .put, .put, .put] (by kernel_rfl) (by kernel_rfl) hv ?_
           simp only [List.length_cons, List.length_nil, Nat.zero_add, Any.someVals]
           iterate 6 apply Exists.intro
           repeat (first
             | (refine Bny.E_off rfl ?_; simp only [Act.put, sia, scs, scz])
             | ((with_reducible refine Bny.at_estore (T := 26) ?_); refine Bny.E_putv (T := 26) rfl rfl rfl rfl rfl rfl 1 infoM rfl rfl (by simp [Value.oneCell']) ?_; simp only [Act.put, sia, scs, scz])
             | ((with_reducible refine Bny.at_estore (T := 33) ?_); refine Bny.E_putv (T := 33) rfl rfl rfl rfl rfl rfl 21 infoN rfl rfl (by simp [Value.oneCell']) ?_; simp only [Act.put, sia, scs, scz])
             | ((with_reducible refine Bny.at_estore (T := 38) ?_); refine Bny.E_putv (T := 38) rfl rfl rfl rfl rfl rfl 4 infoS4 rfl rfl (by simp [Value.oneCell']) ?_; simp only [Act.put, sia, scs, scz])
             | (apply Bny.E_pureq rfl rfl rfl
                case h => intro K hK; go_big_quiet_op; (refine hK _ ?_; rfl)
                case hr => exact fun _ => rfl
                simp only [Act.put, sia, scs, scz])
             | (apply Bny.E_val rfl rfl rfl rfl
                case h =>
                  intro E' hA K hK
                  first
                    | ((with_reducible refine Bny.at_qload (T := 26) ?_); refine Bny.q_ldv 1001 hA (by decide) rfl rfl 1 _ Tryz.underlying26 rfl infoM (by decide) rfl ?_; refine hK _ ?_; rfl)
                    | ((with_reducible refine Bny.at_qload (T := 33) ?_); refine Bny.q_ldv 1000 hA (by decide) rfl rfl 21 _ Tryz.underlying33 rfl infoN (by decide) rfl ?_; refine hK _ ?_; rfl)
                    | ((with_reducible refine Bny.at_qload (T := 38) ?_); refine Bny.q_ldv 1003 hA (by decide) rfl rfl 4 _ Tryz.underlying38 rfl infoS4 (by decide) rfl ?_; refine hK _ ?_; rfl)
                    | (go_big_quiet_op; first
                      | (refine hK _ ?_; rfl)
                      | (refine ⟨_, fun _ _ => rfl, ?_⟩; refine hK _ ?_; rfl)
                      | (apply Exists.intro; refine ⟨fun w1 hw1 => ?_, ?_⟩; · (first
                          | fail)
                         refine hK _ ?_; rfl))
                case hD => rfl
                simp only [Act.put, sia, scs, scz]))
           try any_goals exact undef
           refine Bny.E_nil ?_
           intro w9 hE9
           replace hv : Mem w w9 ([(b_6, #[.int .i64 0, .int .i64 4, .int .u16 ((i + 1 : Nat) : Int), .int .u16 ((i + 1 : Nat) : Int)]), (b_4, #[.int .i64 0, .int .i64 4, .slice fa2 0 fc2, .int .u16 rav2, .int .u16 rla2, .slice ca2 4 cc2, .int .i64 120, .int .i64 4, .slice tfa tfn tfc, .int .u16 tav, .int .u16 tla, .slice tca tcn tcc, .int .i64 300, .int .i64 i0, .int .i64 i1, .int .i64 i2, .int .i64 i3, .int .i64 o0, .int .i64 o1, .int .i64 o2, .int .i64 o3]), (b_3, #[.slice (some ⟨vb2, 0, none⟩) 1900 vc2])] ++ []) R3 := hE9.mem0 [1004, 1005, 1006] (by decide)
           clear hE9
           simp only [List.cons_append, List.nil_append] at hv
           go_wp2
           have hin := HIN.out
           go_roundw
           case rel => exact ⟨i + 1, vb2, vc2, rav2, rla2, fc2, cc2, tav, tla, tfn, tfc, tcn, tcc, i0, i1, i2, i3, o0, o1, o2, o3, fa2, ca2, tfa, tca, R3, by omega, by go_num, hv, Lib.hid (DrS.rx_next (m := 1) (ZD 1) HD2.out (by have := HL30.out; omega)), Lib.hid (fun x hx => HS2.out x (HS1.out x (HSB.out x hx)))⟩
           case measure => simp [intOf]; omega
     · have HN19 : Hid (192 < n) := Lib.hid (by omega)
       have y8 : decide ((n : Int) ≤ 192) = false := decide_eq_false (by omega)
       have z8 : decide (n ≤ 192) = false := decide_eq_false h19
       clear HRZ
       clear hi hi0 hl30 hil hx hlr h19 hn
       go_wp2_with (first
         | ((with_reducible refine at_load (T := 3) ?_); refine wl_rd rfl (c := xs.map (Value.int .i64)) (hv.rd HLR.out) i rfl _ Tryz.underlying3 rfl (.int .i64 x) HX.out ?_))
       have HSO : Hid (∃ v R', BringX R1 i vb vc v R') := Lib.hid (Bny.some_of (Bring_X (da := none) (dc := 0) (hv.bsl' (k := 1) (n := n) (c := (zerosR n).toList) ⟨rfl, made_alloc _ (zerosR n) 5⟩ rfl HZ.out HNM.out) (fun x hx => Mem.s hx) HDN.out HN19.out))
       replace hv : Mem w _ ([(b_6, _), (b_4, _), (b_3, _)] ++ []) R1 := hv
       try simp only [Act.put]
       refine Bny.wp_region_walk _ _ [⟨[1002], none⟩, ⟨[1000], none⟩, ⟨[], none⟩, ⟨[], some 3⟩, ⟨[3], some 4⟩, ⟨[], none⟩, ⟨[], none⟩, ⟨[], none⟩, ⟨[], none⟩, ⟨[], some 9⟩, ⟨[], some 10⟩, ⟨[9], some 9⟩, ⟨[10], some 10⟩, ⟨[], none⟩] [.val, .val, .val, .bslR 1 n (zerosR n), .mem (BringX R1 i vb vc), .pure, .pure, .pure, .pure, .lay #[.slice none 0 0], .lay #[.int .i64 0, .int .i64 0, .int .u16 0, .int .u16 0], .put, .put, .pure] (by kernel_rfl) (by kernel_rfl) hv ?_
       simp only [List.length_cons, List.length_nil, Nat.zero_add, Any.someVals]
       iterate 14 apply Exists.intro
       repeat (first
         | (refine Bny.E_off rfl ?_; simp only [Act.put, sia, scs, scz])
         | ((with_reducible refine Bny.at_ealloc ?_); refine Bny.E_lay (t := 26) rfl rfl rfl (fun _ => rfl) ?_; intro b_9; simp only [Act.put, sia, scs, scz])
         | ((with_reducible refine Bny.at_ealloc ?_); refine Bny.E_lay (t := 38) rfl rfl rfl (fun _ => rfl) ?_; intro b_10; simp only [Act.put, sia, scs, scz])
         | ((with_reducible refine Bny.at_estore (T := 26) ?_); refine Bny.E_putv (T := 26) rfl rfl rfl rfl rfl rfl 1 infoM rfl rfl (by simp [Value.oneCell']) ?_; simp only [Act.put, sia, scs, scz])
         | ((with_reducible refine Bny.at_estore (T := 38) ?_); refine Bny.E_putv (T := 38) rfl rfl rfl rfl rfl rfl 4 infoS4 rfl rfl (by simp [Value.oneCell']) ?_; simp only [Act.put, sia, scs, scz])
         | ((with_reducible refine Bny.at_ecallf (f := 10) ?_); refine Bny.E_callmem rfl rfl rfl (Go.Proofs.enters_of Tryz.func10 (by kernel_rfl) rfl) rfl [.agg #[.slice (some ⟨vb, 0, none⟩) 1900 vc], .agg #[.int .i64 0, .int .i64 4, .int .u16 i, .int .u16 i], .slice (some ⟨B3, 0, none⟩) n n] rfl HSO.out ((1, .slice (some ⟨B3, 0, none⟩) n n, (zerosR n).toList) :: R1) (HKN.out B3 _ (by decide) rfl) (fun w0 w L R' hm hs => Bring_X hm (fun x hx => hs x (List.mem_cons_of_mem _ hx)) HDN.out HN19.out) ?_; rintro v R2 ⟨rfl, hs1⟩; have HS1 := Lib.hid hs1; clear hs1; simp only [Act.put, sia, scs, scz])
         | ((with_reducible refine Bny.at_emks ?_); refine Bny.E_bslR (n := n) (kk := 1) (z := zerosR n) (t := 5) rfl rfl rfl (fun w' => run_emkz n rfl rfl HN1.out w') HZ.out HNM.out ?_; intro B3; simp only [Act.put, sia, scs, scz])
         | (apply Bny.E_pureq rfl rfl rfl
            case h => intro K hK; go_big_quiet_op; (refine hK _ ?_; rfl)
            case hr => exact fun _ => rfl
            simp only [Act.put, sia, scs, scz])
         | (apply Bny.E_val rfl rfl rfl rfl
            case h =>
              intro E' hA K hK
              first
                | ((with_reducible refine Bny.at_qload (T := 26) ?_); refine Bny.q_ldv 1002 hA (by decide) rfl rfl 1 _ Tryz.underlying26 rfl infoM (by decide) rfl ?_; refine hK _ ?_; rfl)
                | ((with_reducible refine Bny.at_qload (T := 38) ?_); refine Bny.q_ldv 1000 hA (by decide) rfl rfl 4 _ Tryz.underlying38 rfl infoS4 (by decide) rfl ?_; refine hK _ ?_; rfl)
                | (go_big_quiet_op; first
                  | (refine hK _ ?_; rfl)
                  | (refine ⟨_, fun _ _ => rfl, ?_⟩; refine hK _ ?_; rfl)
                  | (apply Exists.intro; refine ⟨fun w1 hw1 => ?_, ?_⟩; · (first
                      | fail)
                     refine hK _ ?_; rfl))
            case hD => rfl
            simp only [Act.put, sia, scs, scz]))
       try any_goals exact undef
       refine Bny.E_nil ?_
       intro w9 hE9
       replace hv : Mem w w9 ([(b_9, #[.slice (some ⟨vb, 0, none⟩) 1900 vc]), (b_10, #[.int .i64 0, .int .i64 4, .int .u16 ((i + 1 : Nat) : Int), .int .u16 i]), (b_6, #[.int .i64 0, .int .i64 4, .int .u16 i, .int .u16 i]), (b_4, #[.int .i64 0, .int .i64 4, .slice rfa 0 rfc, .int .u16 rav, .int .u16 rla, .slice rca 4 rcc, .int .i64 120, .int .i64 4, .slice tfa tfn tfc, .int .u16 tav, .int .u16 tla, .slice tca tcn tcc, .int .i64 300, .int .i64 i0, .int .i64 i1, .int .i64 i2, .int .i64 i3, .int .i64 o0, .int .i64 o1, .int .i64 o2, .int .i64 o3]), (b_3, #[.slice (some ⟨vb, 0, none⟩) 1900 vc])] ++ []) R2 := hE9.mem1 [9, 10, 1000, 1001, 1002] (by decide) 4 rfl
       clear hE9
       simp only [List.cons_append, List.nil_append] at hv
       go_wp2_with (first
         | (go_at_call 7; (with_reducible refine (heads10 _).mono ?_); rintro e w1 ⟨rfl, hn1⟩; replace hv := hv.new hn1; clear hn1))
       try rw [Exit.noGoto_ret]
       go_ret
       exact ⟨rfl, hv.below⟩
   · have y9 : decide ((i : Int) < (ln : Int)) = false := decide_eq_false (by omega)
     have z9 : decide (i < ln) = false := decide_eq_false hi
     clear hi hi0
     go_wp2_with (first
       | (go_at_call 7; (with_reducible refine (heads10 _).mono ?_); rintro e w1 ⟨rfl, hn1⟩; replace hv := hv.new hn1; clear hn1))
     go_ret
     exact ⟨rfl, hv.below⟩
theorem VnetDrops_any (la : Option Addr) (ln lc : Nat) (xs : List Int) (w : World) (R : List (Nat × Value × List Value)) (hv : Mem w w [] R) (hl : (1, .slice la ln lc, xs.map (Value.int .i64)) ∈ R) : Calls Tryz.prog 3 #[.slice la ln lc] w (fun e w' => e = .returned (.bool true) ∧ New w w') := by
 by_cases h0 : 30 < ln
 · exact Drops_c1 la ln lc xs w R hv hl h0
 · exact Drops_yes la ln lc xs w R hv hl h0
end Go.Proofs.YtjmibgomkgkhnaaGreat
end
