import Derived.Test.YthenepdbgeafkaaGAQ
import Derived.Test.YthenepdbgeafkaaGAY
import Derived.Test.YthenepdbgeafkaaGAU
import Derived.Test.YthenepdbgeafkaaGAW
set_option linter.unusedSimpArgs false
set_option linter.unusedVariables false
set_option maxRecDepth 100000
set_option maxHeartbeats 8000000
section
/-
 What tcp's functions answer, shut: what was sent is read alone from now on; the calls of the laws' own head.
-/
namespace Go.Proofs.Tp
open Go Go.RowKit Go.Proofs.Wi
variable {L : LV} {t : T}
def HP1 (f : Value → Value → Value) (w0 : World) (L : LV) (R : LR) (t : T) (g : G) (e : Ending) (w' : World) : Prop :=
 ∃ R' da dn dk ba bn bk pa pn pk l ob k sa sn sk, e = .returned (f (.agg (rowT t (.slice da dn dk) (.slice ba bn bk) (.slice pa pn pk))) (.slice (some ⟨ob, 0, none⟩) 1 k)) ∧ Mem w0 w' L ((7, .slice (some ⟨ob, 0, none⟩) 1 k, encG (g, .slice sa sn sk)) :: (R' ++ R)) ∧ InC (R' ++ R) t da dn dk ba bn bk pa pn pk l ∧ InG (R' ++ R) g sa sn sk
def HP0 (f : Value → Value → Value) (w0 : World) (L : LV) (R : LR) (t : T) (e : Ending) (w' : World) : Prop :=
 ∃ R' da dn dk ba bn bk pa pn pk l oa k, e = .returned (f (.agg (rowT t (.slice da dn dk) (.slice ba bn bk) (.slice pa pn pk))) (.slice oa 0 k)) ∧ Mem w0 w' L (R' ++ R) ∧ InC (R' ++ R) t da dn dk ba bn bk pa pn pk l
theorem HP1.of {f : Value → Value → Value} {w0 w' : World} {R R' : LR} {g : G} {vt ov : Value} {e : Ending} (h : RT w0 w' L (R' ++ R) ⟨t, [g]⟩ vt ov) (he : e = .returned (f vt ov)) (hc : chkG g = true) (h1 : g.seq < 4294967296) (h2 : g.ack < 4294967296) : HP1 f w0 L R t g e w' := by
 obtain ⟨da, dn, dk, ba, bn, bk, pa, pn, pk, l, gs, O, rfl, hv, hI, hO⟩ := h
 have hlen := hO.len
 obtain ⟨x, hx⟩ : ∃ x, gs = [x] := by
   match gs, hlen with
   | [x], _ => exact ⟨x, rfl⟩
 subst hx
 obtain ⟨x1, x2⟩ := x
 have hx1 : x1 = g := by have := hO.eq; simpa using this
 subst hx1
 have hd := hO.all _ (List.Mem.head _)
 obtain ⟨sa, sn, sk, rfl, _⟩ := hv.rd hd
 have hv2 := hO.own.yield (A := []) (B := L) hv
 rcases hO.own with ⟨rfl, h9, _⟩ | ⟨x, ⟨n, k, rfl, hn, _⟩, rfl⟩
 · simp [cellsG, encG] at h9
 have hn1 : n = 1 := by rw [cellsG_len] at hn; simp at hn; omega
 subst hn1
 exact ⟨R', da, dn, dk, ba, bn, bk, pa, pn, pk, l, x.1, k, sa, sn, sk, he, by simpa [cellsG] using hv2, hI, hd, hc, h1, h2⟩
theorem HP0.of {f : Value → Value → Value} {w0 w' : World} {R R' : LR} {vt ov : Value} {e : Ending} (h : RT w0 w' L (R' ++ R) ⟨t, []⟩ vt ov) (he : e = .returned (f vt ov)) : HP0 f w0 L R t e w' := by
 obtain ⟨da, dn, dk, ba, bn, bk, pa, pn, pk, l, gs, O, rfl, hv, hI, hO⟩ := h
 have hlen := hO.len
 have hgs : gs = [] := List.eq_nil_of_length_eq_zero hlen
 subst hgs
 obtain ⟨oa, n, k, rfl, hn⟩ := hO.own.slice
 have hn1 : n = 0 := by rw [cellsG_len] at hn; simp at hn; omega
 subst hn1
 have hv2 := (hO.own.yield (A := []) (B := L) hv).dropR
 exact ⟨R', da, dn, dk, ba, bn, bk, pa, pn, pk, l, oa, k, he, by simpa using hv2, hI⟩
def HV1 (f : Value → Value → Value) (R0 : LR) (t : T) (g : G) (v : Value) (R' : LR) : Prop :=
 ∃ da dn dk ba bn bk pa pn pk l ob k sa sn sk, v = f (.agg (rowT t (.slice da dn dk) (.slice ba bn bk) (.slice pa pn pk))) (.slice (some ⟨ob, 0, none⟩) 1 k) ∧ (7, .slice (some ⟨ob, 0, none⟩) 1 k, encG (g, .slice sa sn sk)) ∈ R' ∧ InC R' t da dn dk ba bn bk pa pn pk l ∧ InG R' g sa sn sk ∧ ∀ x ∈ R0, x ∈ R'
def HV0 (f : Value → Value → Value) (R0 : LR) (t : T) (v : Value) (R' : LR) : Prop :=
 ∃ da dn dk ba bn bk pa pn pk l oa k, v = f (.agg (rowT t (.slice da dn dk) (.slice ba bn bk) (.slice pa pn pk))) (.slice oa 0 k) ∧ InC R' t da dn dk ba bn bk pa pn pk l ∧ ∀ x ∈ R0, x ∈ R'
theorem HP1.V {f : Value → Value → Value} {w0 w' : World} {R R0 : LR} {g : G} {e : Ending} (h : HP1 f w0 L R t g e w') (h0 : ∀ x ∈ R0, x ∈ R) : ∃ v R', e = .returned v ∧ HV1 f R0 t g v R' ∧ Mem w0 w' L R' ∧ ∀ x ∈ R, x ∈ R' := by
 obtain ⟨R', da, dn, dk, ba, bn, bk, pa, pn, pk, l, ob, k, sa, sn, sk, rfl, hm, hI, hG⟩ := h
 have hs : ∀ x ∈ R, x ∈ (7, Value.slice (some ⟨ob, 0, none⟩) 1 k, encG (g, .slice sa sn sk)) :: (R' ++ R) := fun x hx => Mem.s (List.mem_append_right _ hx)
 exact ⟨_, _, rfl, ⟨da, dn, dk, ba, bn, bk, pa, pn, pk, l, ob, k, sa, sn, sk, rfl, Mem.z, hI.mono fun x hx => Mem.s hx, hG.mono fun x hx => Mem.s hx, fun x hx => hs x (h0 x hx)⟩, hm, hs⟩
theorem HP0.V {f : Value → Value → Value} {w0 w' : World} {R R0 : LR} {e : Ending} (h : HP0 f w0 L R t e w') (h0 : ∀ x ∈ R0, x ∈ R) : ∃ v R', e = .returned v ∧ HV0 f R0 t v R' ∧ Mem w0 w' L R' ∧ ∀ x ∈ R, x ∈ R' := by
 obtain ⟨R', da, dn, dk, ba, bn, bk, pa, pn, pk, l, oa, k, rfl, hm, hI⟩ := h
 have hs : ∀ x ∈ R, x ∈ R' ++ R := fun x hx => List.mem_append_right _ hx
 exact ⟨_, _, rfl, ⟨da, dn, dk, ba, bn, bk, pa, pn, pk, l, oa, k, rfl, hI, fun x hx => hs x (h0 x hx)⟩, hm, hs⟩
def f2 (a b : Value) : Value := .tuple #[a, b]
def f3 (a b : Value) : Value := .tuple #[a, b, .bool true]
def f4 (n : Nat) (er : Int) (a b : Value) : Value := .tuple #[a, .int .i64 n, b, .int .i64 er]
end Go.Proofs.Tp
namespace Go.Proofs.Ythenepdbgeafkaa
open Go.Proofs.Wi Go.RowKit Go.Proofs Go.Proofs.Tp
variable {w0 w : World} {L : LV} {R : LR} {da ba pa : Option Addr} {dn dk bn bk pn pk : Nat} {l : List PcV} {sa : Option Addr} {sn sk : Nat}
theorem Connect_H (hv : Mem w0 w L R) : Calls Try.prog 18 #[.int .i64 7, .int .u32 5, .int .i64 80, .int .u32 100, .int .u64 10] w (HP1 f2 w0 L R hA1 hg0) := by
 refine (Connect_T hv (lo := 7) (ip := 5) (po := 80) (iss := 100) (nw := 10) (by decide) (by decide) (by decide) (by decide)).mono ?_
 rintro e w' ⟨R', vt, ov, rfl, hr⟩
 rw [h_A1] at hr
 exact HP1.of hr rfl (by decide +kernel) (by decide) (by decide)
theorem Accept_H (hv : Mem w0 w L R) (hg : InG R hg0 sa sn sk) : Calls Try.prog 20 #[.int .i64 80, .int .u32 6, .int .u32 500, .agg #[.int .i64 7, .int .i64 80, .int .u32 100, .int .u32 0, .int .i64 2, .int .i64 256, .slice sa sn sk], .int .u64 10] w (HP1 f3 w0 L R hB1 hg1) := by
 refine (Accept_T hv (lo := 80) (ip := 6) (iss := 500) (nw := 10) hg rfl (by decide) (by decide) (by decide) (by decide) (by decide)).mono ?_
 rintro e w' ⟨R', vt, ov, rfl, hr⟩
 rw [h_B1] at hr
 exact HP1.of hr rfl (by decide +kernel) (by decide) (by decide)
theorem Close_H (hv : Mem w0 w L R) (hI : InC R hA4 da dn dk ba bn bk pa pn pk l) : Calls Try.prog 12 #[.agg (rowT hA4 (.slice da dn dk) (.slice ba bn bk) (.slice pa pn pk)), .int .u64 13] w (HP1 f2 w0 L R hA5 hg5) := by
 refine (Close_T hv hI ck_hA4 (nw := 13)).mono ?_
 rintro e w' ⟨R', vt, ov, rfl, hr⟩
 rw [h_A5] at hr
 exact HP1.of hr rfl (by decide +kernel) (by decide) (by decide)
theorem Take_HA2 (hv : Mem w0 w L R) (hI : InC R hA1 da dn dk ba bn bk pa pn pk l) (hg : InG R hg1 sa sn sk) : Calls Try.prog 13 #[.agg (rowT hA1 (.slice da dn dk) (.slice ba bn bk) (.slice pa pn pk)), .agg #[.int .i64 80, .int .i64 7, .int .u32 500, .int .u32 101, .int .i64 18, .int .i64 256, .slice sa sn sk], .int .u64 11] w (HP1 f2 w0 L R hA2 hg2) := by
 refine (Take_T hv hI ck_hA1 (nw := 11) hg).mono ?_
 rintro e w' ⟨c', R', vt, ov, rfl, ht, hr⟩
 rw [h_A2 ht] at hr
 exact HP1.of hr rfl (by decide +kernel) (by decide) (by decide)
theorem Take_HB2 (hv : Mem w0 w L R) (hI : InC R hB1 da dn dk ba bn bk pa pn pk l) (hg : InG R hg2 sa sn sk) : Calls Try.prog 13 #[.agg (rowT hB1 (.slice da dn dk) (.slice ba bn bk) (.slice pa pn pk)), .agg #[.int .i64 7, .int .i64 80, .int .u32 101, .int .u32 501, .int .i64 16, .int .i64 256, .slice sa sn sk], .int .u64 11] w (HP0 f2 w0 L R hB2) := by
 refine (Take_T hv hI ck_hB1 (nw := 11) hg).mono ?_
 rintro e w' ⟨c', R', vt, ov, rfl, ht, hr⟩
 rw [h_B2 ht] at hr
 exact HP0.of hr rfl
theorem Take_HB3 (hv : Mem w0 w L R) (hI : InC R hB2 da dn dk ba bn bk pa pn pk l) (hg : InG R hg3 sa sn sk) : Calls Try.prog 13 #[.agg (rowT hB2 (.slice da dn dk) (.slice ba bn bk) (.slice pa pn pk)), .agg #[.int .i64 7, .int .i64 80, .int .u32 101, .int .u32 501, .int .i64 24, .int .i64 256, .slice sa sn sk], .int .u64 12] w (HP1 f2 w0 L R hB3 hg4) := by
 refine (Take_T hv hI ck_hB2 (nw := 12) hg).mono ?_
 rintro e w' ⟨c', R', vt, ov, rfl, ht, hr⟩
 rw [h_B3 ht] at hr
 exact HP1.of hr rfl (by decide +kernel) (by decide) (by decide)
theorem Take_HA4 (hv : Mem w0 w L R) (hI : InC R hA3 da dn dk ba bn bk pa pn pk l) (hg : InG R hg4 sa sn sk) : Calls Try.prog 13 #[.agg (rowT hA3 (.slice da dn dk) (.slice ba bn bk) (.slice pa pn pk)), .agg #[.int .i64 80, .int .i64 7, .int .u32 501, .int .u32 106, .int .i64 16, .int .i64 251, .slice sa sn sk], .int .u64 12] w (HP0 f2 w0 L R hA4) := by
 refine (Take_T hv hI ck_hA3 (nw := 12) hg).mono ?_
 rintro e w' ⟨c', R', vt, ov, rfl, ht, hr⟩
 rw [h_A4 ht] at hr
 exact HP0.of hr rfl
theorem Write_H (hv : Mem w0 w L R) (hI : InC R hA2 da dn dk ba bn bk pa pn pk l) {xa : Option Addr} {xn xk : Nat} (hb : (1, .slice xa xn xk, cellsB hello) ∈ R) : Calls Try.prog 11 #[.agg (rowT hA2 (.slice da dn dk) (.slice ba bn bk) (.slice pa pn pk)), .slice xa xn xk, .int .u64 12] w (HP1 (f4 5 0) w0 L R hA3 hg3) := by
 refine (Write_T hv hI ck_hA2 (nw := 12) hb (by decide) (.inl rfl) (n := 5) (by decide)).mono ?_
 rintro e w' ⟨R', vt, ov, rfl, hr⟩
 rw [h_A3] at hr
 exact HP1.of hr rfl (by decide +kernel) (by decide) (by decide)
theorem Read_H (hv : Mem w0 w L R) (hI : InC R hB3 da dn dk ba bn bk pa pn pk l) : Calls Try.prog 14 #[.agg (rowT hB3 (.slice da dn dk) (.slice ba bn bk) (.slice pa pn pk)), .int .i64 9] w (fun e w' => ∃ R' da dn dk ba bn bk pa pn pk l ga gk oa ok, e = .returned (.tuple #[.agg (rowT hB4 (.slice da dn dk) (.slice ba bn bk) (.slice pa pn pk)), .slice ga 5 gk, .slice oa 0 ok]) ∧ Mem w0 w' L (R' ++ R) ∧ (1, Value.slice ga 5 gk, cellsB hello) ∈ R' ++ R ∧ InC (R' ++ R) hB4 da dn dk ba bn bk pa pn pk l) := by
 refine (Read_T hv hI ck_hB3 (n := 9)).mono ?_
 rintro e w' ⟨R', vt, ga, gn, gk, ov, rfl, hg, hr⟩
 rw [h_B4] at hr hg
 obtain ⟨R2, da, dn, dk, ba, bn, bk, pa, pn, pk, l, oa, k, he, hm, hi⟩ := HP0.of (f := f2) (e := .returned (f2 vt ov)) hr rfl
 have e1 : vt = .agg (rowT hB4 (.slice da dn dk) (.slice ba bn bk) (.slice pa pn pk)) ∧ ov = .slice oa 0 k := by
   simpa [f2] using he
 obtain ⟨rfl, rfl⟩ := e1
 obtain ⟨da', dn', dk', ba', bn', bk', pa', pn', pk', l', gs, O, e2, hv2, hI2, hO2⟩ := hr
 have hlen := hO2.len
 have hgs : gs = [] := List.eq_nil_of_length_eq_zero hlen
 subst hgs
 have hv3 := (hO2.own.yield (A := []) (B := L) hv2).dropR
 have hn : gn = 5 := by
   have := len_rd1 (hv3.rd hg)
   simp [hello] at this
   omega
 subst hn
 rw [e2]
 exact ⟨R', da', dn', dk', ba', bn', bk', pa', pn', pk', l', ga, gk, oa, k, rfl, by simpa using hv3, hg, hI2⟩
end Go.Proofs.Ythenepdbgeafkaa
end

section
/-
 The walk of the tcp laws' own head.
-/
namespace Go
section
variable {P : Program} {ops : Array Oper} {rest : List Oper} {a : Act} {w : World} {Q : Exit → Act → World → Prop} {ty : TypeId} {pos : String} {after : Array Edge} {g : Option (Nat × Bool)}
end
end Go
namespace Go.Proofs.Ythenepdbgeafkaa
open Go.Proofs.Wi Go.RowKit Go.Proofs Go.Proofs.Tp
variable {w0 w : World} {L : LV} {R R' : LR} {da ba pa : Option Addr} {dn dk bn bk pn pk : Nat} {l : List PcV} {sa : Option Addr} {sn sk : Nat}
theorem Take_VA2 (hv : Mem w0 w L R') (hs : ∀ x ∈ R, x ∈ R') (hI : InC R hA1 da dn dk ba bn bk pa pn pk l) (hg : InG R hg1 sa sn sk) : Calls Try.prog 13 #[.agg (rowT hA1 (.slice da dn dk) (.slice ba bn bk) (.slice pa pn pk)), .agg #[.int .i64 80, .int .i64 7, .int .u32 500, .int .u32 101, .int .i64 18, .int .i64 256, .slice sa sn sk], .int .u64 11] w fun e w' => ∃ v R2, e = .returned v ∧ HV1 f2 R hA2 hg2 v R2 ∧ Mem w0 w' L R2 ∧ ∀ x ∈ R', x ∈ R2 :=
 (Take_HA2 hv (hI.mono hs) (hg.mono hs)).mono fun e w' h => h.V hs
theorem Take_VB2 (hv : Mem w0 w L R') (hs : ∀ x ∈ R, x ∈ R') (hI : InC R hB1 da dn dk ba bn bk pa pn pk l) (hg : InG R hg2 sa sn sk) : Calls Try.prog 13 #[.agg (rowT hB1 (.slice da dn dk) (.slice ba bn bk) (.slice pa pn pk)), .agg #[.int .i64 7, .int .i64 80, .int .u32 101, .int .u32 501, .int .i64 16, .int .i64 256, .slice sa sn sk], .int .u64 11] w fun e w' => ∃ v R2, e = .returned v ∧ HV0 f2 R hB2 v R2 ∧ Mem w0 w' L R2 ∧ ∀ x ∈ R', x ∈ R2 :=
 (Take_HB2 hv (hI.mono hs) (hg.mono hs)).mono fun e w' h => h.V hs
theorem Take_VB3 (hv : Mem w0 w L R') (hs : ∀ x ∈ R, x ∈ R') (hI : InC R hB2 da dn dk ba bn bk pa pn pk l) (hg : InG R hg3 sa sn sk) : Calls Try.prog 13 #[.agg (rowT hB2 (.slice da dn dk) (.slice ba bn bk) (.slice pa pn pk)), .agg #[.int .i64 7, .int .i64 80, .int .u32 101, .int .u32 501, .int .i64 24, .int .i64 256, .slice sa sn sk], .int .u64 12] w fun e w' => ∃ v R2, e = .returned v ∧ HV1 f2 R hB3 hg4 v R2 ∧ Mem w0 w' L R2 ∧ ∀ x ∈ R', x ∈ R2 :=
 (Take_HB3 hv (hI.mono hs) (hg.mono hs)).mono fun e w' h => h.V hs
theorem Take_VA4 (hv : Mem w0 w L R') (hs : ∀ x ∈ R, x ∈ R') (hI : InC R hA3 da dn dk ba bn bk pa pn pk l) (hg : InG R hg4 sa sn sk) : Calls Try.prog 13 #[.agg (rowT hA3 (.slice da dn dk) (.slice ba bn bk) (.slice pa pn pk)), .agg #[.int .i64 80, .int .i64 7, .int .u32 501, .int .u32 106, .int .i64 16, .int .i64 251, .slice sa sn sk], .int .u64 12] w fun e w' => ∃ v R2, e = .returned v ∧ HV0 f2 R hA4 v R2 ∧ Mem w0 w' L R2 ∧ ∀ x ∈ R', x ∈ R2 :=
 (Take_HA4 hv (hI.mono hs) (hg.mono hs)).mono fun e w' h => h.V hs
def CkOK (w : World) (R : LR) (row : Array Value) : Prop := ∀ w' L' R', Mem w w' L' R' → (∀ x ∈ R, x ∈ R') → Calls Try.prog 17 #[.agg row] w' fun e w2 => e = .returned (.bool true) ∧ New w' w2
theorem CkOK.use {w w' : World} {L' : LV} {row : Array Value} (h : CkOK w R row) (hm : Mem w w' L' R') (hs : ∀ x ∈ R, x ∈ R') : Calls Try.prog 17 #[.agg row] w' fun e w2 => e = .returned (.bool true) ∧ New w' w2 := h _ _ _ hm hs
theorem heads26 (w : World) : Calls Try.prog 9 #[] w fun e w' => e = .returned (.bool true) ∧ New w w' := by
 have hv := Mem.nil w
 go_enter Try.func9, Try.ntmps9
 simp only [List.append_eq, List.cons_append, List.nil_append]
 go_wp2_with (first
   | (go_at_call 18; (refine (Connect_H hv).mono ?_); rintro e w1 ⟨R1, da1, dn1, dk1, ba1, bn1, bk1, pa1, pn1, pk1, l1, ob1, k1, sa1, sn1, sk1, he, hm1, hI1, hG1⟩; obtain rfl : e = .returned (.tuple #[.agg #[.int .i64 1, .int .i64 7, .int .u32 5, .int .i64 80, .int .u32 100, .int .u32 100, .int .u32 101, .slice da1 dn1 dk1, .int .i64 0, .bool false, .bool false, .int .u32 0, .slice ba1 bn1 bk1, .slice pa1 pn1 pk1, .bool false, .int .u64 14, .int .i64 4, .int .i64 0, .int .i64 0], .slice (some ⟨ob1, 0, none⟩) 1 k1]) := he; clear hv; have hv := hm1; clear hm1; have HI1 := Lib.hid hI1; have HG1 := Lib.hid hG1; clear hI1 hG1)
   | ((with_reducible refine gAl 31 1 ?_); refine nwB hv #[.int .i64 0, .int .i64 0, .int .u32 0, .int .i64 0, .int .u32 0, .int .u32 0, .int .u32 0, .slice none 0 0, .int .i64 0, .bool false, .bool false, .int .u32 0, .slice none 0 0, .slice none 0 0, .bool false, .int .u64 0, .int .i64 0, .int .i64 0, .int .i64 0] 31 ?_; clear hv; intro b_1 w2 hv)
   | ((with_reducible refine gSt 31 ?_); refine stV hv b_1 19 infoT19 ?_; clear hv; intro w2 hv)
   | ((with_reducible refine at_load (T := 42) ?_); refine wl_rdv rfl (hv.rd (k := 7) (c := encG (hg0, .slice sa1 sn1 sk1)) (by first | exact Mem.z | exact Mem.s (List.mem_append_right _ Mem.z))) 0 rfl 7 _ Try.underlying42 rfl infoG7 (by decide) (#[.int .i64 7, .int .i64 80, .int .u32 100, .int .u32 0, .int .i64 2, .int .i64 256, .slice sa1 sn1 sk1]) rfl rfl ?_)
   | (go_at_call 20; (refine (Accept_H hv (HG1.out.mono fun x hx => Mem.s hx)).mono ?_); rintro e w1 ⟨R2, da2, dn2, dk2, ba2, bn2, bk2, pa2, pn2, pk2, l2, ob2, k2, sa2, sn2, sk2, he, hm1, hI1, hG1⟩; obtain rfl : e = .returned (.tuple #[.agg #[.int .i64 2, .int .i64 80, .int .u32 6, .int .i64 7, .int .u32 500, .int .u32 500, .int .u32 501, .slice da2 dn2 dk2, .int .i64 256, .bool false, .bool false, .int .u32 101, .slice ba2 bn2 bk2, .slice pa2 pn2 pk2, .bool false, .int .u64 14, .int .i64 4, .int .i64 0, .int .i64 0], .slice (some ⟨ob2, 0, none⟩) 1 k2, .bool true]) := he; clear hv; have hv := hm1; clear hm1; have HI2 := Lib.hid hI1; have HG2 := Lib.hid hG1; clear hI1 hG1)
   | ((with_reducible refine gAl 31 3 ?_); refine nwB hv #[.int .i64 0, .int .i64 0, .int .u32 0, .int .i64 0, .int .u32 0, .int .u32 0, .int .u32 0, .slice none 0 0, .int .i64 0, .bool false, .bool false, .int .u32 0, .slice none 0 0, .slice none 0 0, .bool false, .int .u64 0, .int .i64 0, .int .i64 0, .int .i64 0] 31 ?_; clear hv; intro b_3 w2 hv)
   | ((with_reducible refine gSt 31 ?_); refine stV hv b_3 19 infoT19 ?_; clear hv; intro w2 hv))
 obtain ⟨R, hR⟩ : ∃ R, R = (7, Value.slice (some ⟨ob2, 0, none⟩) 1 k2, encG (hg1, .slice sa2 sn2 sk2)) :: (R2 ++ ((7, Value.slice (some ⟨ob1, 0, none⟩) 1 k1, encG (hg0, .slice sa1 sn1 sk1)) :: (R1 ++ []))) := ⟨_, rfl⟩
 rw [← hR] at hv
 have KI1 : Hid (InC R hA1 da1 dn1 dk1 ba1 bn1 bk1 pa1 pn1 pk1 l1) := Lib.hid (HI1.out.mono fun x hx => by rw [hR]; exact Mem.s (List.mem_append_right _ (Mem.s hx)))
 have KI2 : Hid (InC R hB1 da2 dn2 dk2 ba2 bn2 bk2 pa2 pn2 pk2 l2) := Lib.hid (HI2.out.mono fun x hx => by rw [hR]; exact Mem.s hx)
 have KG2 : Hid (InG R hg1 sa2 sn2 sk2) := Lib.hid (HG2.out.mono fun x hx => by rw [hR]; exact Mem.s hx)
 have KR2 : Hid ((7, Value.slice (some ⟨ob2, 0, none⟩) 1 k2, encG (hg1, .slice sa2 sn2 sk2)) ∈ R) := Lib.hid (by rw [hR]; exact Mem.z)
 have KR1 : Hid ((7, Value.slice (some ⟨ob1, 0, none⟩) 1 k1, encG (hg0, .slice sa1 sn1 sk1)) ∈ R) := Lib.hid (by rw [hR]; exact Mem.s (List.mem_append_right _ Mem.z))
 clear hR HI1 HI2 HG1 HG2
 have HSC : Hid (∃ v R', HV1 f2 R hA2 hg2 v R') := Lib.hid (Bny.some_of (Take_VA2 hv (fun x hx => hx) KI1.out KG2.out))
 replace hv : Mem w _ ([(b_3, _), (b_1, _)] ++ ([] : LV)) R := hv
 try simp only [Act.put]
 refine Bny.wp_region_walk _ _ [⟨[1001], none⟩, ⟨[], none⟩, ⟨[], none⟩, ⟨[], none⟩, ⟨[], some 4⟩, ⟨[], none⟩, ⟨[], none⟩, ⟨[], none⟩, ⟨[1001], some 1001⟩] [.val, .val, .val, .val, .mem (HV1 f2 R hA2 hg2), .pure, .pure, .pure, .put, .pure] (by kernel_rfl) (by kernel_rfl) hv ?_
 simp only [List.length_cons, List.length_nil, Nat.zero_add, Any.someVals]
 iterate 10 apply Exists.intro
 repeat (first
   | (refine Bny.E_off rfl ?_; simp only [Act.put, sia, scs, scz])
   | ((with_reducible refine Bny.at_estore (T := 31) ?_); refine Bny.E_putv (T := 31) rfl rfl rfl rfl rfl rfl 19 infoT19 rfl rfl (by simp [Value.oneCell']) ?_; simp only [Act.put, sia, scs, scz])
   | ((with_reducible refine Bny.at_ecallf (f := 13) ?_); refine Bny.E_callmem rfl rfl rfl (Go.Proofs.enters_of Try.func13 (by kernel_rfl) rfl) rfl [.agg #[.int .i64 1, .int .i64 7, .int .u32 5, .int .i64 80, .int .u32 100, .int .u32 100, .int .u32 101, .slice da1 dn1 dk1, .int .i64 0, .bool false, .bool false, .int .u32 0, .slice ba1 bn1 bk1, .slice pa1 pn1 pk1, .bool false, .int .u64 14, .int .i64 4, .int .i64 0, .int .i64 0], .agg #[.int .i64 80, .int .i64 7, .int .u32 500, .int .u32 101, .int .i64 18, .int .i64 256, .slice sa2 sn2 sk2], .int .u64 11] rfl HSC.out R (fun x hx => .inl hx) (fun w0 w L R' hm hs => Take_VA2 hm hs KI1.out KG2.out) ?_; rintro v R3 ⟨da3, dn3, dk3, ba3, bn3, bk3, pa3, pn3, pk3, l3, ob3, k3, sa3, sn3, sk3, he, hr3, hi3, hg3, hs3⟩; obtain rfl : v = .tuple #[.agg #[.int .i64 3, .int .i64 7, .int .u32 5, .int .i64 80, .int .u32 100, .int .u32 101, .int .u32 101, .slice da3 dn3 dk3, .int .i64 256, .bool false, .bool false, .int .u32 501, .slice ba3 bn3 bk3, .slice pa3 pn3 pk3, .bool false, .int .u64 0, .int .i64 4, .int .i64 0, .int .i64 0], .slice (some ⟨ob3, 0, none⟩) 1 k3] := he; have HR3 := Lib.hid hr3; have HI3 := Lib.hid hi3; have HG3 := Lib.hid hg3; have HS3 := Lib.hid hs3; clear hr3 hi3 hg3 hs3; simp only [Act.put, sia, scs, scz])
   | (apply Bny.E_pureq rfl rfl rfl
      case h => intro K hK; go_big_quiet_op; (refine hK _ ?_; rfl)
      case hr => exact fun _ => rfl
      simp only [Act.put, sia, scs, scz])
   | (apply Bny.E_val rfl rfl rfl rfl
      case h =>
        intro E' hA K hK
        first
          | ((with_reducible refine Bny.at_qload (T := 31) ?_); refine Bny.q_ldv 1001 hA (by decide) rfl rfl 19 _ Try.underlying31 rfl infoT19 (by decide) rfl ?_; refine hK _ ?_; rfl)
          | ((with_reducible refine Bny.at_qload (T := 42) ?_); refine Bny.q_rdv (ks := []) (kk := 7) (b := ob2) (o := 0) (n := 1) (cap := k2) (c := encG (hg1, .slice sa2 sn2 sk2)) (Or.inl KR2.out) hA 0 rfl 7 _ Try.underlying42 rfl infoG7 (by decide) (#[.int .i64 80, .int .i64 7, .int .u32 500, .int .u32 101, .int .i64 18, .int .i64 256, .slice sa2 sn2 sk2]) rfl rfl ?_; refine hK _ ?_; rfl)
          | (go_big_quiet_op; first
            | (refine hK _ ?_; rfl)
            | (refine ⟨_, fun _ _ => rfl, ?_⟩; refine hK _ ?_; rfl)
            | (apply Exists.intro; refine ⟨fun w1 hw1 => ?_, ?_⟩; · (first
                | fail)
               refine hK _ ?_; rfl))
      case hD => rfl
      simp only [Act.put, sia, scs, scz]))
 try any_goals exact undef
 refine Bny.E_nil ?_
 intro w9 hE9
 replace hv : Mem w w9 ([(b_3, #[.int .i64 2, .int .i64 80, .int .u32 6, .int .i64 7, .int .u32 500, .int .u32 500, .int .u32 501, .slice da2 dn2 dk2, .int .i64 256, .bool false, .bool false, .int .u32 101, .slice ba2 bn2 bk2, .slice pa2 pn2 pk2, .bool false, .int .u64 14, .int .i64 4, .int .i64 0, .int .i64 0]), (b_1, #[.int .i64 3, .int .i64 7, .int .u32 5, .int .i64 80, .int .u32 100, .int .u32 101, .int .u32 101, .slice da3 dn3 dk3, .int .i64 256, .bool false, .bool false, .int .u32 501, .slice ba3 bn3 bk3, .slice pa3 pn3 pk3, .bool false, .int .u64 0, .int .i64 4, .int .i64 0, .int .i64 0])] ++ ([] : LV)) R3 := hE9.mem1 [1000, 1001] (by decide) 4 rfl
 clear hE9
 simp only [List.cons_append, List.nil_append] at hv
 clear HSC
 have LI2 := Lib.hid (KI2.out.mono HS3.out)
 have LR1 := Lib.hid (HS3.out _ KR1.out)
 have LR2 := Lib.hid (HS3.out _ KR2.out)
 clear KI1 KI2 KG2 KR1 KR2 HS3
 go_wp2
 have HSC : Hid (∃ v R', HV0 f2 R3 hB2 v R') := Lib.hid (Bny.some_of (Take_VB2 hv (fun x hx => hx) LI2.out HG3.out))
 replace hv : Mem w _ ([(b_3, _), (b_1, _)] ++ ([] : LV)) R3 := hv
 try simp only [Act.put]
 refine Bny.wp_region_walk _ _ [⟨[1000], none⟩, ⟨[], none⟩, ⟨[], none⟩, ⟨[], none⟩, ⟨[], some 4⟩, ⟨[], none⟩, ⟨[], none⟩, ⟨[], none⟩, ⟨[1000], some 1000⟩] [.val, .val, .val, .val, .mem (HV0 f2 R3 hB2), .pure, .pure, .pure, .put, .pure] (by kernel_rfl) (by kernel_rfl) hv ?_
 simp only [List.length_cons, List.length_nil, Nat.zero_add, Any.someVals]
 iterate 10 apply Exists.intro
 repeat (first
   | (refine Bny.E_off rfl ?_; simp only [Act.put, sia, scs, scz])
   | ((with_reducible refine Bny.at_estore (T := 31) ?_); refine Bny.E_putv (T := 31) rfl rfl rfl rfl rfl rfl 19 infoT19 rfl rfl (by simp [Value.oneCell']) ?_; simp only [Act.put, sia, scs, scz])
   | ((with_reducible refine Bny.at_ecallf (f := 13) ?_); refine Bny.E_callmem rfl rfl rfl (Go.Proofs.enters_of Try.func13 (by kernel_rfl) rfl) rfl [.agg #[.int .i64 2, .int .i64 80, .int .u32 6, .int .i64 7, .int .u32 500, .int .u32 500, .int .u32 501, .slice da2 dn2 dk2, .int .i64 256, .bool false, .bool false, .int .u32 101, .slice ba2 bn2 bk2, .slice pa2 pn2 pk2, .bool false, .int .u64 14, .int .i64 4, .int .i64 0, .int .i64 0], .agg #[.int .i64 7, .int .i64 80, .int .u32 101, .int .u32 501, .int .i64 16, .int .i64 256, .slice sa3 sn3 sk3], .int .u64 11] rfl HSC.out R3 (fun x hx => .inl hx) (fun w0 w L R' hm hs => Take_VB2 hm hs LI2.out HG3.out) ?_; rintro v R4 ⟨da4, dn4, dk4, ba4, bn4, bk4, pa4, pn4, pk4, l4, oa4, k4, he, hi4, hs4⟩; obtain rfl : v = .tuple #[.agg #[.int .i64 3, .int .i64 80, .int .u32 6, .int .i64 7, .int .u32 500, .int .u32 501, .int .u32 501, .slice da4 dn4 dk4, .int .i64 256, .bool false, .bool false, .int .u32 101, .slice ba4 bn4 bk4, .slice pa4 pn4 pk4, .bool false, .int .u64 0, .int .i64 4, .int .i64 0, .int .i64 0], .slice oa4 0 k4] := he; have HI4 := Lib.hid hi4; have HS4 := Lib.hid hs4; clear hi4 hs4; simp only [Act.put, sia, scs, scz])
   | (apply Bny.E_pureq rfl rfl rfl
      case h => intro K hK; go_big_quiet_op; (refine hK _ ?_; rfl)
      case hr => exact fun _ => rfl
      simp only [Act.put, sia, scs, scz])
   | (apply Bny.E_val rfl rfl rfl rfl
      case h =>
        intro E' hA K hK
        first
          | ((with_reducible refine Bny.at_qload (T := 31) ?_); refine Bny.q_ldv 1000 hA (by decide) rfl rfl 19 _ Try.underlying31 rfl infoT19 (by decide) rfl ?_; refine hK _ ?_; rfl)
          | ((with_reducible refine Bny.at_qload (T := 42) ?_); refine Bny.q_rdv (ks := []) (kk := 7) (b := ob3) (o := 0) (n := 1) (cap := k3) (c := encG (hg2, .slice sa3 sn3 sk3)) (Or.inl HR3.out) hA 0 rfl 7 _ Try.underlying42 rfl infoG7 (by decide) (#[.int .i64 7, .int .i64 80, .int .u32 101, .int .u32 501, .int .i64 16, .int .i64 256, .slice sa3 sn3 sk3]) rfl rfl ?_; refine hK _ ?_; rfl)
          | (go_big_quiet_op; first
            | (refine hK _ ?_; rfl)
            | (refine ⟨_, fun _ _ => rfl, ?_⟩; refine hK _ ?_; rfl)
            | (apply Exists.intro; refine ⟨fun w1 hw1 => ?_, ?_⟩; · (first
                | fail)
               refine hK _ ?_; rfl))
      case hD => rfl
      simp only [Act.put, sia, scs, scz]))
 try any_goals exact undef
 refine Bny.E_nil ?_
 intro w9 hE9
 replace hv : Mem w w9 ([(b_3, #[.int .i64 3, .int .i64 80, .int .u32 6, .int .i64 7, .int .u32 500, .int .u32 501, .int .u32 501, .slice da4 dn4 dk4, .int .i64 256, .bool false, .bool false, .int .u32 101, .slice ba4 bn4 bk4, .slice pa4 pn4 pk4, .bool false, .int .u64 0, .int .i64 4, .int .i64 0, .int .i64 0]), (b_1, #[.int .i64 3, .int .i64 7, .int .u32 5, .int .i64 80, .int .u32 100, .int .u32 101, .int .u32 101, .slice da3 dn3 dk3, .int .i64 256, .bool false, .bool false, .int .u32 501, .slice ba3 bn3 bk3, .slice pa3 pn3 pk3, .bool false, .int .u64 0, .int .i64 4, .int .i64 0, .int .i64 0])] ++ ([] : LV)) R4 := hE9.mem1 [1000, 1001] (by decide) 4 rfl
 clear hE9
 simp only [List.cons_append, List.nil_append] at hv
 clear HSC
 have LI3 := Lib.hid (HI3.out.mono HS4.out)
 have MR1 := Lib.hid (HS4.out _ LR1.out)
 have MR2 := Lib.hid (HS4.out _ LR2.out)
 clear HI3 HG3 HR3 LI2 LR1 LR2 HS4
 go_wp2_with (first
   | ((with_reducible refine gLd 31 ?_); refine ldV hv b_1 19 Try.underlying31 infoT19 ?_)
   | ((with_reducible refine at_conv ?_); refine wl_bconv (C := #[.int .u8 104, .int .u8 101, .int .u8 108, .int .u8 108, .int .u8 111]) (n := 5) (bs := [104, 101, 108, 108, 111]) rfl hv rfl Try.underlying23 Try.underlying5 rfl rfl (by unfold maxLen; omega) ?_; intro bq w7 hv1; replace hv := hv1; clear hv1)
   | (go_at_call 11; (refine (Write_H hv (LI3.out.mono fun x hx => Mem.s hx) Mem.z).mono ?_); rintro e w1 ⟨R5, da5, dn5, dk5, ba5, bn5, bk5, pa5, pn5, pk5, l5, ob5, k5, sa5, sn5, sk5, he, hm1, hI1, hG1⟩; obtain rfl : e = .returned (.tuple #[.agg #[.int .i64 3, .int .i64 7, .int .u32 5, .int .i64 80, .int .u32 100, .int .u32 101, .int .u32 106, .slice da5 dn5 dk5, .int .i64 256, .bool false, .bool false, .int .u32 501, .slice ba5 bn5 bk5, .slice pa5 pn5 pk5, .bool false, .int .u64 16, .int .i64 4, .int .i64 0, .int .i64 0], .int .i64 5, .slice (some ⟨ob5, 0, none⟩) 1 k5, .int .i64 0]) := he; clear hv; have hv := hm1; clear hm1; have HI5 := Lib.hid hI1; have HG5 := Lib.hid hG1; clear hI1 hG1)
   | ((with_reducible refine gSt 31 ?_); refine stV hv b_1 19 infoT19 ?_; clear hv; intro w2 hv))
 obtain ⟨R, hR⟩ : ∃ R, R = (7, Value.slice (some ⟨ob5, 0, none⟩) 1 k5, encG (hg3, .slice sa5 sn5 sk5)) :: (R5 ++ ((1, Value.slice (some ⟨bq, 0, none⟩) 5 5, cellsB [104, 101, 108, 108, 111]) :: R4)) := ⟨_, rfl⟩
 rw [← hR] at hv
 have hSR : ∀ x ∈ R4, x ∈ R := fun x hx => by rw [hR]; exact Mem.s (List.mem_append_right _ (Mem.s hx))
 have NI4 := Lib.hid (HI4.out.mono hSR)
 have NI5 : Hid (InC R hA3 da5 dn5 dk5 ba5 bn5 bk5 pa5 pn5 pk5 l5) := Lib.hid (HI5.out.mono fun x hx => by rw [hR]; exact Mem.s hx)
 have NG5 : Hid (InG R hg3 sa5 sn5 sk5) := Lib.hid (HG5.out.mono fun x hx => by rw [hR]; exact Mem.s hx)
 have NR5 : Hid ((7, Value.slice (some ⟨ob5, 0, none⟩) 1 k5, encG (hg3, .slice sa5 sn5 sk5)) ∈ R) := Lib.hid (by rw [hR]; exact Mem.z)
 have NR1 := Lib.hid (hSR _ MR1.out)
 have NR2 := Lib.hid (hSR _ MR2.out)
 clear hSR hR HI4 HI5 HG5 MR1 MR2 LI3
 have HSC : Hid (∃ v R', HV1 f2 R hB3 hg4 v R') := Lib.hid (Bny.some_of (Take_VB3 hv (fun x hx => hx) NI4.out NG5.out))
 replace hv : Mem w _ ([(b_3, _), (b_1, _)] ++ ([] : LV)) R := hv
 try simp only [Act.put]
 refine Bny.wp_region_walk _ _ [⟨[1000], none⟩, ⟨[], none⟩, ⟨[], none⟩, ⟨[], none⟩, ⟨[], some 4⟩, ⟨[], none⟩, ⟨[], none⟩, ⟨[], none⟩, ⟨[1000], some 1000⟩] [.val, .val, .val, .val, .mem (HV1 f2 R hB3 hg4), .pure, .pure, .pure, .put, .pure] (by kernel_rfl) (by kernel_rfl) hv ?_
 simp only [List.length_cons, List.length_nil, Nat.zero_add, Any.someVals]
 iterate 10 apply Exists.intro
 repeat (first
   | (refine Bny.E_off rfl ?_; simp only [Act.put, sia, scs, scz])
   | ((with_reducible refine Bny.at_estore (T := 31) ?_); refine Bny.E_putv (T := 31) rfl rfl rfl rfl rfl rfl 19 infoT19 rfl rfl (by simp [Value.oneCell']) ?_; simp only [Act.put, sia, scs, scz])
   | ((with_reducible refine Bny.at_ecallf (f := 13) ?_); refine Bny.E_callmem rfl rfl rfl (Go.Proofs.enters_of Try.func13 (by kernel_rfl) rfl) rfl [.agg #[.int .i64 3, .int .i64 80, .int .u32 6, .int .i64 7, .int .u32 500, .int .u32 501, .int .u32 501, .slice da4 dn4 dk4, .int .i64 256, .bool false, .bool false, .int .u32 101, .slice ba4 bn4 bk4, .slice pa4 pn4 pk4, .bool false, .int .u64 0, .int .i64 4, .int .i64 0, .int .i64 0], .agg #[.int .i64 7, .int .i64 80, .int .u32 101, .int .u32 501, .int .i64 24, .int .i64 256, .slice sa5 sn5 sk5], .int .u64 12] rfl HSC.out R (fun x hx => .inl hx) (fun w0 w L R' hm hs => Take_VB3 hm hs NI4.out NG5.out) ?_; rintro v R6 ⟨da6, dn6, dk6, ba6, bn6, bk6, pa6, pn6, pk6, l6, ob6, k6, sa6, sn6, sk6, he, hr6, hi6, hg6, hs6⟩; obtain rfl : v = .tuple #[.agg #[.int .i64 3, .int .i64 80, .int .u32 6, .int .i64 7, .int .u32 500, .int .u32 501, .int .u32 501, .slice da6 dn6 dk6, .int .i64 256, .bool false, .bool false, .int .u32 106, .slice ba6 bn6 bk6, .slice pa6 pn6 pk6, .bool false, .int .u64 0, .int .i64 4, .int .i64 0, .int .i64 0], .slice (some ⟨ob6, 0, none⟩) 1 k6] := he; have HR6 := Lib.hid hr6; have HI6 := Lib.hid hi6; have HG6 := Lib.hid hg6; have HS6 := Lib.hid hs6; clear hr6 hi6 hg6 hs6; simp only [Act.put, sia, scs, scz])
   | (apply Bny.E_pureq rfl rfl rfl
      case h => intro K hK; go_big_quiet_op; (refine hK _ ?_; rfl)
      case hr => exact fun _ => rfl
      simp only [Act.put, sia, scs, scz])
   | (apply Bny.E_val rfl rfl rfl rfl
      case h =>
        intro E' hA K hK
        first
          | ((with_reducible refine Bny.at_qload (T := 31) ?_); refine Bny.q_ldv 1000 hA (by decide) rfl rfl 19 _ Try.underlying31 rfl infoT19 (by decide) rfl ?_; refine hK _ ?_; rfl)
          | ((with_reducible refine Bny.at_qload (T := 42) ?_); refine Bny.q_rdv (ks := []) (kk := 7) (b := ob5) (o := 0) (n := 1) (cap := k5) (c := encG (hg3, .slice sa5 sn5 sk5)) (Or.inl NR5.out) hA 0 rfl 7 _ Try.underlying42 rfl infoG7 (by decide) (#[.int .i64 7, .int .i64 80, .int .u32 101, .int .u32 501, .int .i64 24, .int .i64 256, .slice sa5 sn5 sk5]) rfl rfl ?_; refine hK _ ?_; rfl)
          | (go_big_quiet_op; first
            | (refine hK _ ?_; rfl)
            | (refine ⟨_, fun _ _ => rfl, ?_⟩; refine hK _ ?_; rfl)
            | (apply Exists.intro; refine ⟨fun w1 hw1 => ?_, ?_⟩; · (first
                | fail)
               refine hK _ ?_; rfl))
      case hD => rfl
      simp only [Act.put, sia, scs, scz]))
 try any_goals exact undef
 refine Bny.E_nil ?_
 intro w9 hE9
 replace hv : Mem w w9 ([(b_3, #[.int .i64 3, .int .i64 80, .int .u32 6, .int .i64 7, .int .u32 500, .int .u32 501, .int .u32 501, .slice da6 dn6 dk6, .int .i64 256, .bool false, .bool false, .int .u32 106, .slice ba6 bn6 bk6, .slice pa6 pn6 pk6, .bool false, .int .u64 0, .int .i64 4, .int .i64 0, .int .i64 0]), (b_1, #[.int .i64 3, .int .i64 7, .int .u32 5, .int .i64 80, .int .u32 100, .int .u32 101, .int .u32 106, .slice da5 dn5 dk5, .int .i64 256, .bool false, .bool false, .int .u32 501, .slice ba5 bn5 bk5, .slice pa5 pn5 pk5, .bool false, .int .u64 16, .int .i64 4, .int .i64 0, .int .i64 0])] ++ ([] : LV)) R6 := hE9.mem1 [1000, 1001] (by decide) 4 rfl
 clear hE9
 simp only [List.cons_append, List.nil_append] at hv
 clear HSC
 have QI5 := Lib.hid (NI5.out.mono HS6.out)
 have QR1 := Lib.hid (HS6.out _ NR1.out)
 have QR2 := Lib.hid (HS6.out _ NR2.out)
 have QR5 := Lib.hid (HS6.out _ NR5.out)
 have QG5 := Lib.hid (NG5.out.mono HS6.out)
 clear NI4 NI5 NG5 NR1 NR2 NR5 HS6
 go_wp2
 have HSC : Hid (∃ v R', HV0 f2 R6 hA4 v R') := Lib.hid (Bny.some_of (Take_VA4 hv (fun x hx => hx) QI5.out HG6.out))
 replace hv : Mem w _ ([(b_3, _), (b_1, _)] ++ ([] : LV)) R6 := hv
 try simp only [Act.put]
 refine Bny.wp_region_walk _ _ [⟨[1001], none⟩, ⟨[], none⟩, ⟨[], none⟩, ⟨[], none⟩, ⟨[], some 4⟩, ⟨[], none⟩, ⟨[], none⟩, ⟨[], none⟩, ⟨[1001], some 1001⟩] [.val, .val, .val, .val, .mem (HV0 f2 R6 hA4), .pure, .pure, .pure, .put] (by kernel_rfl) (by kernel_rfl) hv ?_
 simp only [List.length_cons, List.length_nil, Nat.zero_add, Any.someVals]
 iterate 9 apply Exists.intro
 repeat (first
   | (refine Bny.E_off rfl ?_; simp only [Act.put, sia, scs, scz])
   | ((with_reducible refine Bny.at_estore (T := 31) ?_); refine Bny.E_putv (T := 31) rfl rfl rfl rfl rfl rfl 19 infoT19 rfl rfl (by simp [Value.oneCell']) ?_; simp only [Act.put, sia, scs, scz])
   | ((with_reducible refine Bny.at_ecallf (f := 13) ?_); refine Bny.E_callmem rfl rfl rfl (Go.Proofs.enters_of Try.func13 (by kernel_rfl) rfl) rfl [.agg #[.int .i64 3, .int .i64 7, .int .u32 5, .int .i64 80, .int .u32 100, .int .u32 101, .int .u32 106, .slice da5 dn5 dk5, .int .i64 256, .bool false, .bool false, .int .u32 501, .slice ba5 bn5 bk5, .slice pa5 pn5 pk5, .bool false, .int .u64 16, .int .i64 4, .int .i64 0, .int .i64 0], .agg #[.int .i64 80, .int .i64 7, .int .u32 501, .int .u32 106, .int .i64 16, .int .i64 251, .slice sa6 sn6 sk6], .int .u64 12] rfl HSC.out R6 (fun x hx => .inl hx) (fun w0 w L R' hm hs => Take_VA4 hm hs QI5.out HG6.out) ?_; rintro v R7 ⟨da7, dn7, dk7, ba7, bn7, bk7, pa7, pn7, pk7, l7, oa7, k7, he, hi7, hs7⟩; obtain rfl : v = .tuple #[.agg #[.int .i64 3, .int .i64 7, .int .u32 5, .int .i64 80, .int .u32 100, .int .u32 106, .int .u32 106, .slice da7 dn7 dk7, .int .i64 251, .bool false, .bool false, .int .u32 501, .slice ba7 bn7 bk7, .slice pa7 pn7 pk7, .bool false, .int .u64 0, .int .i64 4, .int .i64 0, .int .i64 0], .slice oa7 0 k7] := he; have HI7 := Lib.hid hi7; have HS7 := Lib.hid hs7; clear hi7 hs7; simp only [Act.put, sia, scs, scz])
   | (apply Bny.E_pureq rfl rfl rfl
      case h => intro K hK; go_big_quiet_op; (refine hK _ ?_; rfl)
      case hr => exact fun _ => rfl
      simp only [Act.put, sia, scs, scz])
   | (apply Bny.E_val rfl rfl rfl rfl
      case h =>
        intro E' hA K hK
        first
          | ((with_reducible refine Bny.at_qload (T := 31) ?_); refine Bny.q_ldv 1001 hA (by decide) rfl rfl 19 _ Try.underlying31 rfl infoT19 (by decide) rfl ?_; refine hK _ ?_; rfl)
          | ((with_reducible refine Bny.at_qload (T := 42) ?_); refine Bny.q_rdv (ks := []) (kk := 7) (b := ob6) (o := 0) (n := 1) (cap := k6) (c := encG (hg4, .slice sa6 sn6 sk6)) (Or.inl HR6.out) hA 0 rfl 7 _ Try.underlying42 rfl infoG7 (by decide) (#[.int .i64 80, .int .i64 7, .int .u32 501, .int .u32 106, .int .i64 16, .int .i64 251, .slice sa6 sn6 sk6]) rfl rfl ?_; refine hK _ ?_; rfl)
          | (go_big_quiet_op; first
            | (refine hK _ ?_; rfl)
            | (refine ⟨_, fun _ _ => rfl, ?_⟩; refine hK _ ?_; rfl)
            | (apply Exists.intro; refine ⟨fun w1 hw1 => ?_, ?_⟩; · (first
                | fail)
               refine hK _ ?_; rfl))
      case hD => rfl
      simp only [Act.put, sia, scs, scz]))
 try any_goals exact undef
 refine Bny.E_nil ?_
 intro w9 hE9
 replace hv : Mem w w9 ([(b_3, #[.int .i64 3, .int .i64 80, .int .u32 6, .int .i64 7, .int .u32 500, .int .u32 501, .int .u32 501, .slice da6 dn6 dk6, .int .i64 256, .bool false, .bool false, .int .u32 106, .slice ba6 bn6 bk6, .slice pa6 pn6 pk6, .bool false, .int .u64 0, .int .i64 4, .int .i64 0, .int .i64 0]), (b_1, #[.int .i64 3, .int .i64 7, .int .u32 5, .int .i64 80, .int .u32 100, .int .u32 106, .int .u32 106, .slice da7 dn7 dk7, .int .i64 251, .bool false, .bool false, .int .u32 501, .slice ba7 bn7 bk7, .slice pa7 pn7 pk7, .bool false, .int .u64 0, .int .i64 4, .int .i64 0, .int .i64 0])] ++ ([] : LV)) R7 := hE9.mem1 [1000, 1001] (by decide) 4 rfl
 clear hE9
 simp only [List.cons_append, List.nil_append] at hv
 clear HSC
 have UI6 := Lib.hid (HI6.out.mono HS7.out)
 have UR1 := Lib.hid (HS7.out _ QR1.out)
 have UR2 := Lib.hid (HS7.out _ QR2.out)
 have UR5 := Lib.hid (HS7.out _ QR5.out)
 have UG5 := Lib.hid (QG5.out.mono HS7.out)
 have UD5 : Hid ((1, Value.slice sa5 sn5 sk5, cellsB hg3.data) ∈ R7) := Lib.hid UG5.out.d
 clear HI6 HG6 HR6 QI5 QR1 QR2 QR5 QG5 HS7
 obtain rfl : dn7 = 0 := by
   have h := len_rd1 (hv.rd HI7.out.d)
   exact h.symm
 have HCA : Hid (CkOK w (R7) #[.int .i64 3, .int .i64 7, .int .u32 5, .int .i64 80, .int .u32 100, .int .u32 106, .int .u32 106, .slice da7 0 dk7, .int .i64 251, .bool false, .bool false, .int .u32 501, .slice ba7 bn7 bk7, .slice pa7 pn7 pk7, .bool false, .int .u64 0, .int .i64 4, .int .i64 0, .int .i64 0]) := Lib.hid (fun w' L' R' hm hs => by have h := Check_ok hm (HI7.out.mono hs) ck_hA4; exact h)
 go_wp2_with (first
   | ((with_reducible refine gLe 31 89 ?_); refine ldV hv b_3 19 Try.underlying31 infoT19 ?_)
   | (go_at_call 14; (refine (Read_H hv UI6.out).mono ?_); rintro e w1 ⟨R8, da8, dn8, dk8, ba8, bn8, bk8, pa8, pn8, pk8, l8, ga8, gk8, oa8, ok8, he, hm1, hg1, hI1⟩; obtain rfl : e = .returned (.tuple #[.agg #[.int .i64 3, .int .i64 80, .int .u32 6, .int .i64 7, .int .u32 500, .int .u32 501, .int .u32 501, .slice da8 dn8 dk8, .int .i64 256, .bool false, .bool false, .int .u32 106, .slice ba8 bn8 bk8, .slice pa8 pn8 pk8, .bool false, .int .u64 0, .int .i64 4, .int .i64 0, .int .i64 0], .slice ga8 5 gk8, .slice oa8 0 ok8]) := he; clear hv; have hv := hm1; clear hm1; have HI8 := Lib.hid hI1; have HGT := Lib.hid hg1; have HCB : Hid (CkOK w (R8 ++ R7) #[.int .i64 3, .int .i64 80, .int .u32 6, .int .i64 7, .int .u32 500, .int .u32 501, .int .u32 501, .slice da8 dn8 dk8, .int .i64 256, .bool false, .bool false, .int .u32 106, .slice ba8 bn8 bk8, .slice pa8 pn8 pk8, .bool false, .int .u64 0, .int .i64 4, .int .i64 0, .int .i64 0]) := Lib.hid (fun w' L' R' hm hs => by have h := Check_ok hm (hI1.mono hs) ck_hB4; exact h); clear hI1 hg1)
   | ((with_reducible refine gSt 31 ?_); refine stV hv b_3 19 infoT19 ?_; clear hv; intro w2 hv)
   | ((with_reducible refine gLe 31 95 ?_); refine ldV hv b_1 19 Try.underlying31 infoT19 ?_)
   | (go_at_call 12; (refine (Close_H hv (HI7.out.mono fun x hx => List.mem_append_right _ hx)).mono ?_); rintro e w1 ⟨R9, da9, dn9, dk9, ba9, bn9, bk9, pa9, pn9, pk9, l9, ob9, k9, sa9, sn9, sk9, he, hm1, hI1, hG1⟩; obtain rfl : e = .returned (.tuple #[.agg #[.int .i64 4, .int .i64 7, .int .u32 5, .int .i64 80, .int .u32 100, .int .u32 106, .int .u32 107, .slice da9 dn9 dk9, .int .i64 251, .bool true, .bool true, .int .u32 501, .slice ba9 bn9 bk9, .slice pa9 pn9 pk9, .bool false, .int .u64 17, .int .i64 4, .int .i64 0, .int .i64 0], .slice (some ⟨ob9, 0, none⟩) 1 k9]) := he; clear hv; have hv := hm1; clear hm1; have HI9 := Lib.hid hI1; have HG9 := Lib.hid hG1; clear hI1 hG1)
   | ((with_reducible refine gAl 31 14 ?_); refine nwB hv #[.int .i64 0, .int .i64 0, .int .u32 0, .int .i64 0, .int .u32 0, .int .u32 0, .int .u32 0, .slice none 0 0, .int .i64 0, .bool false, .bool false, .int .u32 0, .slice none 0 0, .slice none 0 0, .bool false, .int .u64 0, .int .i64 0, .int .i64 0, .int .i64 0] 31 ?_; clear hv; intro b_14 w2 hv)
   | ((with_reducible refine gSt 31 ?_); refine stV hv b_14 19 infoT19 ?_; clear hv; intro w2 hv)
   | ((with_reducible refine at_build (T := 31) ?_); refine wl_build rfl _ rfl built_t0 ?_)
   | (go_at_call 11; (refine (Write_zero 1 _).mono ?_); rintro e w1 ⟨rfl, hn1⟩; replace hv := hv.new hn1; clear hn1)
   | ((with_reducible refine gAl 31 16 ?_); refine nwB hv #[.int .i64 0, .int .i64 0, .int .u32 0, .int .i64 0, .int .u32 0, .int .u32 0, .int .u32 0, .slice none 0 0, .int .i64 0, .bool false, .bool false, .int .u32 0, .slice none 0 0, .slice none 0 0, .bool false, .int .u64 0, .int .i64 0, .int .i64 0, .int .i64 0] 31 ?_; clear hv; intro b_16 w2 hv)
   | ((with_reducible refine gSt 31 ?_); refine stV hv b_16 19 infoT19 ?_; clear hv; intro w2 hv)
   | ((with_reducible refine at_load (T := 3) (dst := some 109) ?_); refine wl_rd rfl (b := ob1) (o := 0) (n := 1) (cap := k1) (hv.rd (k := 7) (c := encG (hg0, .slice sa1 sn1 sk1)) (Mem.s (List.mem_append_right _ (List.mem_append_right _ UR1.out)))) 4 rfl _ Try.underlying3 rfl (.int .i64 2) rfl ?_)
   | ((with_reducible refine at_load (T := 22) (dst := some 115) ?_); refine wl_rd rfl (b := ob1) (o := 0) (n := 1) (cap := k1) (hv.rd (k := 7) (c := encG (hg0, .slice sa1 sn1 sk1)) (Mem.s (List.mem_append_right _ (List.mem_append_right _ UR1.out)))) 2 rfl _ Try.underlying22 rfl (.int .u32 100) rfl ?_)
   | ((with_reducible refine at_load (T := 3) (dst := some 125) ?_); refine wl_rd rfl (b := ob2) (o := 0) (n := 1) (cap := k2) (hv.rd (k := 7) (c := encG (hg1, .slice sa2 sn2 sk2)) (Mem.s (List.mem_append_right _ (List.mem_append_right _ UR2.out)))) 4 rfl _ Try.underlying3 rfl (.int .i64 18) rfl ?_)
   | ((with_reducible refine at_load (T := 22) (dst := some 132) ?_); refine wl_rd rfl (b := ob2) (o := 0) (n := 1) (cap := k2) (hv.rd (k := 7) (c := encG (hg1, .slice sa2 sn2 sk2)) (Mem.s (List.mem_append_right _ (List.mem_append_right _ UR2.out)))) 3 rfl _ Try.underlying22 rfl (.int .u32 101) rfl ?_)
   | ((with_reducible refine gLe 3 137 ?_); refine ldC hv b_1 0 (.int .i64 3) Try.underlying3 ?_)
   | ((with_reducible refine gLe 3 142 ?_); refine ldC hv b_3 0 (.int .i64 3) Try.underlying3 ?_)
   | ((with_reducible refine at_load (T := 23) (dst := some 162) ?_); refine wl_rd rfl (b := ob5) (o := 0) (n := 1) (cap := k5) (hv.rd (k := 7) (c := encG (hg3, .slice sa5 sn5 sk5)) (Mem.s (List.mem_append_right _ (List.mem_append_right _ UR5.out)))) 6 rfl _ Try.underlying23 rfl (.slice sa5 sn5 sk5) rfl ?_)
   | ((with_reducible refine at_conv (dst := some 163) ?_); refine wl_str (l := [104, 101, 108, 108, 111]) (v := .slice sa5 sn5 sk5) rfl rfl Try.underlying23 Try.underlying5 Try.underlying9 (hv.rd (k := 1) (Mem.s (List.mem_append_right _ (List.mem_append_right _ UD5.out)))) (by unfold goodB; decide) (s := ⟨#[104, 101, 108, 108, 111]⟩) rfl ?_)
   | ((with_reducible refine at_load (T := 22) (dst := some 170) ?_); refine wl_rd rfl (b := ob5) (o := 0) (n := 1) (cap := k5) (hv.rd (k := 7) (c := encG (hg3, .slice sa5 sn5 sk5)) (Mem.s (List.mem_append_right _ (List.mem_append_right _ UR5.out)))) 2 rfl _ Try.underlying22 rfl (.int .u32 101) rfl ?_)
   | ((with_reducible refine gLe 22 175 ?_); refine ldC hv b_1 5 (.int .u32 106) Try.underlying22 ?_)
   | ((with_reducible refine gLe 23 180 ?_); refine ldC hv b_1 7 (.slice da7 0 dk7) Try.underlying23 ?_)
   | ((with_reducible refine gLe 28 186 ?_); refine ldC hv b_1 15 (.int .u64 0) Try.underlying28 ?_)
   | ((with_reducible refine at_conv (dst := some 191) ?_); refine wl_str (l := [104, 101, 108, 108, 111]) (v := .slice ga8 5 gk8) rfl rfl Try.underlying23 Try.underlying5 Try.underlying9 (hv.rd (k := 1) (Mem.s (List.mem_append_right _ HGT.out))) (by unfold goodB; decide) (s := ⟨#[104, 101, 108, 108, 111]⟩) rfl ?_)
   | ((with_reducible refine at_load (T := 3) (dst := some 203) ?_); refine wl_rd rfl (b := ob9) (o := 0) (n := 1) (cap := k9) (hv.rd (k := 7) (c := encG (hg5, .slice sa9 sn9 sk9)) Mem.z) 4 rfl _ Try.underlying3 rfl (.int .i64 17) rfl ?_)
   | ((with_reducible refine gLe 31 211 ?_); refine ldV hv b_1 19 Try.underlying31 infoT19 ?_)
   | (go_at_call 17; (first | (with_reducible refine (HCA.out.use hv (fun x hx => Mem.s (List.mem_append_right _ (List.mem_append_right _ hx)))).mono ?_) | (with_reducible refine (HCB.out.use hv (fun x hx => Mem.s (List.mem_append_right _ hx))).mono ?_)); rintro e w1 ⟨rfl, hn1⟩; replace hv := hv.new hn1; clear hn1)
   | ((with_reducible refine gLe 31 215 ?_); refine ldV hv b_3 19 Try.underlying31 infoT19 ?_))
 go_ret
 exact ⟨rfl, hv.below⟩
end Go.Proofs.Ythenepdbgeafkaa
end
