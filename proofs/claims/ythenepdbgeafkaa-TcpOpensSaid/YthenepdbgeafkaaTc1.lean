/-
 Connections (layer 26): small functions, and what sets a timer or a state.
-/
import Derived.Test.YthenepdbgeafkaaGAL
import Derived.Test.YthenepdbgeafkaaGAJ
import Derived.Test.YthenepdbgeafkaaGAI
import Derived.Lib.MinMax
set_option maxRecDepth 100000
set_option maxHeartbeats 8000000
set_option linter.unusedVariables false
set_option linter.unusedSimpArgs false
namespace Go.Proofs.Ythenepdbgeafkaa
open Go.Proofs.Wi Go.RowKit Go.Proofs Go.Proofs.Tp
variable {w0 w : World} {L : LV} {R : LR} {bc nw : Nat} {t : T} {out : List G}
theorem infoT19 : (Try.prog.info? 31).map (·.size) = some 19 := by kernel_rfl
theorem infoG7 : (Try.prog.info? 42).map (·.size) = some 7 := by kernel_rfl
theorem infoM7 : (Try.prog.info? 72).map (·.size) = some 7 := by kernel_rfl
theorem ext21 (a0 a1 a2 a3 a4 a5 a6 a7 a8 a9 a10 a11 a12 a13 a14 a15 a16 a17 a18 a19 a20 : Value) : #[a0, a1, a2, a3, a4, a5, a6, a7, a8, a9, a10, a11, a12, a13, a14, a15, a16, a17, a18, a19, a20].extract 0 (0 + 19) = #[a0, a1, a2, a3, a4, a5, a6, a7, a8, a9, a10, a11, a12, a13, a14, a15, a16, a17, a18] := by
 apply Array.ext'
 rw [Array.toList_extract]; rfl
theorem ext21s (a0 a1 a2 a3 a4 a5 a6 a7 a8 a9 a10 a11 a12 a13 a14 a15 a16 a17 a18 a19 a20 : Value) : #[a0, a1, a2, a3, a4, a5, a6, a7, a8, a9, a10, a11, a12, a13, a14, a15, a16, a17, a18, a19, a20].extract 11 (11 + 3) = #[a11, a12, a13] := by
 apply Array.ext'
 rw [Array.toList_extract]; rfl
theorem port_any (n : Int) (w : World) : Calls Try.prog 40 #[.int .i64 n] w fun e w' => e = .returned (.bool (decide (1 ≤ n ∧ n ≤ 65535))) ∧ New w w' := by
 have hv := Mem.nil w
 by_cases h1 : 1 ≤ n
 · by_cases h2 : n ≤ 65535
   · rw [decide_eq_true (And.intro h1 h2)]
     go_enter Try.func40, Try.ntmps40
     go_wp2
     go_ret
     exact ⟨rfl, hv.below⟩
   · rw [decide_eq_false (fun h => h2 h.2)]
     go_enter Try.func40, Try.ntmps40
     go_wp2
     go_ret
     exact ⟨rfl, hv.below⟩
 · rw [decide_eq_false (fun h => h1 h.1)]
   go_enter Try.func40, Try.ntmps40
   go_wp2
   go_ret
   exact ⟨rfl, hv.below⟩
theorem flight_v (a0 a1 a2 a3 a4 a7 a8 a9 a10 a11 a12 a13 a14 a15 a16 a17 a18 : Value) (nx una : Nat) (w : World) : Calls Try.prog 57 #[.agg #[a0, a1, a2, a3, a4, .int .u32 una, .int .u32 nx, a7, a8, a9, a10, a11, a12, a13, a14, a15, a16, a17, a18]] w fun e w' => e = .returned (.int .i64 (dif nx una)) ∧ New w w' := by
 have hv := Mem.nil w
 go_enter Try.func57, Try.ntmps57
 go_wp2_with (first
   | ((with_reducible refine gBx 31 1 ?_); refine nwB hv #[a0, a1, a2, a3, a4, .int .u32 una, .int .u32 nx, a7, a8, a9, a10, a11, a12, a13, a14, a15, a16, a17, a18] 31 ?_; clear hv; intro b_1 w2 hv)
   | ((with_reducible refine gLd 22 ?_); refine ldC hv b_1 6 (.int .u32 nx) Try.underlying22 ?_)
   | ((with_reducible refine gLd 22 ?_); refine ldC hv b_1 5 (.int .u32 una) Try.underlying22 ?_)
   | (go_at_call 68; (with_reducible refine (Diff_any _ _ _).mono ?_); rintro e w1 ⟨rfl, rfl⟩))
 go_ret
 exact ⟨rfl, hv.below⟩
def ownN (nx una : Nat) (se : Bool) : Int := if se = true ∧ 0 < dif nx una then dif nx una - 1 else dif nx una
theorem own_N (t : T) : own t = ownN t.nx t.una t.se := rfl
theorem flight_N (t : T) : flight t = dif t.nx t.una := rfl
theorem own_v1 (a0 a1 a2 a3 a4 a7 a8 a9 a11 a12 a13 a14 a15 a16 a17 a18 : Value) (nx una : Nat) (h : 0 < dif nx una) (w : World) : Calls Try.prog 56 #[.agg #[a0, a1, a2, a3, a4, .int .u32 una, .int .u32 nx, a7, a8, a9, .bool true, a11, a12, a13, a14, a15, a16, a17, a18]] w fun e w' => e = .returned (.int .i64 (ownN nx una true)) ∧ New w w' := by
 have hv := Mem.nil w
 have q : IntKind.i64.wrap (dif nx una - 1) = dif nx una - 1 := IntWalk.i64_in _ (by have := dif_lo nx una; have := dif_hi nx una; omega)
 have e : ownN nx una true = dif nx una - 1 := by unfold ownN; rw [if_pos ⟨rfl, h⟩]
 rw [e]
 clear e
 go_enter Try.func56, Try.ntmps56
 go_wp2_with (first
   | ((with_reducible refine gBx 31 1 ?_); refine nwB hv #[a0, a1, a2, a3, a4, .int .u32 una, .int .u32 nx, a7, a8, a9, .bool true, a11, a12, a13, a14, a15, a16, a17, a18] 31 ?_; clear hv; intro b_1 w2 hv)
   | ((with_reducible refine gLd 31 ?_); refine ldV hv b_1 19 Try.underlying31 infoT19 ?_)
   | ((with_reducible refine gLd 4 ?_); refine ldC hv b_1 10 (.bool true) Try.underlying4 ?_)
   | (go_at_call 57; (with_reducible refine (flight_v _ _ _ _ _ _ _ _ _ _ _ _ _ _ _ _ _ _ _ _).mono ?_); rintro e w1 ⟨rfl, hn1⟩; replace hv := hv.new hn1; clear hn1))
 go_ret
 exact ⟨rfl, hv.below⟩
theorem own_v2 (a0 a1 a2 a3 a4 a7 a8 a9 a11 a12 a13 a14 a15 a16 a17 a18 : Value) (nx una : Nat) (h : ¬ 0 < dif nx una) (w : World) : Calls Try.prog 56 #[.agg #[a0, a1, a2, a3, a4, .int .u32 una, .int .u32 nx, a7, a8, a9, .bool true, a11, a12, a13, a14, a15, a16, a17, a18]] w fun e w' => e = .returned (.int .i64 (ownN nx una true)) ∧ New w w' := by
 have hv := Mem.nil w
 have q : IntKind.i64.wrap (dif nx una - 1) = dif nx una - 1 := IntWalk.i64_in _ (by have := dif_lo nx una; have := dif_hi nx una; omega)
 have e : ownN nx una true = dif nx una := by unfold ownN; rw [if_neg (fun x => h x.2)]
 rw [e]
 clear e
 go_enter Try.func56, Try.ntmps56
 go_wp2_with (first
   | ((with_reducible refine gBx 31 1 ?_); refine nwB hv #[a0, a1, a2, a3, a4, .int .u32 una, .int .u32 nx, a7, a8, a9, .bool true, a11, a12, a13, a14, a15, a16, a17, a18] 31 ?_; clear hv; intro b_1 w2 hv)
   | ((with_reducible refine gLd 31 ?_); refine ldV hv b_1 19 Try.underlying31 infoT19 ?_)
   | ((with_reducible refine gLd 4 ?_); refine ldC hv b_1 10 (.bool true) Try.underlying4 ?_)
   | (go_at_call 57; (with_reducible refine (flight_v _ _ _ _ _ _ _ _ _ _ _ _ _ _ _ _ _ _ _ _).mono ?_); rintro e w1 ⟨rfl, hn1⟩; replace hv := hv.new hn1; clear hn1))
 go_ret
 exact ⟨rfl, hv.below⟩
theorem own_v3 (a0 a1 a2 a3 a4 a7 a8 a9 a11 a12 a13 a14 a15 a16 a17 a18 : Value) (nx una : Nat) (w : World) : Calls Try.prog 56 #[.agg #[a0, a1, a2, a3, a4, .int .u32 una, .int .u32 nx, a7, a8, a9, .bool false, a11, a12, a13, a14, a15, a16, a17, a18]] w fun e w' => e = .returned (.int .i64 (ownN nx una false)) ∧ New w w' := by
 have hv := Mem.nil w
 have q : IntKind.i64.wrap (dif nx una - 1) = dif nx una - 1 := IntWalk.i64_in _ (by have := dif_lo nx una; have := dif_hi nx una; omega)
 have e : ownN nx una false = dif nx una := by unfold ownN; rw [if_neg (fun x => by cases x.1)]
 rw [e]
 clear e
 go_enter Try.func56, Try.ntmps56
 go_wp2_with (first
   | ((with_reducible refine gBx 31 1 ?_); refine nwB hv #[a0, a1, a2, a3, a4, .int .u32 una, .int .u32 nx, a7, a8, a9, .bool false, a11, a12, a13, a14, a15, a16, a17, a18] 31 ?_; clear hv; intro b_1 w2 hv)
   | ((with_reducible refine gLd 31 ?_); refine ldV hv b_1 19 Try.underlying31 infoT19 ?_)
   | ((with_reducible refine gLd 4 ?_); refine ldC hv b_1 10 (.bool false) Try.underlying4 ?_)
   | (go_at_call 57; (with_reducible refine (flight_v _ _ _ _ _ _ _ _ _ _ _ _ _ _ _ _ _ _ _ _).mono ?_); rintro e w1 ⟨rfl, hn1⟩; replace hv := hv.new hn1; clear hn1))
 go_ret
 exact ⟨rfl, hv.below⟩
theorem own_v (a0 a1 a2 a3 a4 a7 a8 a9 a11 a12 a13 a14 a15 a16 a17 a18 : Value) (nx una : Nat) (se : Bool) (w : World) : Calls Try.prog 56 #[.agg #[a0, a1, a2, a3, a4, .int .u32 una, .int .u32 nx, a7, a8, a9, .bool se, a11, a12, a13, a14, a15, a16, a17, a18]] w fun e w' => e = .returned (.int .i64 (ownN nx una se)) ∧ New w w' := by
 cases se with
 | false => exact own_v3 _ _ _ _ _ _ _ _ _ _ _ _ _ _ _ _ _ _ w
 | true =>
   by_cases h : 0 < dif nx una
   · exact own_v1 _ _ _ _ _ _ _ _ _ _ _ _ _ _ _ _ _ _ h w
   · exact own_v2 _ _ _ _ _ _ _ _ _ _ _ _ _ _ _ _ _ _ h w
theorem open_any (s : Nat) (w : World) : Calls Try.prog 38 #[.int .i64 s] w fun e w' => e = .returned (.bool (s == 3 || s == 4 || s == 5)) ∧ New w w' := by
 have hv := Mem.nil w
 by_cases h3 : s = 3
 · subst h3
   go_enter Try.func38, Try.ntmps38
   go_wp2
   go_ret
   exact ⟨rfl, hv.below⟩
 · by_cases h4 : s = 4
   · subst h4
     go_enter Try.func38, Try.ntmps38
     go_wp2
     go_ret
     exact ⟨rfl, hv.below⟩
   · by_cases h5 : s = 5
     · subst h5
       go_enter Try.func38, Try.ntmps38
       go_wp2
       go_ret
       exact ⟨rfl, hv.below⟩
     · have e : (s == 3 || s == 4 || s == 5) = false := by simp [h3, h4, h5]
       rw [e]
       have y3 : ((s : Int) == 3) = false := by simp; omega
       have y4 : ((s : Int) == 4) = false := by simp; omega
       have y5 : ((s : Int) == 5) = false := by simp; omega
       clear e h3 h4 h5
       go_enter Try.func38, Try.ntmps38
       go_wp2
       go_ret
       exact ⟨rfl, hv.below⟩
theorem wait_C (hc : CM w0 w bc L R nw ⟨t, out⟩) {n : Nat} (hn : n ≤ 64) : Calls Try.prog 46 #[.pointer (some ⟨bc, 0, none⟩), .int .i64 n] w (CMP w0 bc L R nw (.tuple #[]) (wait nw n ⟨t, out⟩)) := by
 obtain ⟨da, dn, dk, ba, bn, bk, pa, pn, pk, l, ov, gs, O, hv, HI, HO⟩ := hc.get
 clear hc
 obtain ⟨m1, hm1⟩ : ∃ m1, min nw 1099511627776 = m1 := ⟨_, rfl⟩
 obtain ⟨s1, hs1⟩ : ∃ s1, m1 + n = s1 := ⟨_, rfl⟩
 obtain ⟨lt, hlt⟩ : ∃ lt, later nw n = lt := ⟨_, rfl⟩
 have q1 : min (nw : Int) 1099511627776 = (m1 : Int) := by omega
 have q2 : IntKind.u64.wrap (n : Int) = (n : Int) := IntWalk.u64_in _ (by omega)
 have q3 : IntKind.u64.wrap ((m1 : Int) + (n : Int)) = (s1 : Int) := by rw [IntWalk.u64_in _ (by omega)]; omega
 have q4 : min (s1 : Int) 1099511627776 = (lt : Int) := by unfold later at hlt; omega
 have hW : wait nw n ⟨t, out⟩ = ⟨{ t with tm := lt }, out⟩ := by unfold wait; rw [hlt]
 rw [hW]
 clear hn hm1 hs1 hlt hW
 go_enter Try.func46, Try.ntmps46
 go_wp2_with (first
   | ((with_reducible refine gLd 28 ?_); refine ldC hv bc 19 (.int .u64 nw) Try.underlying28 ?_)
   | ((with_reducible refine gSt 28 ?_); refine stC hv bc 15 (.int .u64 lt) ?_; clear hv; intro w2 hv))
 go_end0
 exact CMP.mk0 (CM.of (A := []) (c := ⟨{ t with tm := lt }, out⟩) (hv.keep (by exact List.sublist_append_right [] _)) ⟨HI.out.d, HI.out.s, HI.out.ck, ⟨HI.out.u.una, HI.out.u.nx, HI.out.u.iss, HI.out.u.inn, HI.out.u.ip⟩⟩ HO.out)
theorem fresh_C (hc : CM w0 w bc L R nw ⟨t, out⟩) : Calls Try.prog 59 #[.pointer (some ⟨bc, 0, none⟩)] w (CMP w0 bc L R nw (.tuple #[]) (fresh ⟨t, out⟩)) := by
 obtain ⟨da, dn, dk, ba, bn, bk, pa, pn, pk, l, ov, gs, O, hv, HI, HO⟩ := hc.get
 clear hc
 go_enter Try.func59, Try.ntmps59
 go_wp2_with (first
   | ((with_reducible refine gSt 3 ?_); refine stC hv bc 16 (.int .i64 4) ?_; clear hv; intro w2 hv)
   | ((with_reducible refine gSt 3 ?_); refine stC hv bc 17 (.int .i64 0) ?_; clear hv; intro w2 hv)
   | ((with_reducible refine gSt 28 ?_); refine stC hv bc 15 (.int .u64 0) ?_; clear hv; intro w2 hv))
 go_end0
 exact CMP.mk0 (CM.of (A := []) (c := fresh ⟨t, out⟩) (hv.keep (by exact List.sublist_append_right [] _)) ⟨HI.out.d, HI.out.s, HI.out.ck, ⟨HI.out.u.una, HI.out.u.nx, HI.out.u.iss, HI.out.u.inn, HI.out.u.ip⟩⟩ HO.out)
theorem over_C (hc : CM w0 w bc L R nw ⟨t, out⟩) {e : Nat} : Calls Try.prog 30 #[.pointer (some ⟨bc, 0, none⟩), .int .i64 e] w (CMP w0 bc L R nw (.tuple #[]) (over e ⟨t, out⟩)) := by
 obtain ⟨da, dn, dk, ba, bn, bk, pa, pn, pk, l, ov, gs, O, hv, HI, HO⟩ := hc.get
 clear hc
 go_enter Try.func30, Try.ntmps30
 go_wp2_with (first
   | ((with_reducible refine gSt 3 ?_); refine stC hv bc 0 (.int .i64 0) ?_; clear hv; intro w2 hv)
   | ((with_reducible refine gSt 28 ?_); refine stC hv bc 15 (.int .u64 0) ?_; clear hv; intro w2 hv)
   | ((with_reducible refine gSt 29 ?_); refine stC hv bc 18 (.int .i64 e) ?_; clear hv; intro w2 hv))
 go_end0
 exact CMP.mk0 (CM.of (A := []) (c := over e ⟨t, out⟩) (hv.keep (by exact List.sublist_append_right [] _)) ⟨HI.out.d, HI.out.s, HI.out.ck, ⟨HI.out.u.una, HI.out.u.nx, HI.out.u.iss, HI.out.u.inn, HI.out.u.ip⟩⟩ HO.out)
theorem wait_32 (hc : CM w0 w bc L R nw ⟨t, out⟩) : Calls Try.prog 46 #[.pointer (some ⟨bc, 0, none⟩), .int .i64 32] w (CMP w0 bc L R nw (.tuple #[]) (wait nw 32 ⟨t, out⟩)) := wait_C hc (n := 32) (by decide)
theorem wait_4 (hc : CM w0 w bc L R nw ⟨t, out⟩) : Calls Try.prog 46 #[.pointer (some ⟨bc, 0, none⟩), .int .i64 4] w (CMP w0 bc L R nw (.tuple #[]) (wait nw 4 ⟨t, out⟩)) := wait_C hc (n := 4) (by decide)
theorem over_260 (hc : CM w0 w bc L R nw ⟨t, out⟩) : Calls Try.prog 30 #[.pointer (some ⟨bc, 0, none⟩), .int .i64 260] w (CMP w0 bc L R nw (.tuple #[]) (over 260 ⟨t, out⟩)) := over_C hc (e := 260)
theorem rest_C (hc : CM w0 w bc L R nw ⟨t, out⟩) : Calls Try.prog 77 #[.pointer (some ⟨bc, 0, none⟩)] w (CMP w0 bc L R nw (.tuple #[]) (rest nw ⟨t, out⟩)) := by
 obtain ⟨da, dn, dk, ba, bn, bk, pa, pn, pk, l, ov, gs, O, hv, HI, HO⟩ := hc.get
 clear hc
 go_enter Try.func77, Try.ntmps77
 go_wp2_with (first
   | ((with_reducible refine gSt 3 ?_); refine stC hv bc 0 (.int .i64 9) ?_; clear hv; intro w2 hv)
   | (go_at_call 46; (refine (wait_32 (CM.of (A := []) (c := ⟨{ t with st := 9 }, out⟩) hv ⟨HI.out.d, HI.out.s, HI.out.ck, ⟨HI.out.u.una, HI.out.u.nx, HI.out.u.iss, HI.out.u.inn, HI.out.u.ip⟩⟩ HO.out)).mono ?_); rintro e w1 ⟨R1, rfl, hc1⟩; obtain ⟨da1, dn1, dk1, ba1, bn1, bk1, pa1, pn1, pk1, l1, ov1, gs1, O1, hv1, hI1, hO1⟩ := CM.back (A := []) hc1; clear hv hc1; have hv : Mem w0 _ ([] ++ (bc, #[.int .i64 9, .int .i64 t.lo, .int .u32 t.ip, .int .i64 t.po, .int .u32 t.iss, .int .u32 t.una, .int .u32 t.nx, .slice da1 dn1 dk1, .int .i64 t.wnd, .bool t.en, .bool t.se, .int .u32 t.inn.next, .slice ba1 bn1 bk1, .slice pa1 pn1 pk1, .bool t.ed, .int .u64 (later nw 32 : Nat), .int .i64 t.rto, .int .i64 t.tr, .int .i64 t.er, .int .u64 nw, ov1]) :: (O1 ++ L)) _ := hv1; clear hv1; have HI1 := Lib.hid hI1; have HO1 := Lib.hid hO1; clear hI1 hO1; simp only [List.cons_append, List.nil_append] at hv))
 go_end0
 exact ⟨R1, rfl, CM.of (A := []) (c := rest nw ⟨t, out⟩) (hv.keep (by exact List.sublist_append_right [] _)) HI1.out HO1.out⟩
end Go.Proofs.Ythenepdbgeafkaa
