/-
  The wheel's calls over what a caller holds; the walk of the laws' own head.
-/
import Derived.Test.YtfblognifnnadaaWhSame
set_option linter.unusedVariables false
set_option linter.unusedSimpArgs false
namespace Go.Proofs.Wh
open Go Go.RowKit
def SH0 : List (List Tm) := List.replicate 8 []
def SH1 : List (List Tm) := [[], [], [], [], [], [(5, 3)], [], []]
def SH2 : List (List Tm) := [[], [], [], [], [], [(5, 3), (13, 4)], [], []]
def SH3 : List (List Tm) := [[], [], [], [], [], [(13, 4)], [], []]
def nilW : List Value := List.replicate 8 (.slice none 0 0)
theorem inW_nil (R : List (Nat × Value × List Value)) : InW ((2, .slice none 0 0, []) :: R) nilW SH0 := by
  refine ⟨rfl, rfl, fun i v l h1 h2 => ?_⟩
  have e1 := List.mem_of_getElem? h1
  have e2 := List.mem_of_getElem? h2
  unfold nilW at e1
  unfold SH0 at e2
  rw [List.mem_replicate] at e1 e2
  obtain rfl := e1.2
  obtain rfl := e2.2
  exact List.mem_cons_self ..
/-- Short slots, IDs that are Go's. -/
def OkS (S : List (List Tm)) : Prop := (∀ l ∈ S, ∀ t ∈ l, (Lit.int .i64 t.2).wf = true) ∧ ∀ l ∈ S, l.length ≤ 1000
instance (S : List (List Tm)) : Decidable (OkS S) := by unfold OkS; infer_instance
theorem WheelR.mem {now : Nat} {S' : List (List Tm)} {R R' : List (Nat × Value × List Value)} {w0 w w' : World} {L : List (Nat × Array Value)} {sv' : List Value} (h : WheelR now S' R w w' sv' R') (hv : Mem w0 w L R) : Mem w0 w' L (R' ++ R) ∧ InW (R' ++ R) sv' S' ∧ ∀ x ∈ R, x ∈ R' ++ R :=
  ⟨hv.lift h.1 fun x hx => ⟨h.2.1 x hx, h.2.2.1 x hx⟩, h.2.2.2, fun x hx => List.mem_append_right _ hx⟩
theorem slice_at {w0 w : World} {L : List (Nat × Array Value)} {R : List (Nat × Value × List Value)} {sv : List Value} {S : List (List Tm)} (hv : Mem w0 w L R) (hi : InW R sv S) {i : Nat} (h8 : i < 8) {l : List Tm} (hl : S[i]? = some l) {n : Nat} (hn : l.length = n) : ∃ a c, sv[i]? = some (.slice a n c) := by
  have h1 : i < sv.length := by rw [hi.1]; exact h8
  have hm := hi.2.2 i sv[i] l (List.getElem?_eq_getElem h1) hl
  obtain ⟨a, m, c, e, _⟩ := id (hv.rd hm)
  rw [e] at hm
  have := len_rdT (hv.rd hm)
  obtain rfl : m = n := by omega
  exact ⟨a, c, by rw [List.getElem?_eq_getElem h1, e]⟩
end Go.Proofs.Wh
namespace Go.Proofs.Ytfblognifnnadaa
open Go.Proofs.Wh Go.RowKit Go.Proofs
theorem Add_M {w0 w : World} {L : List (Nat × Array Value)} {R : List (Nat × Value × List Value)} {now : Nat} {sv : List Value} {S : List (List Tm)} (hv : Mem w0 w L R) (hi : InW R sv S) (hok : OkS S) (hc : chkW now S = true) {idi tmi : Int} (tm j : Nat) (ht : tmi = (tm : Nat)) (h1 : now < tm) (h2 : tm ≤ 1099511627776) (hj : tm % 8 = j) (l : List Tm) (hl : S[j]? = some l) (hlt : ∀ t ∈ l.filter (fun t => !(t.2 == idi)), cmpT t (tm, idi) < 0) (hn : (S.map (fun l : List Tm => l.filter fun t => !(t.2 == idi))).flatten.length < 32)
    {S' : List (List Tm)} (hS : (S.map (fun l : List Tm => l.filter fun t => !(t.2 == idi))).set j (l.filter (fun t => !(t.2 == idi)) ++ [(tm, idi)]) = S') : Calls Try.prog 23 #[.agg (rowW now sv), .int .i64 idi, .int .u64 tmi] w fun e w' => ∃ sv' R', e = .returned (.tuple #[.agg (rowW now sv'), .int .i64 0]) ∧ Mem w0 w' L R' ∧ InW R' sv' S' ∧ ∀ x ∈ R, x ∈ R' := by
  subst ht hS
  refine (Add_end now tm j idi sv S hok.1 hok.2 w R (fun x hx => (hv.rds x hx).1) hi hc h1 h2 hj l hl hlt hn).mono ?_
  rintro e w' ⟨sv', R', rfl, h⟩
  obtain ⟨g1, g2, g3⟩ := h.mem hv
  exact ⟨sv', R' ++ R, rfl, g1, g2, g3⟩
theorem Adv_M {w0 w : World} {L : List (Nat × Array Value)} {R : List (Nat × Value × List Value)} {now : Nat} {sv : List Value} {S : List (List Tm)} (hv : Mem w0 w L R) (hi : InW R sv S) (hok : OkS S) {nwi : Int} (nw : Nat) (ht : nwi = (nw : Nat)) (hb : advB now nw S = true) {S' : List (List Tm)} (hS : (S.map fun l => l.filter fun t => !decide (t.1 ≤ nw)) = S') (x : Tm) (hx : cameF nw S.flatten = [x]) :
    Calls Try.prog 10 #[.agg (rowW now sv), .int .u64 nwi] w fun e w' => ∃ sv' v R', e = .returned (.tuple #[.agg (rowW nw sv'), v]) ∧ Mem w0 w' L R' ∧ InW R' sv' S' ∧ (1, v, [Value.int .i64 x.2]) ∈ R' ∧ ∀ x ∈ R, x ∈ R' := by
  subst ht hS
  refine (Advance_yes now nw sv S hok.1 hok.2 w R (fun x hx => (hv.rds x hx).1) hi hb).mono ?_
  rintro e w' ⟨sv', R', v, cs, rfl, g1, g2, g3, g4, g5, g6, _⟩
  rw [hx] at g6
  obtain rfl := List.perm_singleton.1 g6
  exact ⟨sv', v, R' ++ R, rfl, hv.lift g1 fun x hx => ⟨g2 x hx, g3 x hx⟩, g4, List.mem_append_left _ g5, fun x hx => List.mem_append_right _ hx⟩
theorem Cancel_M {w0 w : World} {L : List (Nat × Array Value)} {R : List (Nat × Value × List Value)} {now : Nat} {sv : List Value} {S : List (List Tm)} (hv : Mem w0 w L R) (hi : InW R sv S) (hok : OkS S) (hc : chkW now S = true) (id : Int) {S' : List (List Tm)} (hS : (S.map fun l => l.filter fun t => !(t.2 == id)) = S') :
    Calls Try.prog 24 #[.agg (rowW now sv), .int .i64 id] w fun e w' => ∃ sv' R', e = .returned (.agg (rowW now sv')) ∧ Mem w0 w' L R' ∧ InW R' sv' S' ∧ ∀ x ∈ R, x ∈ R' := by
  subst hS
  refine (Cancel_any now id sv S hok.1 hok.2 w R (fun x hx => (hv.rds x hx).1) hi hc).mono ?_
  rintro e w' ⟨sv', R', rfl, h⟩
  obtain ⟨g1, g2, g3⟩ := h.mem hv
  exact ⟨sv', R' ++ R, rfl, g1, g2, g3⟩
theorem Next_M {w0 w : World} {L : List (Nat × Array Value)} {R : List (Nat × Value × List Value)} {now : Nat} {sv : List Value} {S : List (List Tm)} (hv : Mem w0 w L R) (hi : InW R sv S) (hok : OkS S) {o : Option Nat} (ho : nextV now S = o) {n : Int} {b : Bool} (hn : n = (o.getD 0 : Nat)) (hb : o.isSome = b) : Calls Try.prog 9 #[.agg (rowW now sv)] w fun e w' => e = .returned (.tuple #[.int .u64 n, .bool b]) ∧ New w w' := by
  subst ho hn hb
  exact Next_any now sv S hok.1 hok.2 w R (fun x hx => (hv.rds x hx).1) hi
theorem Check_M {w0 w : World} {L : List (Nat × Array Value)} {R : List (Nat × Value × List Value)} {now : Nat} {sv : List Value} {S : List (List Tm)} (hv : Mem w0 w L R) (hi : InW R sv S) (hok : OkS S) {b : Bool} (hb : chkW now S = b) : Calls Try.prog 13 #[.agg (rowW now sv)] w fun e w' => e = .returned (.bool b) ∧ New w w' := by
  subst hb
  exact Check_any now sv S hok.1 hok.2 w R (fun x hx => (hv.rds x hx).1) hi
theorem Arg_M {w0 w : World} {L : List (Nat × Array Value)} {R : List (Nat × Value × List Value)} {now : Nat} {sv : List Value} {S : List (List Tm)} (hv : Mem w0 w L R) (hi : InW R sv S) (hok : OkS S) (hc : chkW now S = true) {id tmi : Int} (tm : Nat) (ht : tmi = (tm : Nat)) (h1 : tm ≤ now) : Calls Try.prog 23 #[.agg (rowW now sv), .int .i64 id, .int .u64 tmi] w fun e w' => e = .returned (.tuple #[.agg (rowW now sv), .int .i64 2]) ∧ New w w' := by
  subst ht
  exact Add_arg now tm id sv S hok.1 hok.2 w R (fun x hx => (hv.rds x hx).1) hi hc h1
theorem Ints_1 {w0 w : World} {L : List (Nat × Array Value)} {R : List (Nat × Value × List Value)} {u v : Value} {x : Int} (hv : Mem w0 w L R) (h1 : (1, u, [Value.int .i64 x]) ∈ R) (h2 : (1, v, [Value.int .i64 x]) ∈ R) : Calls Try.prog 11 #[u, v] w fun e w' => e = .returned (.bool true) ∧ New w w' := Ints_alike u v [x] (by simp) w (hv.rd h1) (hv.rd h2)
theorem ckS0 : chkW 0 SH0 = true := by decide +kernel
theorem ckS1 : chkW 0 SH1 = true := by decide +kernel
theorem ckS2 : chkW 0 SH2 = true := by decide +kernel
theorem ckS4 : chkW 13 SH0 = true := by decide +kernel
theorem okS0 : OkS SH0 := by decide +kernel
theorem okS1 : OkS SH1 := by decide +kernel
theorem okS2 : OkS SH2 := by decide +kernel
theorem okS3 : OkS SH3 := by decide +kernel
theorem nxS2 : nextV 0 SH2 = some 5 := by decide +kernel
theorem nxS0 : nextV 0 SH0 = none := by decide +kernel
theorem avS2 : advB 0 6 SH2 = true := by decide +kernel
theorem avS3 : advB 6 13 SH3 = true := by decide +kernel
theorem built_wh : Try.prog.built 26 [] = some (rowW 0 nilW) := by kernel_rfl
set_option maxRecDepth 100000 in
set_option maxHeartbeats 4000000 in
theorem heads16 (w0 : World) : Calls Try.prog 8 #[] w0 fun e w' => e = .returned (.bool true) ∧ New w0 w' := by
  have hv := (Mem.nil w0).old (Rd.nil w0 2)
  have HI0 := Lib.hid (inW_nil [])
  go_enter Try.func8, Try.ntmps8
  go_wp2_with (first
    | ((with_reducible refine at_build ?_); refine wl_build rfl [] rfl built_wh ?_)
    | (go_at_call 23; (with_reducible refine (Add_M hv HI0.out okS0 (now := 0) ckS0 (idi := 3) (tmi := 5) 5 5 rfl (by decide) (by decide) (by decide) [] rfl (by decide) (by decide) (S' := SH1) (by decide +kernel)).mono ?_); rintro e w1 ⟨sv1, R1, rfl, hv1, hi1, hs⟩; replace hv := hv1; have HI1 := Lib.hid hi1; replace HI0 := Lib.hid (HI0.out.mono hs); clear hv1 hi1 hs)
    | ((with_reducible refine at_alloc (T := 26) (dst := some 1) ?_); refine wl_newb rfl (rowW 0 nilW) 26 (fun _ => rfl) ?_; intro b1 w2 hm2; replace hv := hv.madeAt hm2; clear hm2)
    | ((with_reducible refine at_store (T := 26) ?_); refine wl_stv rfl b1 rfl _ rfl _ (hv.vars.row (by first | exact .head _ | exact .tail _ (.head _) | exact .tail _ (.tail _ (.head _)) | exact .tail _ (.tail _ (.tail _ (.head _))) | exact .tail _ (.tail _ (.tail _ (.tail _ (.head _)))) | exact .tail _ (.tail _ (.tail _ (.tail _ (.tail _ (.head _))))) | exact .tail _ (.tail _ (.tail _ (.tail _ (.tail _ (.tail _ (.head _)))))) | exact .tail _ (.tail _ (.tail _ (.tail _ (.tail _ (.tail _ (.tail _ (.head _))))))))) (hv.vars.sft (by first | exact .head _ | exact .tail _ (.head _) | exact .tail _ (.tail _ (.head _)) | exact .tail _ (.tail _ (.tail _ (.head _))) | exact .tail _ (.tail _ (.tail _ (.tail _ (.head _)))) | exact .tail _ (.tail _ (.tail _ (.tail _ (.tail _ (.head _))))) | exact .tail _ (.tail _ (.tail _ (.tail _ (.tail _ (.tail _ (.head _)))))) | exact .tail _ (.tail _ (.tail _ (.tail _ (.tail _ (.tail _ (.tail _ (.head _))))))))) 9 infoWh (rowW_size HI1.out.1) rfl (rowW_one (now := 0) hv HI1.out) ?_; intro w2 hw2; (first | (replace hv := hv.set 0 rfl hw2) | (replace hv := hv.set 1 rfl hw2) | (replace hv := hv.set 2 rfl hw2) | (replace hv := hv.set 3 rfl hw2)); clear hw2; simp only [List.set] at hv)
    | ((with_reducible refine at_load (T := 26) ?_); refine wl_ldv rfl b1 rfl _ (hv.vars.row (by first | exact .head _ | exact .tail _ (.head _) | exact .tail _ (.tail _ (.head _)) | exact .tail _ (.tail _ (.tail _ (.head _))) | exact .tail _ (.tail _ (.tail _ (.tail _ (.head _)))) | exact .tail _ (.tail _ (.tail _ (.tail _ (.tail _ (.head _))))) | exact .tail _ (.tail _ (.tail _ (.tail _ (.tail _ (.tail _ (.head _)))))) | exact .tail _ (.tail _ (.tail _ (.tail _ (.tail _ (.tail _ (.tail _ (.head _))))))))) 9 _ Try.underlying26 rfl infoWh (by decide) (rowW_size HI1.out.1) ?_)
    | (go_at_call 23; (with_reducible refine (Add_M hv HI1.out okS1 (now := 0) ckS1 (idi := 4) (tmi := 13) 13 5 rfl (by decide) (by decide) (by decide) [(5, 3)] rfl (by decide) (by decide) (S' := SH2) (by decide +kernel)).mono ?_); rintro e w1 ⟨sv3, R3, rfl, hv1, hi1, hs⟩; replace hv := hv1; have HI3 := Lib.hid hi1; replace HI1 := Lib.hid (HI1.out.mono hs); clear hv1 hi1 hs)
    | ((with_reducible refine at_alloc (T := 26) (dst := some 3) ?_); refine wl_newb rfl (rowW 0 nilW) 26 (fun _ => rfl) ?_; intro b3 w2 hm2; replace hv := hv.madeAt hm2; clear hm2)
    | ((with_reducible refine at_store (T := 26) ?_); refine wl_stv rfl b3 rfl _ rfl _ (hv.vars.row (by first | exact .head _ | exact .tail _ (.head _) | exact .tail _ (.tail _ (.head _)) | exact .tail _ (.tail _ (.tail _ (.head _))) | exact .tail _ (.tail _ (.tail _ (.tail _ (.head _)))) | exact .tail _ (.tail _ (.tail _ (.tail _ (.tail _ (.head _))))) | exact .tail _ (.tail _ (.tail _ (.tail _ (.tail _ (.tail _ (.head _)))))) | exact .tail _ (.tail _ (.tail _ (.tail _ (.tail _ (.tail _ (.tail _ (.head _))))))))) (hv.vars.sft (by first | exact .head _ | exact .tail _ (.head _) | exact .tail _ (.tail _ (.head _)) | exact .tail _ (.tail _ (.tail _ (.head _))) | exact .tail _ (.tail _ (.tail _ (.tail _ (.head _)))) | exact .tail _ (.tail _ (.tail _ (.tail _ (.tail _ (.head _))))) | exact .tail _ (.tail _ (.tail _ (.tail _ (.tail _ (.tail _ (.head _)))))) | exact .tail _ (.tail _ (.tail _ (.tail _ (.tail _ (.tail _ (.tail _ (.head _))))))))) 9 infoWh (rowW_size HI3.out.1) rfl (rowW_one (now := 0) hv HI3.out) ?_; intro w2 hw2; (first | (replace hv := hv.set 0 rfl hw2) | (replace hv := hv.set 1 rfl hw2) | (replace hv := hv.set 2 rfl hw2) | (replace hv := hv.set 3 rfl hw2)); clear hw2; simp only [List.set] at hv)
    | ((with_reducible refine at_load (T := 26) ?_); refine wl_ldv rfl b3 rfl _ (hv.vars.row (by first | exact .head _ | exact .tail _ (.head _) | exact .tail _ (.tail _ (.head _)) | exact .tail _ (.tail _ (.tail _ (.head _))) | exact .tail _ (.tail _ (.tail _ (.tail _ (.head _)))) | exact .tail _ (.tail _ (.tail _ (.tail _ (.tail _ (.head _))))) | exact .tail _ (.tail _ (.tail _ (.tail _ (.tail _ (.tail _ (.head _)))))) | exact .tail _ (.tail _ (.tail _ (.tail _ (.tail _ (.tail _ (.tail _ (.head _))))))))) 9 _ Try.underlying26 rfl infoWh (by decide) (rowW_size HI3.out.1) ?_)
    | (go_at_call 9; (with_reducible refine (Next_M hv HI3.out okS2 nxS2 (n := 5) (b := true) rfl rfl).mono ?_); rintro e w1 ⟨rfl, hn1⟩; replace hv := hv.new hn1; clear hn1)
    | (go_at_call 10; (with_reducible refine (Adv_M hv HI3.out okS2 (now := 0) (nwi := 6) 6 rfl avS2 (S' := SH3) (by decide +kernel) (5, 3) (by decide +kernel)).mono ?_); rintro e w1 ⟨sv7, vx, R7, rfl, hv1, hi1, hx, hs⟩; replace hv := hv1; have HI7 := Lib.hid hi1; replace HI1 := Lib.hid (HI1.out.mono hs); replace HI3 := Lib.hid (HI3.out.mono hs); have HX := Lib.hid hx; clear hx; clear hv1 hi1 hs)
    | ((with_reducible refine at_alloc (T := 26) (dst := some 7) ?_); refine wl_newb rfl (rowW 0 nilW) 26 (fun _ => rfl) ?_; intro b7 w2 hm2; replace hv := hv.madeAt hm2; clear hm2)
    | ((with_reducible refine at_store (T := 26) ?_); refine wl_stv rfl b7 rfl _ rfl _ (hv.vars.row (by first | exact .head _ | exact .tail _ (.head _) | exact .tail _ (.tail _ (.head _)) | exact .tail _ (.tail _ (.tail _ (.head _))) | exact .tail _ (.tail _ (.tail _ (.tail _ (.head _)))) | exact .tail _ (.tail _ (.tail _ (.tail _ (.tail _ (.head _))))) | exact .tail _ (.tail _ (.tail _ (.tail _ (.tail _ (.tail _ (.head _)))))) | exact .tail _ (.tail _ (.tail _ (.tail _ (.tail _ (.tail _ (.tail _ (.head _))))))))) (hv.vars.sft (by first | exact .head _ | exact .tail _ (.head _) | exact .tail _ (.tail _ (.head _)) | exact .tail _ (.tail _ (.tail _ (.head _))) | exact .tail _ (.tail _ (.tail _ (.tail _ (.head _)))) | exact .tail _ (.tail _ (.tail _ (.tail _ (.tail _ (.head _))))) | exact .tail _ (.tail _ (.tail _ (.tail _ (.tail _ (.tail _ (.head _)))))) | exact .tail _ (.tail _ (.tail _ (.tail _ (.tail _ (.tail _ (.tail _ (.head _))))))))) 9 infoWh (rowW_size HI7.out.1) rfl (rowW_one (now := 6) hv HI7.out) ?_; intro w2 hw2; (first | (replace hv := hv.set 0 rfl hw2) | (replace hv := hv.set 1 rfl hw2) | (replace hv := hv.set 2 rfl hw2) | (replace hv := hv.set 3 rfl hw2)); clear hw2; simp only [List.set] at hv)
    | ((with_reducible refine at_load (T := 26) ?_); refine wl_ldv rfl b7 rfl _ (hv.vars.row (by first | exact .head _ | exact .tail _ (.head _) | exact .tail _ (.tail _ (.head _)) | exact .tail _ (.tail _ (.tail _ (.head _))) | exact .tail _ (.tail _ (.tail _ (.tail _ (.head _)))) | exact .tail _ (.tail _ (.tail _ (.tail _ (.tail _ (.head _))))) | exact .tail _ (.tail _ (.tail _ (.tail _ (.tail _ (.tail _ (.head _)))))) | exact .tail _ (.tail _ (.tail _ (.tail _ (.tail _ (.tail _ (.tail _ (.head _))))))))) 9 _ Try.underlying26 rfl infoWh (by decide) (rowW_size HI7.out.1) ?_)
    | (go_at_call 10; (with_reducible refine (Adv_M hv HI7.out okS3 (now := 6) (nwi := 13) 13 rfl avS3 (S' := SH0) (by decide +kernel) (13, 4) (by decide +kernel)).mono ?_); rintro e w1 ⟨sv9, vy, R9, rfl, hv1, hi1, hx, hs⟩; replace hv := hv1; have HI9 := Lib.hid hi1; replace HI1 := Lib.hid (HI1.out.mono hs); replace HI3 := Lib.hid (HI3.out.mono hs); replace HX := Lib.hid (hs _ HX.out); have HY := Lib.hid hx; clear hx; clear hv1 hi1 hs)
    | ((with_reducible refine at_alloc (T := 26) (dst := some 9) ?_); refine wl_newb rfl (rowW 0 nilW) 26 (fun _ => rfl) ?_; intro b9 w2 hm2; replace hv := hv.madeAt hm2; clear hm2)
    | ((with_reducible refine at_store (T := 26) ?_); refine wl_stv rfl b9 rfl _ rfl _ (hv.vars.row (by first | exact .head _ | exact .tail _ (.head _) | exact .tail _ (.tail _ (.head _)) | exact .tail _ (.tail _ (.tail _ (.head _))) | exact .tail _ (.tail _ (.tail _ (.tail _ (.head _)))) | exact .tail _ (.tail _ (.tail _ (.tail _ (.tail _ (.head _))))) | exact .tail _ (.tail _ (.tail _ (.tail _ (.tail _ (.tail _ (.head _)))))) | exact .tail _ (.tail _ (.tail _ (.tail _ (.tail _ (.tail _ (.tail _ (.head _))))))))) (hv.vars.sft (by first | exact .head _ | exact .tail _ (.head _) | exact .tail _ (.tail _ (.head _)) | exact .tail _ (.tail _ (.tail _ (.head _))) | exact .tail _ (.tail _ (.tail _ (.tail _ (.head _)))) | exact .tail _ (.tail _ (.tail _ (.tail _ (.tail _ (.head _))))) | exact .tail _ (.tail _ (.tail _ (.tail _ (.tail _ (.tail _ (.head _)))))) | exact .tail _ (.tail _ (.tail _ (.tail _ (.tail _ (.tail _ (.tail _ (.head _))))))))) 9 infoWh (rowW_size HI9.out.1) rfl (rowW_one (now := 13) hv HI9.out) ?_; intro w2 hw2; (first | (replace hv := hv.set 0 rfl hw2) | (replace hv := hv.set 1 rfl hw2) | (replace hv := hv.set 2 rfl hw2) | (replace hv := hv.set 3 rfl hw2)); clear hw2; simp only [List.set] at hv)
    | ((with_reducible refine at_load (T := 26) ?_); refine wl_ldv rfl b9 rfl _ (hv.vars.row (by first | exact .head _ | exact .tail _ (.head _) | exact .tail _ (.tail _ (.head _)) | exact .tail _ (.tail _ (.tail _ (.head _))) | exact .tail _ (.tail _ (.tail _ (.tail _ (.head _)))) | exact .tail _ (.tail _ (.tail _ (.tail _ (.tail _ (.head _))))) | exact .tail _ (.tail _ (.tail _ (.tail _ (.tail _ (.tail _ (.head _)))))) | exact .tail _ (.tail _ (.tail _ (.tail _ (.tail _ (.tail _ (.tail _ (.head _))))))))) 9 _ Try.underlying26 rfl infoWh (by decide) (rowW_size HI9.out.1) ?_)
    | (go_at_call 23; (with_reducible refine (Arg_M hv HI9.out okS0 ckS4 (id := 1) (tmi := 13) 13 rfl (by decide)).mono ?_); rintro e w1 ⟨rfl, hn1⟩; replace hv := hv.new hn1; clear hn1)
    | ((with_reducible refine at_alloc (T := 26) (dst := some 11) ?_); refine wl_newb rfl (rowW 0 nilW) 26 (fun _ => rfl) ?_; intro b11 w2 hm2; replace hv := hv.madeAt hm2; clear hm2)
    | ((with_reducible refine at_store (T := 26) ?_); refine wl_stv rfl b11 rfl _ rfl _ (hv.vars.row (by first | exact .head _ | exact .tail _ (.head _) | exact .tail _ (.tail _ (.head _)) | exact .tail _ (.tail _ (.tail _ (.head _))) | exact .tail _ (.tail _ (.tail _ (.tail _ (.head _)))) | exact .tail _ (.tail _ (.tail _ (.tail _ (.tail _ (.head _))))) | exact .tail _ (.tail _ (.tail _ (.tail _ (.tail _ (.tail _ (.head _)))))) | exact .tail _ (.tail _ (.tail _ (.tail _ (.tail _ (.tail _ (.tail _ (.head _))))))))) (hv.vars.sft (by first | exact .head _ | exact .tail _ (.head _) | exact .tail _ (.tail _ (.head _)) | exact .tail _ (.tail _ (.tail _ (.head _))) | exact .tail _ (.tail _ (.tail _ (.tail _ (.head _)))) | exact .tail _ (.tail _ (.tail _ (.tail _ (.tail _ (.head _))))) | exact .tail _ (.tail _ (.tail _ (.tail _ (.tail _ (.tail _ (.head _)))))) | exact .tail _ (.tail _ (.tail _ (.tail _ (.tail _ (.tail _ (.tail _ (.head _))))))))) 9 infoWh (rowW_size HI9.out.1) rfl (rowW_one (now := 13) hv HI9.out) ?_; intro w2 hw2; (first | (replace hv := hv.set 0 rfl hw2) | (replace hv := hv.set 1 rfl hw2) | (replace hv := hv.set 2 rfl hw2) | (replace hv := hv.set 3 rfl hw2)); clear hw2; simp only [List.set] at hv)
    | (go_at_call 24; (with_reducible refine (Cancel_M hv HI1.out okS1 (now := 0) ckS1 3 (S' := SH0) (by decide +kernel)).mono ?_); rintro e w1 ⟨sv13, R13, rfl, hv1, hi1, hs⟩; replace hv := hv1; have HI13 := Lib.hid hi1; replace HI1 := Lib.hid (HI1.out.mono hs); replace HI3 := Lib.hid (HI3.out.mono hs); replace HI9 := Lib.hid (HI9.out.mono hs); replace HX := Lib.hid (hs _ HX.out); replace HY := Lib.hid (hs _ HY.out); clear hv1 hi1 hs)
    | (go_at_call 9; (with_reducible refine (Next_M hv HI13.out okS0 nxS0 (n := 0) (b := false) rfl rfl).mono ?_); rintro e w1 ⟨rfl, hn1⟩; replace hv := hv.new hn1; clear hn1; obtain ⟨fa, fc, hfg⟩ := slice_at hv HI3.out (i := 5) (by decide) rfl (n := 2) rfl; have HG : Hid ((rowW 0 sv3)[6]? = some (.slice fa 2 fc)) := Lib.hid (rowW_get (now := 0) hfg); clear hfg; have H13 : Hid ((rowW 13 sv9)[0]? = some (.int .u64 13)) := Lib.hid rfl)
    | ((with_reducible refine at_load (T := 23) ?_); refine wl_ldc rfl b3 6 rfl _ (hv.vars.row (by first | exact .head _ | exact .tail _ (.head _) | exact .tail _ (.tail _ (.head _)) | exact .tail _ (.tail _ (.tail _ (.head _))) | exact .tail _ (.tail _ (.tail _ (.tail _ (.head _)))) | exact .tail _ (.tail _ (.tail _ (.tail _ (.tail _ (.head _))))) | exact .tail _ (.tail _ (.tail _ (.tail _ (.tail _ (.tail _ (.head _)))))) | exact .tail _ (.tail _ (.tail _ (.tail _ (.tail _ (.tail _ (.tail _ (.head _))))))))) _ Try.underlying23 rfl (.slice fa 2 fc) HG.out ?_)
    | ((with_reducible refine at_load (T := 22) ?_); refine wl_ldc rfl b9 0 rfl _ (hv.vars.row (by first | exact .head _ | exact .tail _ (.head _) | exact .tail _ (.tail _ (.head _)) | exact .tail _ (.tail _ (.tail _ (.head _))) | exact .tail _ (.tail _ (.tail _ (.tail _ (.head _)))) | exact .tail _ (.tail _ (.tail _ (.tail _ (.tail _ (.head _))))) | exact .tail _ (.tail _ (.tail _ (.tail _ (.tail _ (.tail _ (.head _)))))) | exact .tail _ (.tail _ (.tail _ (.tail _ (.tail _ (.tail _ (.tail _ (.head _))))))))) _ Try.underlying22 rfl (.int .u64 13) H13.out ?_)
    | (go_at_call 11; replace hv := hv.bsl' (k := 1) (n := 1) (c := [Value.int .i64 3]) ⟨rfl, made_alloc _ #[.int .i64 3] 3⟩ rfl rfl (by unfold maxLen; omega); (with_reducible refine (Ints_1 (x := 3) hv (List.mem_cons_of_mem _ HX.out) Mem.z).mono ?_); rintro e w1 ⟨rfl, hn1⟩; replace hv := hv.new hn1; clear hn1)
    | (go_at_call 11; replace hv := hv.bsl' (k := 1) (n := 1) (c := [Value.int .i64 4]) ⟨rfl, made_alloc _ #[.int .i64 4] 3⟩ rfl rfl (by unfold maxLen; omega); (with_reducible refine (Ints_1 (x := 4) hv (List.mem_cons_of_mem _ (List.mem_cons_of_mem _ HY.out)) Mem.z).mono ?_); rintro e w1 ⟨rfl, hn1⟩; replace hv := hv.new hn1; clear hn1)
    | (go_at_call 13; (with_reducible refine (Check_M hv (HI3.out.mono (fun x hx => List.mem_cons_of_mem _ (List.mem_cons_of_mem _ hx))) okS2 ckS2).mono ?_); rintro e w1 ⟨rfl, hn1⟩; replace hv := hv.new hn1; clear hn1))
  go_ret
  exact ⟨rfl, hv.below⟩
end Go.Proofs.Ytfblognifnnadaa
