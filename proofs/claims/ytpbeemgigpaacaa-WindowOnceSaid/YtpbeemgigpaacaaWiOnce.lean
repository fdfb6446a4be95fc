/-
  The walk of the law WindowOnce.
-/
import Derived.Test.YtpbeemgigpaacaaWiHead
import Derived.Test.YtpbeemgigpaacaaWiOpen
set_option linter.unusedVariables false
set_option linter.unusedSimpArgs false
namespace Go.Proofs.Ytpbeemgigpaacaa
open Go.Proofs.Wi Go.RowKit
section
variable {w0 w : World} {L : List (Nat × Array Value)} {R : List (Nat × Value × List Value)} {nx bn bc pn pc : Nat} {ba pa : Option Addr} {s : St} {l : List PcV}
/-- What came comes again. -/
theorem Take_again {b data other : List Nat} {rest : List Sp} (hv : Mem w0 w L R) (h : InS R nx (.slice ba bn bc) (.slice pa pn pc) (outS s b rest) l) (hck : chk s = true) (seq : Nat) (hT : Took (gF s seq data) b rest) {da : Option Addr} {dn dc : Nat} (hd : (1, .slice da dn dc, cellsB other) ∈ R) (ho : other.length ≤ data.length) (hdn : dn ≤ 4096) :
    Calls Try.prog 10 #[.agg #[.int .u32 (nx : Nat), .slice ba bn bc, .slice pa pn pc], .int .u32 (seq : Nat), .slice da dn dc] w fun e w' => ∃ nx' ba' bn' bc' pa' pn' pc' l' R', e = .returned (.tuple #[.agg #[.int .u32 ((nx' : Nat) : Int), .slice ba' bn' bc', .slice pa' pn' pc'], .int .i64 0]) ∧ Mem w0 w' L R' ∧ InS R' nx' (.slice ba' bn' bc') (.slice pa' pn' pc') (outS s b rest) l' ∧ ∀ x ∈ R, x ∈ R' := by
  refine (Take_S hv h (out_ok hck hT).1 (by rw [h.nx]; exact (out_lt s b rest).1) seq hd hdn).mono ?_
  rintro e w' ⟨nx', ba', bn', bc', pa', pn', pc', l', R', b2, rest2, rfl, g1, g2, g3⟩
  obtain ⟨rfl, e2⟩ := once hck hT ho g3
  rw [e2] at g2
  exact ⟨nx', ba', bn', bc', pa', pn', pc', l', R' ++ R, rfl, g1, g2, fun x hx => List.mem_append_right _ hx⟩
end
set_option maxRecDepth 100000 in
set_option maxHeartbeats 4000000 in
theorem Once_great (nx seq : Nat) (ba pa : Option Addr) (bn bc pn pc : Nat) (s : St) (l : List PcV) (da oa : Option Addr) (dn dc on oc : Nat) (data other : List Nat) (w : World) (R : List (Nat × Value × List Value)) (hv : Mem w w [] R) (hi : InS R nx (.slice ba bn bc) (.slice pa pn pc) s l) (hd : (1, .slice da dn dc, cellsB data) ∈ R) (ho : (1, .slice oa on oc, cellsB other) ∈ R) (kF : ∀ w' L', Mem w w' L' R → Calls Try.prog 7 #[.agg #[.int .u32 (nx : Nat), .slice ba bn bc, .slice pa pn pc]] w' fun e w2 => e = .returned (.bool false) ∧ New w' w2) : Calls Try.prog 3 #[.agg #[.int .u32 (nx : Nat), .slice ba bn bc, .slice pa pn pc], .int .u32 (seq : Nat), .slice da dn dc, .slice oa on oc] w (fun e w' => e = .returned (.bool true) ∧ New w w') := by
  go_enter Try.func3, Try.ntmps3
  go_wp2_with (first
    | ((with_reducible refine at_box (T := 26) (dst := some 4) ?_); refine wl_newb rfl #[.int .u32 (nx : Nat), .slice ba bn bc, .slice pa pn pc] 26 (fun _ => rfl) ?_; intro b4 w2 hm2; replace hv := hv.madeAt hm2; clear hm2)
    | ((with_reducible refine at_load (T := 26) ?_); refine wl_ldv rfl _ rfl _ (hv.vars.row (by first | exact .head _ | exact .tail _ (.head _) | exact .tail _ (.tail _ (.head _)) | exact .tail _ (.tail _ (.tail _ (.head _))) | exact .tail _ (.tail _ (.tail _ (.tail _ (.head _)))) | exact .tail _ (.tail _ (.tail _ (.tail _ (.tail _ (.head _))))) | exact .tail _ (.tail _ (.tail _ (.tail _ (.tail _ (.tail _ (.head _)))))) | exact .tail _ (.tail _ (.tail _ (.tail _ (.tail _ (.tail _ (.tail _ (.head _))))))))) 3 _ Try.underlying26 rfl infoStr (by decide) rfl ?_)
    | (go_at_call 9; (with_reducible refine (heads25 _).mono ?_); rintro e w1 ⟨rfl, hn1⟩; replace hv := hv.new hn1; clear hn1)
    | (go_at_call 7; (with_reducible refine (kF _ _ hv).mono ?_); rintro e w1 ⟨rfl, hn1⟩; replace hv := hv.new hn1; clear hn1))
  go_ret
  exact ⟨rfl, hv.below⟩
set_option maxRecDepth 100000 in
set_option maxHeartbeats 4000000 in
theorem Once_not (nx seq : Nat) (ba pa : Option Addr) (bn bc pn pc : Nat) (s : St) (l : List PcV) (da oa : Option Addr) (dn dc on oc : Nat) (data other : List Nat) (w : World) (R : List (Nat × Value × List Value)) (hv : Mem w w [] R) (hi : InS R nx (.slice ba bn bc) (.slice pa pn pc) s l) (hd : (1, .slice da dn dc, cellsB data) ∈ R) (ho : (1, .slice oa on oc, cellsB other) ∈ R) (kF : ∀ w' L', Mem w w' L' R → Calls Try.prog 7 #[.agg #[.int .u32 (nx : Nat), .slice ba bn bc, .slice pa pn pc]] w' fun e w2 => e = .returned (.bool true) ∧ New w' w2) (kC : ∀ w' L', Mem w w' L' R → Calls Try.prog 8 #[.agg #[.int .u32 (nx : Nat), .slice ba bn bc, .slice pa pn pc]] w' fun e w2 => e = .returned (.bool false) ∧ New w' w2) : Calls Try.prog 3 #[.agg #[.int .u32 (nx : Nat), .slice ba bn bc, .slice pa pn pc], .int .u32 (seq : Nat), .slice da dn dc, .slice oa on oc] w (fun e w' => e = .returned (.bool true) ∧ New w w') := by
  go_enter Try.func3, Try.ntmps3
  go_wp2_with (first
    | ((with_reducible refine at_box (T := 26) (dst := some 4) ?_); refine wl_newb rfl #[.int .u32 (nx : Nat), .slice ba bn bc, .slice pa pn pc] 26 (fun _ => rfl) ?_; intro b4 w2 hm2; replace hv := hv.madeAt hm2; clear hm2)
    | ((with_reducible refine at_load (T := 26) ?_); refine wl_ldv rfl _ rfl _ (hv.vars.row (by first | exact .head _ | exact .tail _ (.head _) | exact .tail _ (.tail _ (.head _)) | exact .tail _ (.tail _ (.tail _ (.head _))) | exact .tail _ (.tail _ (.tail _ (.tail _ (.head _)))) | exact .tail _ (.tail _ (.tail _ (.tail _ (.tail _ (.head _))))) | exact .tail _ (.tail _ (.tail _ (.tail _ (.tail _ (.tail _ (.head _)))))) | exact .tail _ (.tail _ (.tail _ (.tail _ (.tail _ (.tail _ (.tail _ (.head _))))))))) 3 _ Try.underlying26 rfl infoStr (by decide) rfl ?_)
    | (go_at_call 9; (with_reducible refine (heads25 _).mono ?_); rintro e w1 ⟨rfl, hn1⟩; replace hv := hv.new hn1; clear hn1)
    | (go_at_call 7; (with_reducible refine (kF _ _ hv).mono ?_); rintro e w1 ⟨rfl, hn1⟩; replace hv := hv.new hn1; clear hn1)
    | (go_at_call 8; (with_reducible refine (kC _ _ hv).mono ?_); rintro e w1 ⟨rfl, hn1⟩; replace hv := hv.new hn1; clear hn1))
  go_ret
  exact ⟨rfl, hv.below⟩
set_option maxRecDepth 100000 in
set_option maxHeartbeats 4000000 in
theorem Once_long (nx seq : Nat) (ba pa : Option Addr) (bn bc pn pc : Nat) (s : St) (l : List PcV) (da oa : Option Addr) (dn dc on oc : Nat) (data other : List Nat) (w : World) (R : List (Nat × Value × List Value)) (hv : Mem w w [] R) (hi : InS R nx (.slice ba bn bc) (.slice pa pn pc) s l) (hd : (1, .slice da dn dc, cellsB data) ∈ R) (ho : (1, .slice oa on oc, cellsB other) ∈ R) (kF : ∀ w' L', Mem w w' L' R → Calls Try.prog 7 #[.agg #[.int .u32 (nx : Nat), .slice ba bn bc, .slice pa pn pc]] w' fun e w2 => e = .returned (.bool true) ∧ New w' w2) (kC : ∀ w' L', Mem w w' L' R → Calls Try.prog 8 #[.agg #[.int .u32 (nx : Nat), .slice ba bn bc, .slice pa pn pc]] w' fun e w2 => e = .returned (.bool true) ∧ New w' w2) (h1 : 600 < dn) : Calls Try.prog 3 #[.agg #[.int .u32 (nx : Nat), .slice ba bn bc, .slice pa pn pc], .int .u32 (seq : Nat), .slice da dn dc, .slice oa on oc] w (fun e w' => e = .returned (.bool true) ∧ New w w') := by
  have y1 : decide ((600 : Int) < (dn : Int)) = true := decide_eq_true (by omega)
  have y2 : decide ((dn : Int) > 600) = true := y1
  clear h1
  go_enter Try.func3, Try.ntmps3
  go_wp2_with (first
    | ((with_reducible refine at_box (T := 26) (dst := some 4) ?_); refine wl_newb rfl #[.int .u32 (nx : Nat), .slice ba bn bc, .slice pa pn pc] 26 (fun _ => rfl) ?_; intro b4 w2 hm2; replace hv := hv.madeAt hm2; clear hm2)
    | ((with_reducible refine at_load (T := 26) ?_); refine wl_ldv rfl _ rfl _ (hv.vars.row (by first | exact .head _ | exact .tail _ (.head _) | exact .tail _ (.tail _ (.head _)) | exact .tail _ (.tail _ (.tail _ (.head _))) | exact .tail _ (.tail _ (.tail _ (.tail _ (.head _)))) | exact .tail _ (.tail _ (.tail _ (.tail _ (.tail _ (.head _))))) | exact .tail _ (.tail _ (.tail _ (.tail _ (.tail _ (.tail _ (.head _)))))) | exact .tail _ (.tail _ (.tail _ (.tail _ (.tail _ (.tail _ (.tail _ (.head _))))))))) 3 _ Try.underlying26 rfl infoStr (by decide) rfl ?_)
    | (go_at_call 9; (with_reducible refine (heads25 _).mono ?_); rintro e w1 ⟨rfl, hn1⟩; replace hv := hv.new hn1; clear hn1)
    | (go_at_call 7; (with_reducible refine (kF _ _ hv).mono ?_); rintro e w1 ⟨rfl, hn1⟩; replace hv := hv.new hn1; clear hn1)
    | (go_at_call 8; (with_reducible refine (kC _ _ hv).mono ?_); rintro e w1 ⟨rfl, hn1⟩; replace hv := hv.new hn1; clear hn1))
  go_ret
  exact ⟨rfl, hv.below⟩
set_option maxRecDepth 100000 in
set_option maxHeartbeats 4000000 in
theorem Once_longer (nx seq : Nat) (ba pa : Option Addr) (bn bc pn pc : Nat) (s : St) (l : List PcV) (da oa : Option Addr) (dn dc on oc : Nat) (data other : List Nat) (w : World) (R : List (Nat × Value × List Value)) (hv : Mem w w [] R) (hi : InS R nx (.slice ba bn bc) (.slice pa pn pc) s l) (hd : (1, .slice da dn dc, cellsB data) ∈ R) (ho : (1, .slice oa on oc, cellsB other) ∈ R) (kF : ∀ w' L', Mem w w' L' R → Calls Try.prog 7 #[.agg #[.int .u32 (nx : Nat), .slice ba bn bc, .slice pa pn pc]] w' fun e w2 => e = .returned (.bool true) ∧ New w' w2) (kC : ∀ w' L', Mem w w' L' R → Calls Try.prog 8 #[.agg #[.int .u32 (nx : Nat), .slice ba bn bc, .slice pa pn pc]] w' fun e w2 => e = .returned (.bool true) ∧ New w' w2) (h1 : dn ≤ 600) (h2 : dn < on) : Calls Try.prog 3 #[.agg #[.int .u32 (nx : Nat), .slice ba bn bc, .slice pa pn pc], .int .u32 (seq : Nat), .slice da dn dc, .slice oa on oc] w (fun e w' => e = .returned (.bool true) ∧ New w w') := by
  have y1 : decide ((600 : Int) < (dn : Int)) = false := decide_eq_false (by omega)
  have y2 : decide ((dn : Int) > 600) = false := y1
  have y3 : decide ((dn : Int) < (on : Int)) = true := decide_eq_true (by omega)
  have y4 : decide ((on : Int) > (dn : Int)) = true := y3
  clear h1
  go_enter Try.func3, Try.ntmps3
  go_wp2_with (first
    | ((with_reducible refine at_box (T := 26) (dst := some 4) ?_); refine wl_newb rfl #[.int .u32 (nx : Nat), .slice ba bn bc, .slice pa pn pc] 26 (fun _ => rfl) ?_; intro b4 w2 hm2; replace hv := hv.madeAt hm2; clear hm2)
    | ((with_reducible refine at_load (T := 26) ?_); refine wl_ldv rfl _ rfl _ (hv.vars.row (by first | exact .head _ | exact .tail _ (.head _) | exact .tail _ (.tail _ (.head _)) | exact .tail _ (.tail _ (.tail _ (.head _))) | exact .tail _ (.tail _ (.tail _ (.tail _ (.head _)))) | exact .tail _ (.tail _ (.tail _ (.tail _ (.tail _ (.head _))))) | exact .tail _ (.tail _ (.tail _ (.tail _ (.tail _ (.tail _ (.head _)))))) | exact .tail _ (.tail _ (.tail _ (.tail _ (.tail _ (.tail _ (.tail _ (.head _))))))))) 3 _ Try.underlying26 rfl infoStr (by decide) rfl ?_)
    | (go_at_call 9; (with_reducible refine (heads25 _).mono ?_); rintro e w1 ⟨rfl, hn1⟩; replace hv := hv.new hn1; clear hn1)
    | (go_at_call 7; (with_reducible refine (kF _ _ hv).mono ?_); rintro e w1 ⟨rfl, hn1⟩; replace hv := hv.new hn1; clear hn1)
    | (go_at_call 8; (with_reducible refine (kC _ _ hv).mono ?_); rintro e w1 ⟨rfl, hn1⟩; replace hv := hv.new hn1; clear hn1))
  go_ret
  exact ⟨rfl, hv.below⟩
set_option maxRecDepth 100000 in
set_option maxHeartbeats 4000000 in
theorem Once_yes (nx seq : Nat) (ba pa : Option Addr) (bn bc pn pc : Nat) (s : St) (l : List PcV) (da oa : Option Addr) (dn dc on oc : Nat) (data other : List Nat) (w : World) (R : List (Nat × Value × List Value)) (hv : Mem w w [] R) (hi : InS R nx (.slice ba bn bc) (.slice pa pn pc) s l) (hd : (1, .slice da dn dc, cellsB data) ∈ R) (ho : (1, .slice oa on oc, cellsB other) ∈ R) (kF : ∀ w' L', Mem w w' L' R → Calls Try.prog 7 #[.agg #[.int .u32 (nx : Nat), .slice ba bn bc, .slice pa pn pc]] w' fun e w2 => e = .returned (.bool true) ∧ New w' w2) (kC : ∀ w' L', Mem w w' L' R → Calls Try.prog 8 #[.agg #[.int .u32 (nx : Nat), .slice ba bn bc, .slice pa pn pc]] w' fun e w2 => e = .returned (.bool true) ∧ New w' w2) (hck : chk s = true) (hnx : nx < 4294967296) (hg : goodSt s) (hgd : goodB data) (h1 : dn ≤ 600) (h2 : on ≤ dn) : Calls Try.prog 3 #[.agg #[.int .u32 (nx : Nat), .slice ba bn bc, .slice pa pn pc], .int .u32 (seq : Nat), .slice da dn dc, .slice oa on oc] w (fun e w' => e = .returned (.bool true) ∧ New w w') := by
  have y1 : decide ((600 : Int) < (dn : Int)) = false := decide_eq_false (by omega)
  have y2 : decide ((dn : Int) > 600) = false := y1
  have y3 : decide ((dn : Int) < (on : Int)) = false := decide_eq_false (by omega)
  have y4 : decide ((on : Int) > (dn : Int)) = false := y3
  have HI := Lib.hid hi
  have HD := Lib.hid hd
  have HO := Lib.hid ho
  have HCK := Lib.hid hck
  have HNX := Lib.hid hnx
  have HG := Lib.hid hg
  have HGD := Lib.hid hgd
  have HDN : Hid (dn ≤ 4096) := Lib.hid (by omega)
  have HON : Hid (on ≤ 4096) := Lib.hid (by omega)
  have HLE : Hid (other.length ≤ data.length) := Lib.hid (by rw [len_rd1 (hv.rd hd), len_rd1 (hv.rd ho)]; exact h2)
  have y5 : ¬ dn < on := by omega
  clear hi hd ho hck hnx hg hgd h1 h2
  go_enter Try.func3, Try.ntmps3
  go_wp2_with (first
    | ((with_reducible refine at_box (T := 26) (dst := some 4) ?_); refine wl_newb rfl #[.int .u32 (nx : Nat), .slice ba bn bc, .slice pa pn pc] 26 (fun _ => rfl) ?_; intro b4 w2 hm2; replace hv := hv.madeAt hm2; clear hm2)
    | ((with_reducible refine at_load (T := 26) ?_); refine wl_ldv rfl _ rfl _ (hv.vars.row (by first | exact .head _ | exact .tail _ (.head _) | exact .tail _ (.tail _ (.head _)) | exact .tail _ (.tail _ (.tail _ (.head _))) | exact .tail _ (.tail _ (.tail _ (.tail _ (.head _)))) | exact .tail _ (.tail _ (.tail _ (.tail _ (.tail _ (.head _))))) | exact .tail _ (.tail _ (.tail _ (.tail _ (.tail _ (.tail _ (.head _)))))) | exact .tail _ (.tail _ (.tail _ (.tail _ (.tail _ (.tail _ (.tail _ (.head _))))))))) 3 _ Try.underlying26 rfl infoStr (by decide) rfl ?_)
    | (go_at_call 9; (with_reducible refine (heads25 _).mono ?_); rintro e w1 ⟨rfl, hn1⟩; replace hv := hv.new hn1; clear hn1)
    | (go_at_call 7; (with_reducible refine (kF _ _ hv).mono ?_); rintro e w1 ⟨rfl, hn1⟩; replace hv := hv.new hn1; clear hn1)
    | (go_at_call 8; (with_reducible refine (kC _ _ hv).mono ?_); rintro e w1 ⟨rfl, hn1⟩; replace hv := hv.new hn1; clear hn1)
    | (go_at_call 10; (with_reducible refine (Take_S hv HI.out HCK.out HNX.out seq HD.out HDN.out).mono ?_); rintro e w1 ⟨nx1, ba1, bn1, bc1, pa1, pn1, pc1, l1, R1, q1, rest1, rfl, hv1, hI1, hT1⟩; replace hv := hv1; clear hv1; have HI1 := Lib.hid hI1; have HT1 := Lib.hid hT1; have HD1 := Lib.hid (List.mem_append_right R1 HD.out); have HO1 := Lib.hid (List.mem_append_right R1 HO.out); obtain ⟨s1, hs1⟩ : ∃ s1, outS s q1 rest1 = s1 := ⟨_, rfl⟩; clear hI1 hT1)
    | (go_at_call 10; (with_reducible refine (Take_again hv HI1.out HCK.out seq HT1.out HD1.out (Nat.le_refl _) HDN.out).mono ?_); rintro e w1 ⟨nx2, ba2, bn2, bc2, pa2, pn2, pc2, l2, R2, rfl, hv1, hI2, hR2⟩; replace hv := hv1; clear hv1; have HI2 := Lib.hid hI2; have HR2 := Lib.hid hR2; clear hI2 hR2)
    | (go_at_call 10; (with_reducible refine (Take_again hv (HI1.out.mono HR2.out) HCK.out seq HT1.out (HR2.out _ HO1.out) HLE.out HON.out).mono ?_); rintro e w1 ⟨nx3, ba3, bn3, bc3, pa3, pn3, pc3, l3, R3, rfl, hv1, hI3, hR3⟩; replace hv := hv1; clear hv1; have HI3 := Lib.hid hI3; have HR3 := Lib.hid hR3; have HI12 := Lib.hid ((HI1.out.mono HR2.out).mono hR3); have HI22 := Lib.hid (HI2.out.mono hR3); have HL1 := Lib.hid (show l1.length ≤ 1000 from (by have := (HI1.out.small (out_ok HCK.out HT1.out).1).1; omega)); clear hI3 hR3)
    | (go_at_call 11; (with_reducible refine (Same_S hv HI12.out HI22.out HL1.out (good_out HG.out HGD.out HT1.out)).mono ?_); rintro e w1 ⟨rfl, hn1⟩; replace hv := hv.new hn1; clear hn1)
    | (go_at_call 11; (with_reducible refine (Same_S hv HI12.out HI3.out HL1.out (good_out HG.out HGD.out HT1.out)).mono ?_); rintro e w1 ⟨rfl, hn1⟩; replace hv := hv.new hn1; clear hn1)
    | (go_at_call 12; (with_reducible refine (Check_S hv HI12.out (out_ok HCK.out HT1.out).1).mono ?_); rintro e w1 ⟨rfl, hn1⟩; replace hv := hv.new hn1; clear hn1)
    | ((with_reducible refine at_alloc (T := 26) (dst := some 9) ?_); refine wl_newb rfl #[.int .u32 0, .slice none 0 0, .slice none 0 0] 26 (fun _ => rfl) ?_; intro b9 w2 hm2; replace hv := hv.madeAt hm2; clear hm2)
    | ((with_reducible refine at_alloc (T := 26) (dst := some 11) ?_); refine wl_newb rfl #[.int .u32 0, .slice none 0 0, .slice none 0 0] 26 (fun _ => rfl) ?_; intro b11 w2 hm2; replace hv := hv.madeAt hm2; clear hm2)
    | ((with_reducible refine at_alloc (T := 26) (dst := some 13) ?_); refine wl_newb rfl #[.int .u32 0, .slice none 0 0, .slice none 0 0] 26 (fun _ => rfl) ?_; intro b13 w2 hm2; replace hv := hv.madeAt hm2; clear hm2)
    | ((with_reducible refine at_store (T := 26) ?_); refine wl_stv rfl b9 rfl _ rfl _ (hv.vars.row (by first | exact .head _ | exact .tail _ (.head _) | exact .tail _ (.tail _ (.head _)) | exact .tail _ (.tail _ (.tail _ (.head _))) | exact .tail _ (.tail _ (.tail _ (.tail _ (.head _)))) | exact .tail _ (.tail _ (.tail _ (.tail _ (.tail _ (.head _))))) | exact .tail _ (.tail _ (.tail _ (.tail _ (.tail _ (.tail _ (.head _)))))) | exact .tail _ (.tail _ (.tail _ (.tail _ (.tail _ (.tail _ (.tail _ (.head _))))))))) (hv.vars.sft (by first | exact .head _ | exact .tail _ (.head _) | exact .tail _ (.tail _ (.head _)) | exact .tail _ (.tail _ (.tail _ (.head _))) | exact .tail _ (.tail _ (.tail _ (.tail _ (.head _)))) | exact .tail _ (.tail _ (.tail _ (.tail _ (.tail _ (.head _))))) | exact .tail _ (.tail _ (.tail _ (.tail _ (.tail _ (.tail _ (.head _)))))) | exact .tail _ (.tail _ (.tail _ (.tail _ (.tail _ (.tail _ (.tail _ (.head _))))))))) 3 infoStr rfl rfl (by simp [Value.oneCell']) ?_; intro w2 hw2; (first | (replace hv := hv.set 0 rfl hw2) | (replace hv := hv.set 1 rfl hw2) | (replace hv := hv.set 2 rfl hw2) | (replace hv := hv.set 3 rfl hw2) | (replace hv := hv.set 4 rfl hw2) | (replace hv := hv.set 5 rfl hw2) | (replace hv := hv.set 6 rfl hw2) | (replace hv := hv.set 7 rfl hw2)); clear hw2; simp only [List.set] at hv)
    | ((with_reducible refine at_store (T := 26) ?_); refine wl_stv rfl b11 rfl _ rfl _ (hv.vars.row (by first | exact .head _ | exact .tail _ (.head _) | exact .tail _ (.tail _ (.head _)) | exact .tail _ (.tail _ (.tail _ (.head _))) | exact .tail _ (.tail _ (.tail _ (.tail _ (.head _)))) | exact .tail _ (.tail _ (.tail _ (.tail _ (.tail _ (.head _))))) | exact .tail _ (.tail _ (.tail _ (.tail _ (.tail _ (.tail _ (.head _)))))) | exact .tail _ (.tail _ (.tail _ (.tail _ (.tail _ (.tail _ (.tail _ (.head _))))))))) (hv.vars.sft (by first | exact .head _ | exact .tail _ (.head _) | exact .tail _ (.tail _ (.head _)) | exact .tail _ (.tail _ (.tail _ (.head _))) | exact .tail _ (.tail _ (.tail _ (.tail _ (.head _)))) | exact .tail _ (.tail _ (.tail _ (.tail _ (.tail _ (.head _))))) | exact .tail _ (.tail _ (.tail _ (.tail _ (.tail _ (.tail _ (.head _)))))) | exact .tail _ (.tail _ (.tail _ (.tail _ (.tail _ (.tail _ (.tail _ (.head _))))))))) 3 infoStr rfl rfl (by simp [Value.oneCell']) ?_; intro w2 hw2; (first | (replace hv := hv.set 0 rfl hw2) | (replace hv := hv.set 1 rfl hw2) | (replace hv := hv.set 2 rfl hw2) | (replace hv := hv.set 3 rfl hw2) | (replace hv := hv.set 4 rfl hw2) | (replace hv := hv.set 5 rfl hw2) | (replace hv := hv.set 6 rfl hw2) | (replace hv := hv.set 7 rfl hw2)); clear hw2; simp only [List.set] at hv)
    | ((with_reducible refine at_store (T := 26) ?_); refine wl_stv rfl b13 rfl _ rfl _ (hv.vars.row (by first | exact .head _ | exact .tail _ (.head _) | exact .tail _ (.tail _ (.head _)) | exact .tail _ (.tail _ (.tail _ (.head _))) | exact .tail _ (.tail _ (.tail _ (.tail _ (.head _)))) | exact .tail _ (.tail _ (.tail _ (.tail _ (.tail _ (.head _))))) | exact .tail _ (.tail _ (.tail _ (.tail _ (.tail _ (.tail _ (.head _)))))) | exact .tail _ (.tail _ (.tail _ (.tail _ (.tail _ (.tail _ (.tail _ (.head _))))))))) (hv.vars.sft (by first | exact .head _ | exact .tail _ (.head _) | exact .tail _ (.tail _ (.head _)) | exact .tail _ (.tail _ (.tail _ (.head _))) | exact .tail _ (.tail _ (.tail _ (.tail _ (.head _)))) | exact .tail _ (.tail _ (.tail _ (.tail _ (.tail _ (.head _))))) | exact .tail _ (.tail _ (.tail _ (.tail _ (.tail _ (.tail _ (.head _)))))) | exact .tail _ (.tail _ (.tail _ (.tail _ (.tail _ (.tail _ (.tail _ (.head _))))))))) 3 infoStr rfl rfl (by simp [Value.oneCell']) ?_; intro w2 hw2; (first | (replace hv := hv.set 0 rfl hw2) | (replace hv := hv.set 1 rfl hw2) | (replace hv := hv.set 2 rfl hw2) | (replace hv := hv.set 3 rfl hw2) | (replace hv := hv.set 4 rfl hw2) | (replace hv := hv.set 5 rfl hw2) | (replace hv := hv.set 6 rfl hw2) | (replace hv := hv.set 7 rfl hw2)); clear hw2; simp only [List.set] at hv))
  go_ret
  exact ⟨rfl, hv.below⟩
theorem WindowOnce_any (nx seq : Nat) (bv pv : Value) (bs : List Nat) (l : List PcV) (dv ov : Value) (data other : List Nat) (W : World) (hs : RdSt W nx bv pv bs l) (hd : Rd W 1 dv (cellsB data)) (hgd : goodB data) (ho : Rd W 1 ov (cellsB other)) : Calls Try.prog 3 #[.agg #[.int .u32 (nx : Nat), bv, pv], .int .u32 (seq : Nat), dv, ov] W fun e w' => e = .returned (.bool true) ∧ New W w' := by
  obtain ⟨hnx, hb, hgb, hp, hl⟩ := hs
  obtain ⟨ba, bn, bc, rfl, _⟩ := id hb
  obtain ⟨pa, pn, pc, rfl, _⟩ := id hp
  obtain ⟨da, dn, dc, rfl, _⟩ := id hd
  obtain ⟨oa, on, oc, rfl, _⟩ := id ho
  obtain ⟨R, hR⟩ : ∃ R : List (Nat × Value × List Value), R = (1, .slice ba bn bc, cellsB bs) :: (2, .slice pa pn pc, cellsP l) :: (1, .slice da dn dc, cellsB data) :: (1, .slice oa on oc, cellsB other) :: l.map (fun p => (1, p.2.1, cellsB p.2.2)) := ⟨_, rfl⟩
  have hv : Mem W W [] R := Mem.all (fun x hx => by
    subst hR
    rcases List.mem_cons.1 hx with rfl | hx
    · exact hb
    rcases List.mem_cons.1 hx with rfl | hx
    · exact hp
    rcases List.mem_cons.1 hx with rfl | hx
    · exact hd
    rcases List.mem_cons.1 hx with rfl | hx
    · exact ho
    · obtain ⟨p, hp, rfl⟩ := List.mem_map.1 hx
      exact (hl p hp).2.1)
  have hi : InS R nx (.slice ba bn bc) (.slice pa pn pc) (stOf nx bs l) l := by
    subst hR
    exact ⟨Mem.z, Mem.s Mem.z, fun p hp => Mem.s (Mem.s (Mem.s (Mem.s (List.mem_map.2 ⟨p, hp, rfl⟩)))), rfl⟩
  have hdm : (1, .slice da dn dc, cellsB data) ∈ R := by subst hR; exact Mem.s (Mem.s Mem.z)
  have hom : (1, .slice oa on oc, cellsB other) ∈ R := by subst hR; exact Mem.s (Mem.s (Mem.s Mem.z))
  have hgs : goodSt (stOf nx bs l) := ⟨hgb, fun p hp => by
    obtain ⟨x, hx, rfl⟩ := List.mem_map.1 hp
    exact (hl x hx).2.2⟩
  have kF : ∀ w' L', Mem W w' L' R → Calls Try.prog 7 #[.agg #[.int .u32 (nx : Nat), .slice ba bn bc, .slice pa pn pc]] w' fun e w2 => e = .returned (.bool (fewB bs l)) ∧ New w' w2 := fun w' L' h => Few_S h hi
  by_cases hf : fewB bs l = true
  · rw [hf] at kF
    have kC : ∀ w' L', Mem W w' L' R → Calls Try.prog 8 #[.agg #[.int .u32 (nx : Nat), .slice ba bn bc, .slice pa pn pc]] w' fun e w2 => e = .returned (.bool (chk (stOf nx bs l))) ∧ New w' w2 := fun w' L' h => RCheck_S h hi hf hnx (fun p hp => (hl p hp).1)
    cases hc : chk (stOf nx bs l) with
    | false =>
      rw [hc] at kC
      exact Once_not nx seq ba pa bn bc pn pc _ l da oa dn dc on oc data other W R hv hi hdm hom kF kC
    | true =>
      rw [hc] at kC
      by_cases h1 : 600 < dn
      · exact Once_long nx seq ba pa bn bc pn pc _ l da oa dn dc on oc data other W R hv hi hdm hom kF kC h1
      · by_cases h2 : dn < on
        · exact Once_longer nx seq ba pa bn bc pn pc _ l da oa dn dc on oc data other W R hv hi hdm hom kF kC (by omega) h2
        · exact Once_yes nx seq ba pa bn bc pn pc _ l da oa dn dc on oc data other W R hv hi hdm hom kF kC hc hnx hgs hgd (by omega) (by omega)
  · have hf2 : fewB bs l = false := by simpa using hf
    rw [hf2] at kF
    exact Once_great nx seq ba pa bn bc pn pc _ l da oa dn dc on oc data other W R hv hi hdm hom kF
end Go.Proofs.Ytpbeemgigpaacaa
