/-
  The walk of the law WindowTells.
-/
import Derived.Test.YtpbeemgigpaacaaWiRTake
import Derived.Test.YtpbeemgigpaacaaWiRRead
import Derived.Test.YtpbeemgigpaacaaWiOpen
set_option linter.unusedVariables false
set_option linter.unusedSimpArgs false
namespace Go.Proofs.Ytpbeemgigpaacaa
open Go.Proofs.Wi Go.RowKit
theorem Bytes_alike (u v : Value) (l : List Nat) (w : World) (hu : Rd w 1 u (cellsB l)) (hv : Rd w 1 v (cellsB l)) (hl : goodB l) : Calls Try.prog 16 #[u, v] w fun e w' => e = .returned (.bool true) ∧ New w w' := by
  refine (Bytes_any u v l l w hu hv hl hl).mono ?_
  rintro e w' ⟨rfl, rfl⟩
  exact ⟨by simp, Below.refl _ _⟩
section
variable {w0 w : World} {L : List (Nat × Array Value)} {R : List (Nat × Value × List Value)} {nx bn bc pn pc : Nat} {ba pa : Option Addr} {s : St} {l : List PcV}
def TakeQ (w0 : World) (L : List (Nat × Array Value)) (R : List (Nat × Value × List Value)) (s : St) (seq : Nat) (data : List Nat) (e : Ending) (w' : World) : Prop :=
  ∃ (nx : Nat) (ba : Option Addr) (bn bc : Nat) (pa : Option Addr) (pn pc : Nat) (l : List PcV) (R' : List (Nat × Value × List Value)) (b : List Nat) (rest : List Sp) (qn : Nat),
    e = .returned (.tuple #[.agg #[.int .u32 (nx : Nat), .slice ba bn bc, .slice pa pn pc], .int .i64 (qn : Nat)]) ∧ Mem w0 w' L R' ∧ InS R' nx (.slice ba bn bc) (.slice pa pn pc) (outS s b rest) l ∧ Took (gF s seq data) b rest ∧ b.length = qn ∧ ∀ x ∈ R, x ∈ R'
theorem TakeS.q {seq : Nat} {data : List Nat} {e : Ending} {w' : World} (h : TakeS w0 L R s seq data e w') : TakeQ w0 L R s seq data e w' := by
  obtain ⟨nx, ba, bn, bc, pa, pn, pc, l, R', b, rest, h1, h2, h3, h4⟩ := h
  exact ⟨nx, ba, bn, bc, pa, pn, pc, l, R' ++ R, b, rest, b.length, h1, h2, h3, h4, rfl, fun x hx => List.mem_append_right _ hx⟩
/-- The reference's, once it is known what comes out. -/
theorem RTake_S (hv : Mem w0 w L R) (h : InS R nx (.slice ba bn bc) (.slice pa pn pc) s l) (hck : chk s = true) (hnx : nx < 4294967296) (hsq : ∀ p ∈ l, p.1 < 4294967296) (seq : Nat) (hseq : seq < 4294967296) {da : Option Addr} {dn dc : Nat} {data : List Nat} (hd : (1, .slice da dn dc, cellsB data) ∈ R) (hdn : dn ≤ 4096) {b : List Nat} {rest : List Sp} (hT : Took (gF s seq data) b rest) {qn : Nat} (hq : b.length = qn) :
    Calls Try.prog 13 #[.agg #[.int .u32 (nx : Nat), .slice ba bn bc, .slice pa pn pc], .int .u32 (seq : Nat), .slice da dn dc] w fun e w' => ∃ (nx' : Nat) (ba' : Option Addr) (bn' bc' : Nat) (pa' : Option Addr) (pn' pc' : Nat) (l' : List PcV) (R' : List (Nat × Value × List Value)), e = .returned (.tuple #[.agg #[.int .u32 (nx' : Nat), .slice ba' bn' bc', .slice pa' pn' pc'], .int .i64 (qn : Nat)]) ∧ Mem w0 w' L R' ∧ InS R' nx' (.slice ba' bn' bc') (.slice pa' pn' pc') (outS s b rest) l' ∧ ∀ x ∈ R, x ∈ R' := by
  obtain ⟨c1, c2, c3⟩ := h.small hck
  have hst := h.st
  have := RTake_yes nx ba pa bn bc pn pc s.bytes l seq da dn dc w0 w L R hv h.b h.p h.all (by have := len_rdP (hv.rd h.p); omega) (by omega) (fun p hp => by have := c3 p hp; omega) hnx hsq (by rw [hst]; exact hck) data hd hdn hseq
  rw [hst] at this
  refine this.mono ?_
  rintro e w' ⟨nx', ba', bn', bc', pa', pn', pc', l', R', b', rest', rfl, g1, g2, g3⟩
  obtain ⟨rfl, rfl⟩ := hT.unique g3
  subst hq
  exact ⟨nx', ba', bn', bc', pa', pn', pc', l', R' ++ R, rfl, g1, g2, fun x hx => List.mem_append_right _ hx⟩
theorem RRead_S (hv : Mem w0 w L R) (h : InS R nx (.slice ba bn bc) (.slice pa pn pc) s l) (hck : chk s = true) (hnx : nx < 4294967296) (hsq : ∀ p ∈ l, p.1 < 4294967296) (n : Int) : Calls Try.prog 15 #[.agg #[.int .u32 (nx : Nat), .slice ba bn bc, .slice pa pn pc], .int .i64 n] w (ReadS w0 L R s nx pa pn pc l (clampN n s.bytes.length)) := by
  obtain ⟨c1, c2, c3⟩ := h.small hck
  refine (RRead_yes nx ba pa bn bc pn pc s.bytes l n w0 w L R hv h.b h.p h.all (by have := len_rdP (hv.rd h.p); omega) (by omega) (fun p hp => by have := c3 p hp; omega) hnx hsq (by rw [h.st]; exact hck)).mono ?_
  rintro e w' ⟨ba', bn', bc', ga, gn, gc, rfl, g1⟩
  refine ⟨ba', bn', bc', ga, gn, gc, [(1, .slice ba' bn' bc', _), (1, .slice ga gn gc, _)], rfl, g1, ⟨Mem.z, Mem.s (Mem.s h.p), fun p hp => Mem.s (Mem.s (h.all p hp)), ?_⟩, Mem.s Mem.z⟩
  have hn := h.nx
  have hp := h.ps
  unfold stOf
  rw [hn, hp]
end
set_option maxRecDepth 100000 in
set_option maxHeartbeats 4000000 in
theorem Tells_great (nx seq : Nat) (n : Int) (ba pa : Option Addr) (bn bc pn pc : Nat) (s : St) (l : List PcV) (da : Option Addr) (dn dc : Nat) (data : List Nat) (w : World) (R : List (Nat × Value × List Value)) (hv : Mem w w [] R) (hi : InS R nx (.slice ba bn bc) (.slice pa pn pc) s l) (hd : (1, .slice da dn dc, cellsB data) ∈ R) (kF : ∀ w' L', Mem w w' L' R → Calls Try.prog 7 #[.agg #[.int .u32 (nx : Nat), .slice ba bn bc, .slice pa pn pc]] w' fun e w2 => e = .returned (.bool false) ∧ New w' w2) : Calls Try.prog 4 #[.agg #[.int .u32 (nx : Nat), .slice ba bn bc, .slice pa pn pc], .int .u32 (seq : Nat), .slice da dn dc, .int .i64 n] w (fun e w' => e = .returned (.bool true) ∧ New w w') := by
  go_enter Try.func4, Try.ntmps4
  go_wp2_with (first
    | ((with_reducible refine at_box (T := 26) (dst := some 4) ?_); refine wl_newb rfl #[.int .u32 (nx : Nat), .slice ba bn bc, .slice pa pn pc] 26 (fun _ => rfl) ?_; intro b4 w2 hm2; replace hv := hv.madeAt hm2; clear hm2)
    | ((with_reducible refine at_load (T := 26) ?_); refine wl_ldv rfl _ rfl _ (hv.vars.row (by first | exact .head _ | exact .tail _ (.head _) | exact .tail _ (.tail _ (.head _)) | exact .tail _ (.tail _ (.tail _ (.head _))) | exact .tail _ (.tail _ (.tail _ (.tail _ (.head _)))) | exact .tail _ (.tail _ (.tail _ (.tail _ (.tail _ (.head _))))) | exact .tail _ (.tail _ (.tail _ (.tail _ (.tail _ (.tail _ (.head _)))))) | exact .tail _ (.tail _ (.tail _ (.tail _ (.tail _ (.tail _ (.tail _ (.head _))))))))) 3 _ Try.underlying26 rfl infoStr (by decide) rfl ?_)
    | (go_at_call 9; (with_reducible refine (heads25 _).mono ?_); rintro e w1 ⟨rfl, hn1⟩; replace hv := hv.new hn1; clear hn1)
    | (go_at_call 7; (with_reducible refine (kF _ _ hv).mono ?_); rintro e w1 ⟨rfl, hn1⟩; replace hv := hv.new hn1; clear hn1))
  go_ret
  exact ⟨rfl, hv.below⟩
set_option maxRecDepth 100000 in
set_option maxHeartbeats 4000000 in
theorem Tells_long (nx seq : Nat) (n : Int) (ba pa : Option Addr) (bn bc pn pc : Nat) (s : St) (l : List PcV) (da : Option Addr) (dn dc : Nat) (data : List Nat) (w : World) (R : List (Nat × Value × List Value)) (hv : Mem w w [] R) (hi : InS R nx (.slice ba bn bc) (.slice pa pn pc) s l) (hd : (1, .slice da dn dc, cellsB data) ∈ R) (kF : ∀ w' L', Mem w w' L' R → Calls Try.prog 7 #[.agg #[.int .u32 (nx : Nat), .slice ba bn bc, .slice pa pn pc]] w' fun e w2 => e = .returned (.bool true) ∧ New w' w2) (h1 : 600 < dn) : Calls Try.prog 4 #[.agg #[.int .u32 (nx : Nat), .slice ba bn bc, .slice pa pn pc], .int .u32 (seq : Nat), .slice da dn dc, .int .i64 n] w (fun e w' => e = .returned (.bool true) ∧ New w w') := by
  have y1 : decide ((600 : Int) < (dn : Int)) = true := decide_eq_true (by omega)
  have y2 : decide ((dn : Int) > 600) = true := y1
  clear h1
  go_enter Try.func4, Try.ntmps4
  go_wp2_with (first
    | ((with_reducible refine at_box (T := 26) (dst := some 4) ?_); refine wl_newb rfl #[.int .u32 (nx : Nat), .slice ba bn bc, .slice pa pn pc] 26 (fun _ => rfl) ?_; intro b4 w2 hm2; replace hv := hv.madeAt hm2; clear hm2)
    | ((with_reducible refine at_load (T := 26) ?_); refine wl_ldv rfl _ rfl _ (hv.vars.row (by first | exact .head _ | exact .tail _ (.head _) | exact .tail _ (.tail _ (.head _)) | exact .tail _ (.tail _ (.tail _ (.head _))) | exact .tail _ (.tail _ (.tail _ (.tail _ (.head _)))) | exact .tail _ (.tail _ (.tail _ (.tail _ (.tail _ (.head _))))) | exact .tail _ (.tail _ (.tail _ (.tail _ (.tail _ (.tail _ (.head _)))))) | exact .tail _ (.tail _ (.tail _ (.tail _ (.tail _ (.tail _ (.tail _ (.head _))))))))) 3 _ Try.underlying26 rfl infoStr (by decide) rfl ?_)
    | (go_at_call 9; (with_reducible refine (heads25 _).mono ?_); rintro e w1 ⟨rfl, hn1⟩; replace hv := hv.new hn1; clear hn1)
    | (go_at_call 7; (with_reducible refine (kF _ _ hv).mono ?_); rintro e w1 ⟨rfl, hn1⟩; replace hv := hv.new hn1; clear hn1))
  go_ret
  exact ⟨rfl, hv.below⟩
set_option maxRecDepth 100000 in
set_option maxHeartbeats 8000000 in
theorem Tells_yes (nx seq : Nat) (n : Int) (ba pa : Option Addr) (bn bc pn pc : Nat) (s : St) (l : List PcV) (da : Option Addr) (dn dc : Nat) (data : List Nat) (w : World) (R : List (Nat × Value × List Value)) (hv : Mem w w [] R) (hi : InS R nx (.slice ba bn bc) (.slice pa pn pc) s l) (hd : (1, .slice da dn dc, cellsB data) ∈ R) (kF : ∀ w' L', Mem w w' L' R → Calls Try.prog 7 #[.agg #[.int .u32 (nx : Nat), .slice ba bn bc, .slice pa pn pc]] w' fun e w2 => e = .returned (.bool true) ∧ New w' w2) (hck : chk s = true) (hf : fewB s.bytes l = true) (hnx : nx < 4294967296) (hsq : ∀ p ∈ l, p.1 < 4294967296) (hseq : seq < 4294967296) (hg : goodSt s) (hgd : goodB data) (h1 : dn ≤ 600) : Calls Try.prog 4 #[.agg #[.int .u32 (nx : Nat), .slice ba bn bc, .slice pa pn pc], .int .u32 (seq : Nat), .slice da dn dc, .int .i64 n] w (fun e w' => e = .returned (.bool true) ∧ New w w') := by
  have y1 : decide ((600 : Int) < (dn : Int)) = false := decide_eq_false (by omega)
  have y2 : decide ((dn : Int) > 600) = false := y1
  have HI := Lib.hid hi
  have HD := Lib.hid hd
  have HCK := Lib.hid hck
  have HF := Lib.hid hf
  have HNX := Lib.hid hnx
  have HSQ := Lib.hid hsq
  have HSE := Lib.hid hseq
  have HG := Lib.hid hg
  have HGD := Lib.hid hgd
  have HDN : Hid (dn ≤ 4096) := Lib.hid (by omega)
  clear hi hd hck hf hnx hsq hseq hg hgd h1
  go_enter Try.func4, Try.ntmps4
  go_wp2_with (first
    | ((with_reducible refine at_box (T := 26) (dst := some 4) ?_); refine wl_newb rfl #[.int .u32 (nx : Nat), .slice ba bn bc, .slice pa pn pc] 26 (fun _ => rfl) ?_; intro b4 w2 hm2; replace hv := hv.madeAt hm2; clear hm2)
    | ((with_reducible refine at_load (T := 26) ?_); refine wl_ldv rfl _ rfl _ (hv.vars.row (by first | exact .head _ | exact .tail _ (.head _) | exact .tail _ (.tail _ (.head _)) | exact .tail _ (.tail _ (.tail _ (.head _))) | exact .tail _ (.tail _ (.tail _ (.tail _ (.head _)))) | exact .tail _ (.tail _ (.tail _ (.tail _ (.tail _ (.head _))))) | exact .tail _ (.tail _ (.tail _ (.tail _ (.tail _ (.tail _ (.head _)))))) | exact .tail _ (.tail _ (.tail _ (.tail _ (.tail _ (.tail _ (.tail _ (.head _))))))))) 3 _ Try.underlying26 rfl infoStr (by decide) rfl ?_)
    | (go_at_call 7; (with_reducible refine (kF _ _ hv).mono ?_); rintro e w1 ⟨rfl, hn1⟩; replace hv := hv.new hn1; clear hn1)
    | (go_at_call 10; (with_reducible refine ((Take_S hv HI.out HCK.out HNX.out seq HD.out HDN.out).mono (fun e w' h => h.q)).mono ?_); rintro e w1 ⟨nx1, ba1, bn1, bc1, pa1, pn1, pc1, l1, R1, q1, rest1, qn, rfl, hv1, hI1, hT1, hq1, hR1⟩; replace hv := hv1; clear hv1; have HI1 := Lib.hid hI1; have HT1 := Lib.hid hT1; have HQ1 := Lib.hid hq1; have HR1 := Lib.hid hR1; clear hI1 hT1 hq1 hR1)
    | (go_at_call 13; (with_reducible refine (RTake_S hv (HI.out.mono HR1.out) HCK.out HNX.out HSQ.out seq HSE.out (HR1.out _ HD.out) HDN.out HT1.out HQ1.out).mono ?_); rintro e w1 ⟨nx2, ba2, bn2, bc2, pa2, pn2, pc2, l2, R2, rfl, hv1, hI2, hR2⟩; replace hv := hv1; clear hv1; have HI2 := Lib.hid hI2; have HR2 := Lib.hid hR2; clear hI2 hR2)
    | (go_at_call 14; (with_reducible refine (Read_S hv ((HI.out.mono HR1.out).mono HR2.out) HCK.out n).mono ?_); rintro e w1 ⟨ba3, bn3, bc3, ga, gn, gc, R3, rfl, hv1, hI3, hG3⟩; replace hv := hv1; clear hv1; have HI3 := Lib.hid hI3; have HG3 := Lib.hid hG3; clear hI3 hG3)
    | (go_at_call 15; (with_reducible refine (RRead_S hv (((HI.out.mono HR1.out).mono HR2.out).app R3) HCK.out HNX.out HSQ.out n).mono ?_); rintro e w1 ⟨ba4, bn4, bc4, ha, hn, hc, R4, rfl, hv1, hI4, hG4⟩; replace hv := hv1; clear hv1; have HI4 := Lib.hid hI4; have HG4 := Lib.hid hG4; clear hI4 hG4; obtain ⟨RZ, hRZ⟩ : ∃ RZ, R4 ++ (R3 ++ R2) = RZ := ⟨_, rfl⟩; have HZ : Hid (∀ x ∈ R3 ++ R2, x ∈ RZ) := Lib.hid (fun x hx => hRZ ▸ List.mem_append_right R4 hx); rw [hRZ] at hv HI4 HG4)
    | ((with_reducible refine at_alloc (T := 26) (dst := some 9) ?_); refine wl_newb rfl #[.int .u32 0, .slice none 0 0, .slice none 0 0] 26 (fun _ => rfl) ?_; intro b9 w2 hm2; replace hv := hv.madeAt hm2; clear hm2)
    | ((with_reducible refine at_alloc (T := 26) (dst := some 11) ?_); refine wl_newb rfl #[.int .u32 0, .slice none 0 0, .slice none 0 0] 26 (fun _ => rfl) ?_; intro b11 w2 hm2; replace hv := hv.madeAt hm2; clear hm2)
    | ((with_reducible refine at_alloc (T := 26) (dst := some 13) ?_); refine wl_newb rfl #[.int .u32 0, .slice none 0 0, .slice none 0 0] 26 (fun _ => rfl) ?_; intro b13 w2 hm2; replace hv := hv.madeAt hm2; clear hm2)
    | ((with_reducible refine at_alloc (T := 26) (dst := some 15) ?_); refine wl_newb rfl #[.int .u32 0, .slice none 0 0, .slice none 0 0] 26 (fun _ => rfl) ?_; intro b15 w2 hm2; replace hv := hv.madeAt hm2; clear hm2)
    | ((with_reducible refine at_store (T := 26) ?_); refine wl_stv rfl b9 rfl _ rfl _ (hv.vars.row (by first | exact .head _ | exact .tail _ (.head _) | exact .tail _ (.tail _ (.head _)) | exact .tail _ (.tail _ (.tail _ (.head _))) | exact .tail _ (.tail _ (.tail _ (.tail _ (.head _)))) | exact .tail _ (.tail _ (.tail _ (.tail _ (.tail _ (.head _))))) | exact .tail _ (.tail _ (.tail _ (.tail _ (.tail _ (.tail _ (.head _)))))) | exact .tail _ (.tail _ (.tail _ (.tail _ (.tail _ (.tail _ (.tail _ (.head _))))))))) (hv.vars.sft (by first | exact .head _ | exact .tail _ (.head _) | exact .tail _ (.tail _ (.head _)) | exact .tail _ (.tail _ (.tail _ (.head _))) | exact .tail _ (.tail _ (.tail _ (.tail _ (.head _)))) | exact .tail _ (.tail _ (.tail _ (.tail _ (.tail _ (.head _))))) | exact .tail _ (.tail _ (.tail _ (.tail _ (.tail _ (.tail _ (.head _)))))) | exact .tail _ (.tail _ (.tail _ (.tail _ (.tail _ (.tail _ (.tail _ (.head _))))))))) 3 infoStr rfl rfl (by simp [Value.oneCell']) ?_; intro w2 hw2; (first | (replace hv := hv.set 0 rfl hw2) | (replace hv := hv.set 1 rfl hw2) | (replace hv := hv.set 2 rfl hw2) | (replace hv := hv.set 3 rfl hw2) | (replace hv := hv.set 4 rfl hw2) | (replace hv := hv.set 5 rfl hw2) | (replace hv := hv.set 6 rfl hw2) | (replace hv := hv.set 7 rfl hw2)); clear hw2; simp only [List.set] at hv)
    | ((with_reducible refine at_store (T := 26) ?_); refine wl_stv rfl b11 rfl _ rfl _ (hv.vars.row (by first | exact .head _ | exact .tail _ (.head _) | exact .tail _ (.tail _ (.head _)) | exact .tail _ (.tail _ (.tail _ (.head _))) | exact .tail _ (.tail _ (.tail _ (.tail _ (.head _)))) | exact .tail _ (.tail _ (.tail _ (.tail _ (.tail _ (.head _))))) | exact .tail _ (.tail _ (.tail _ (.tail _ (.tail _ (.tail _ (.head _)))))) | exact .tail _ (.tail _ (.tail _ (.tail _ (.tail _ (.tail _ (.tail _ (.head _))))))))) (hv.vars.sft (by first | exact .head _ | exact .tail _ (.head _) | exact .tail _ (.tail _ (.head _)) | exact .tail _ (.tail _ (.tail _ (.head _))) | exact .tail _ (.tail _ (.tail _ (.tail _ (.head _)))) | exact .tail _ (.tail _ (.tail _ (.tail _ (.tail _ (.head _))))) | exact .tail _ (.tail _ (.tail _ (.tail _ (.tail _ (.tail _ (.head _)))))) | exact .tail _ (.tail _ (.tail _ (.tail _ (.tail _ (.tail _ (.tail _ (.head _))))))))) 3 infoStr rfl rfl (by simp [Value.oneCell']) ?_; intro w2 hw2; (first | (replace hv := hv.set 0 rfl hw2) | (replace hv := hv.set 1 rfl hw2) | (replace hv := hv.set 2 rfl hw2) | (replace hv := hv.set 3 rfl hw2) | (replace hv := hv.set 4 rfl hw2) | (replace hv := hv.set 5 rfl hw2) | (replace hv := hv.set 6 rfl hw2) | (replace hv := hv.set 7 rfl hw2)); clear hw2; simp only [List.set] at hv)
    | ((with_reducible refine at_store (T := 26) ?_); refine wl_stv rfl b13 rfl _ rfl _ (hv.vars.row (by first | exact .head _ | exact .tail _ (.head _) | exact .tail _ (.tail _ (.head _)) | exact .tail _ (.tail _ (.tail _ (.head _))) | exact .tail _ (.tail _ (.tail _ (.tail _ (.head _)))) | exact .tail _ (.tail _ (.tail _ (.tail _ (.tail _ (.head _))))) | exact .tail _ (.tail _ (.tail _ (.tail _ (.tail _ (.tail _ (.head _)))))) | exact .tail _ (.tail _ (.tail _ (.tail _ (.tail _ (.tail _ (.tail _ (.head _))))))))) (hv.vars.sft (by first | exact .head _ | exact .tail _ (.head _) | exact .tail _ (.tail _ (.head _)) | exact .tail _ (.tail _ (.tail _ (.head _))) | exact .tail _ (.tail _ (.tail _ (.tail _ (.head _)))) | exact .tail _ (.tail _ (.tail _ (.tail _ (.tail _ (.head _))))) | exact .tail _ (.tail _ (.tail _ (.tail _ (.tail _ (.tail _ (.head _)))))) | exact .tail _ (.tail _ (.tail _ (.tail _ (.tail _ (.tail _ (.tail _ (.head _))))))))) 3 infoStr rfl rfl (by simp [Value.oneCell']) ?_; intro w2 hw2; (first | (replace hv := hv.set 0 rfl hw2) | (replace hv := hv.set 1 rfl hw2) | (replace hv := hv.set 2 rfl hw2) | (replace hv := hv.set 3 rfl hw2) | (replace hv := hv.set 4 rfl hw2) | (replace hv := hv.set 5 rfl hw2) | (replace hv := hv.set 6 rfl hw2) | (replace hv := hv.set 7 rfl hw2)); clear hw2; simp only [List.set] at hv)
    | ((with_reducible refine at_store (T := 26) ?_); refine wl_stv rfl b15 rfl _ rfl _ (hv.vars.row (by first | exact .head _ | exact .tail _ (.head _) | exact .tail _ (.tail _ (.head _)) | exact .tail _ (.tail _ (.tail _ (.head _))) | exact .tail _ (.tail _ (.tail _ (.tail _ (.head _)))) | exact .tail _ (.tail _ (.tail _ (.tail _ (.tail _ (.head _))))) | exact .tail _ (.tail _ (.tail _ (.tail _ (.tail _ (.tail _ (.head _)))))) | exact .tail _ (.tail _ (.tail _ (.tail _ (.tail _ (.tail _ (.tail _ (.head _))))))))) (hv.vars.sft (by first | exact .head _ | exact .tail _ (.head _) | exact .tail _ (.tail _ (.head _)) | exact .tail _ (.tail _ (.tail _ (.head _))) | exact .tail _ (.tail _ (.tail _ (.tail _ (.head _)))) | exact .tail _ (.tail _ (.tail _ (.tail _ (.tail _ (.head _))))) | exact .tail _ (.tail _ (.tail _ (.tail _ (.tail _ (.tail _ (.head _)))))) | exact .tail _ (.tail _ (.tail _ (.tail _ (.tail _ (.tail _ (.tail _ (.head _))))))))) 3 infoStr rfl rfl (by simp [Value.oneCell']) ?_; intro w2 hw2; (first | (replace hv := hv.set 0 rfl hw2) | (replace hv := hv.set 1 rfl hw2) | (replace hv := hv.set 2 rfl hw2) | (replace hv := hv.set 3 rfl hw2) | (replace hv := hv.set 4 rfl hw2) | (replace hv := hv.set 5 rfl hw2) | (replace hv := hv.set 6 rfl hw2) | (replace hv := hv.set 7 rfl hw2)); clear hw2; simp only [List.set] at hv))
  have z1 := HI1.out.mono (fun x hx => HZ.out x (List.mem_append_right R3 (HR2.out x hx)))
  have z2 := HI2.out.mono (fun x hx => HZ.out x (List.mem_append_right R3 hx))
  have z3 := HI3.out.mono HZ.out
  have z0 := ((HI.out.mono HR1.out).mono HR2.out).mono (fun x hx => HZ.out x (List.mem_append_right R3 hx))
  have hc1 := (out_ok HCK.out HT1.out).1
  have hl1 : l1.length ≤ 1000 := by have := (z1.small hc1).1; omega
  have hl0 : l.length ≤ 1000 := by have := (z0.small HCK.out).1; omega
  obtain ⟨rm, hrm⟩ : ∃ rm, room s = rm := ⟨_, rfl⟩
  have hgr : goodSt ⟨s.next, s.bytes.drop (clampN n s.bytes.length), s.ps⟩ := ⟨fun x hx => HG.out.1 x (List.mem_of_mem_drop hx), HG.out.2⟩
  have kS1 : ∀ w', Mem w' w' [] RZ → Calls Try.prog 11 #[.agg #[.int .u32 (nx1 : Nat), .slice ba1 bn1 bc1, .slice pa1 pn1 pc1], .agg #[.int .u32 (nx2 : Nat), .slice ba2 bn2 bc2, .slice pa2 pn2 pc2]] w' fun e w2 => e = .returned (.bool true) ∧ New w' w2 := fun w' h => Same_S h z1 z2 hl1 (good_out HG.out HGD.out HT1.out)
  have kS2 : ∀ w', Mem w' w' [] RZ → Calls Try.prog 11 #[.agg #[.int .u32 (nx : Nat), .slice ba3 bn3 bc3, .slice pa pn pc], .agg #[.int .u32 (nx : Nat), .slice ba4 bn4 bc4, .slice pa pn pc]] w' fun e w2 => e = .returned (.bool true) ∧ New w' w2 := fun w' h => Same_S h z3 HI4.out hl0 hgr
  have kBy : ∀ w', Mem w' w' [] RZ → Calls Try.prog 16 #[.slice ga gn gc, .slice ha hn hc] w' fun e w2 => e = .returned (.bool true) ∧ New w' w2 := fun w' h => Bytes_alike _ _ _ w' (h.rd (HZ.out _ HG3.out)) (h.rd HG4.out) (fun x hx => HG.out.1 x (List.mem_of_mem_take hx))
  have kRo : ∀ w', Mem w' w' [] RZ → Calls Try.prog 17 #[.agg #[.int .u32 (nx : Nat), .slice ba bn bc, .slice pa pn pc]] w' fun e w2 => e = .returned (.int .i64 rm) ∧ New w' w2 := fun w' h => by
    have := Room_S h z0 HCK.out
    rwa [hrm] at this
  have kRr : ∀ w', Mem w' w' [] RZ → Calls Try.prog 18 #[.agg #[.int .u32 (nx : Nat), .slice ba bn bc, .slice pa pn pc]] w' fun e w2 => e = .returned (.int .i64 rm) ∧ New w' w2 := fun w' h => by
    obtain ⟨c1, c2, c3⟩ := z0.small HCK.out
    have := RRoom_any nx ba pa bn bc pn pc s.bytes l w' w' [] RZ h z0.b z0.p z0.all (by have := len_rdP (h.rd z0.p); omega) (by omega) (fun p hp => by have := c3 p hp; omega) HNX.out HSQ.out
    rwa [z0.st, hrm] at this
  have kCk : ∀ w', Mem w' w' [] RZ → Calls Try.prog 12 #[.agg #[.int .u32 (nx : Nat), .slice ba bn bc, .slice pa pn pc]] w' fun e w2 => e = .returned (.bool true) ∧ New w' w2 := fun w' h => Check_S h z0 HCK.out
  have kRc : ∀ w', Mem w' w' [] RZ → Calls Try.prog 8 #[.agg #[.int .u32 (nx : Nat), .slice ba bn bc, .slice pa pn pc]] w' fun e w2 => e = .returned (.bool true) ∧ New w' w2 := fun w' h => by
    have := RCheck_S h z0 HF.out HNX.out HSQ.out
    rwa [HCK.out] at this
  have HMK := Lib.hid hv
  clear z1 z2 z3 z0 hc1 hl1 hl0 hgr hrm
  go_wp2
  refine Any.wp_region_walk [⟨[1003], none⟩, ⟨[1002], none⟩, ⟨[], none⟩, ⟨[], none⟩, ⟨[], none⟩, ⟨[], none⟩, ⟨[], none⟩, ⟨[], none⟩, ⟨[], none⟩, ⟨[1001], none⟩, ⟨[1000], none⟩, ⟨[], none⟩, ⟨[], none⟩, ⟨[], none⟩, ⟨[], none⟩, ⟨[], none⟩, ⟨[], none⟩, ⟨[], none⟩, ⟨[], none⟩, ⟨[1004], none⟩, ⟨[], none⟩, ⟨[1004], none⟩, ⟨[], none⟩, ⟨[], none⟩, ⟨[], none⟩, ⟨[], none⟩, ⟨[1004], none⟩, ⟨[], none⟩, ⟨[1004], none⟩, ⟨[], none⟩, ⟨[], none⟩, ⟨[], none⟩, ⟨[], none⟩, ⟨[], none⟩, ⟨[], none⟩, ⟨[], none⟩] [.val, .val, .val, .val, .val, .val, .val, .val, .val, .val, .val, .val, .val, .val, .val, .val, .val, .val, .val, .val, .val, .val, .val, .val, .val, .val, .val, .val, .val, .val, .val, .val, .val, .val, .val, .val] (by kernel_rfl) (by kernel_rfl) hv.vars ?_
  simp only [List.length_cons, List.length_nil, Nat.zero_add, Any.someVals]
  iterate 36 apply Exists.intro
  repeat (first
    | (refine Any.E_off rfl ?_; simp only [Act.put, List.setIfInBounds_toArray, List.set_cons_succ, List.set_cons_zero])
    | (apply Any.E_pureq rfl rfl rfl
       case h => intro K hK; go_big_quiet_op; (refine hK _ ?_; rfl)
       case hr => exact fun _ => rfl
       simp only [Act.put, List.setIfInBounds_toArray, List.set_cons_succ, List.set_cons_zero])
    | (apply Any.E_val rfl rfl rfl rfl
       case h =>
         intro E' hA K hK
         first
           | ((with_reducible refine Any.at_qload (T := 26) ?_); refine Any.q_ldv 1000 hA (by decide) rfl rfl 3 _ Try.underlying26 rfl infoStr (by decide) rfl ?_; refine hK _ ?_; rfl)
           | ((with_reducible refine Any.at_qload (T := 26) ?_); refine Any.q_ldv 1001 hA (by decide) rfl rfl 3 _ Try.underlying26 rfl infoStr (by decide) rfl ?_; refine hK _ ?_; rfl)
           | ((with_reducible refine Any.at_qload (T := 26) ?_); refine Any.q_ldv 1002 hA (by decide) rfl rfl 3 _ Try.underlying26 rfl infoStr (by decide) rfl ?_; refine hK _ ?_; rfl)
           | ((with_reducible refine Any.at_qload (T := 26) ?_); refine Any.q_ldv 1003 hA (by decide) rfl rfl 3 _ Try.underlying26 rfl infoStr (by decide) rfl ?_; refine hK _ ?_; rfl)
           | ((with_reducible refine Any.at_qload (T := 26) ?_); refine Any.q_ldv 1004 hA (by decide) rfl rfl 3 _ Try.underlying26 rfl infoStr (by decide) rfl ?_; refine hK _ ?_; rfl)
           | (go_big_quiet_op; first
             | (refine hK _ ?_; rfl)
             | (refine ⟨_, fun _ _ => rfl, ?_⟩; refine hK _ ?_; rfl)
             | (apply Exists.intro; refine ⟨fun w1 hw1 => ?_, ?_⟩; · (first
                 | (go_at_call 11; with_reducible exact Any.calls_VE (kS1 _ (hw1.baseR HMK.out)) hw1)
                 | (go_at_call 11; with_reducible exact Any.calls_VE (kS2 _ (hw1.baseR HMK.out)) hw1)
                 | (go_at_call 16; with_reducible exact Any.calls_VE (kBy _ (hw1.baseR HMK.out)) hw1)
                 | (go_at_call 17; with_reducible exact Any.calls_VE (kRo _ (hw1.baseR HMK.out)) hw1)
                 | (go_at_call 18; with_reducible exact Any.calls_VE (kRr _ (hw1.baseR HMK.out)) hw1)
                 | (go_at_call 12; with_reducible exact Any.calls_VE (kCk _ (hw1.baseR HMK.out)) hw1)
                 | (go_at_call 8; with_reducible exact Any.calls_VE (kRc _ (hw1.baseR HMK.out)) hw1)
                 | (go_at_call 9; with_reducible exact Any.calls_VE (heads25 _) hw1))
                refine hK _ ?_; rfl))
       case hD => rfl
       simp only [Act.put, List.setIfInBounds_toArray, List.set_cons_succ, List.set_cons_zero])
    | ((with_reducible refine Any.at_ealloc ?_); refine Any.E_lay rfl rfl rfl (fun _ => rfl) ?_; intro B; simp only [Act.put, List.setIfInBounds_toArray, List.set_cons_succ, List.set_cons_zero]))
  try any_goals exact undef
  refine Any.E_nil ?_
  intro w9 hE9
  replace hv : Mem w w9 [(b15, #[.int .u32 (nx : Nat), .slice ba4 bn4 bc4, .slice pa pn pc]), (b13, #[.int .u32 (nx : Nat), .slice ba3 bn3 bc3, .slice pa pn pc]), (b11, #[.int .u32 (nx2 : Nat), .slice ba2 bn2 bc2, .slice pa2 pn2 pc2]), (b9, #[.int .u32 (nx1 : Nat), .slice ba1 bn1 bc1, .slice pa1 pn1 pc1]), (b4, #[.int .u32 (nx : Nat), .slice ba bn bc, .slice pa pn pc])] _ := hE9.mem hv [1000, 1001, 1002, 1003, 1004] (by decide)
  clear hE9
  go_wp2
  go_ret
  exact ⟨rfl, hv.below⟩
set_option maxRecDepth 100000 in
set_option maxHeartbeats 8000000 in
theorem Tells_no (nx seq : Nat) (n : Int) (ba pa : Option Addr) (bn bc pn pc : Nat) (s : St) (l : List PcV) (da : Option Addr) (dn dc : Nat) (data : List Nat) (w : World) (R : List (Nat × Value × List Value)) (hv : Mem w w [] R) (hi : InS R nx (.slice ba bn bc) (.slice pa pn pc) s l) (hd : (1, .slice da dn dc, cellsB data) ∈ R) (kF : ∀ w' L', Mem w w' L' R → Calls Try.prog 7 #[.agg #[.int .u32 (nx : Nat), .slice ba bn bc, .slice pa pn pc]] w' fun e w2 => e = .returned (.bool true) ∧ New w' w2) (hck : chk s = false) (hf : fewB s.bytes l = true) (hnx : nx < 4294967296) (hsq : ∀ p ∈ l, p.1 < 4294967296) (hg : goodSt s) (h1 : dn ≤ 600) : Calls Try.prog 4 #[.agg #[.int .u32 (nx : Nat), .slice ba bn bc, .slice pa pn pc], .int .u32 (seq : Nat), .slice da dn dc, .int .i64 n] w (fun e w' => e = .returned (.bool true) ∧ New w w') := by
  have y1 : decide ((600 : Int) < (dn : Int)) = false := decide_eq_false (by omega)
  have y2 : decide ((dn : Int) > 600) = false := y1
  have hff := hf
  unfold fewB at hff
  simp only [Bool.and_eq_true, decide_eq_true_eq, List.all_eq_true] at hff
  have hst := hi.st
  obtain ⟨rm, hrm⟩ : ∃ rm, room s = rm := ⟨_, rfl⟩
  have kT : ∀ w' L', Mem w w' L' R → Calls Try.prog 10 #[.agg #[.int .u32 (nx : Nat), .slice ba bn bc, .slice pa pn pc], .int .u32 (seq : Nat), .slice da dn dc] w' fun e w2 => e = .returned (.tuple #[.agg #[.int .u32 (nx : Nat), .slice ba bn bc, .slice pa pn pc], .int .i64 0]) ∧ Mem w w2 L' R := fun w' L' h => Take_no nx ba pa bn bc pn pc s.bytes l seq da dn dc w w' L' R h hi.b hi.p hi.all (by have := len_rdP (h.rd hi.p); omega) (by omega) (fun p hp => by have := hff.2 p hp; omega) (by rw [hst]; exact hck)
  have kU : ∀ w' L', Mem w w' L' R → Calls Try.prog 13 #[.agg #[.int .u32 (nx : Nat), .slice ba bn bc, .slice pa pn pc], .int .u32 (seq : Nat), .slice da dn dc] w' fun e w2 => e = .returned (.tuple #[.agg #[.int .u32 (nx : Nat), .slice ba bn bc, .slice pa pn pc], .int .i64 0]) ∧ Mem w w2 L' R := fun w' L' h => RTake_no nx ba pa bn bc pn pc s.bytes l seq da dn dc w w' L' R h hi.b hi.p hi.all (by have := len_rdP (h.rd hi.p); omega) (by omega) (fun p hp => by have := hff.2 p hp; omega) hnx hsq (by rw [hst]; exact hck)
  have kV : ∀ w' L', Mem w w' L' R → Calls Try.prog 14 #[.agg #[.int .u32 (nx : Nat), .slice ba bn bc, .slice pa pn pc], .int .i64 n] w' fun e w2 => e = .returned (.tuple #[.agg #[.int .u32 (nx : Nat), .slice ba bn bc, .slice pa pn pc], .slice none 0 0]) ∧ Mem w w2 L' R := fun w' L' h => Read_no nx ba pa bn bc pn pc s.bytes l n w w' L' R h hi.b hi.p hi.all (by have := len_rdP (h.rd hi.p); omega) (by omega) (fun p hp => by have := hff.2 p hp; omega) (by rw [hst]; exact hck)
  have kW : ∀ w' L', Mem w w' L' R → Calls Try.prog 15 #[.agg #[.int .u32 (nx : Nat), .slice ba bn bc, .slice pa pn pc], .int .i64 n] w' fun e w2 => e = .returned (.tuple #[.agg #[.int .u32 (nx : Nat), .slice ba bn bc, .slice pa pn pc], .slice none 0 0]) ∧ Mem w w2 L' R := fun w' L' h => RRead_no nx ba pa bn bc pn pc s.bytes l n w w' L' R h hi.b hi.p hi.all (by have := len_rdP (h.rd hi.p); omega) (by omega) (fun p hp => by have := hff.2 p hp; omega) hnx hsq (by rw [hst]; exact hck)
  have kS1 : ∀ w', Mem w' w' [] R → Calls Try.prog 11 #[.agg #[.int .u32 (nx : Nat), .slice ba bn bc, .slice pa pn pc], .agg #[.int .u32 (nx : Nat), .slice ba bn bc, .slice pa pn pc]] w' fun e w2 => e = .returned (.bool true) ∧ New w' w2 := fun w' h => Same_S h hi hi (by omega) hg
  have kBy : ∀ w', Mem w' w' [] R → Calls Try.prog 16 #[.slice none 0 0, .slice none 0 0] w' fun e w2 => e = .returned (.bool true) ∧ New w' w2 := fun w' h => Bytes_alike _ _ [] w' (Rd.nil _ _) (Rd.nil _ _) (fun x hx => (List.not_mem_nil hx).elim)
  have kRo : ∀ w', Mem w' w' [] R → Calls Try.prog 17 #[.agg #[.int .u32 (nx : Nat), .slice ba bn bc, .slice pa pn pc]] w' fun e w2 => e = .returned (.int .i64 rm) ∧ New w' w2 := fun w' h => by
    have := Room_any nx ba pa bn bc pn pc s.bytes l w' w' [] R h hi.b hi.p hi.all (by have := len_rdP (h.rd hi.p); omega) (by omega) (fun p hp => by have := hff.2 p hp; omega)
    rwa [hst, hrm] at this
  have kRr : ∀ w', Mem w' w' [] R → Calls Try.prog 18 #[.agg #[.int .u32 (nx : Nat), .slice ba bn bc, .slice pa pn pc]] w' fun e w2 => e = .returned (.int .i64 rm) ∧ New w' w2 := fun w' h => by
    have := RRoom_any nx ba pa bn bc pn pc s.bytes l w' w' [] R h hi.b hi.p hi.all (by have := len_rdP (h.rd hi.p); omega) (by omega) (fun p hp => by have := hff.2 p hp; omega) hnx hsq
    rwa [hst, hrm] at this
  have kCk : ∀ w', Mem w' w' [] R → Calls Try.prog 12 #[.agg #[.int .u32 (nx : Nat), .slice ba bn bc, .slice pa pn pc]] w' fun e w2 => e = .returned (.bool false) ∧ New w' w2 := fun w' h => by
    have := Check_any nx ba pa bn bc pn pc s.bytes l w' w' [] R h hi.b hi.p hi.all (by have := len_rdP (h.rd hi.p); omega) (by omega) (fun p hp => by have := hff.2 p hp; omega)
    rwa [hst, hck] at this
  have kRc : ∀ w', Mem w' w' [] R → Calls Try.prog 8 #[.agg #[.int .u32 (nx : Nat), .slice ba bn bc, .slice pa pn pc]] w' fun e w2 => e = .returned (.bool false) ∧ New w' w2 := fun w' h => by
    have := RCheck_S h hi hf hnx hsq
    rwa [hck] at this
  have kS2 := kS1
  clear hi hd hck hf hff hnx hsq hg h1 hst hrm
  go_enter Try.func4, Try.ntmps4
  go_wp2_with (first
    | ((with_reducible refine at_box (T := 26) (dst := some 4) ?_); refine wl_newb rfl #[.int .u32 (nx : Nat), .slice ba bn bc, .slice pa pn pc] 26 (fun _ => rfl) ?_; intro b4 w2 hm2; replace hv := hv.madeAt hm2; clear hm2)
    | ((with_reducible refine at_load (T := 26) ?_); refine wl_ldv rfl _ rfl _ (hv.vars.row (by first | exact .head _ | exact .tail _ (.head _) | exact .tail _ (.tail _ (.head _)) | exact .tail _ (.tail _ (.tail _ (.head _))) | exact .tail _ (.tail _ (.tail _ (.tail _ (.head _)))) | exact .tail _ (.tail _ (.tail _ (.tail _ (.tail _ (.head _))))) | exact .tail _ (.tail _ (.tail _ (.tail _ (.tail _ (.tail _ (.head _)))))) | exact .tail _ (.tail _ (.tail _ (.tail _ (.tail _ (.tail _ (.tail _ (.head _))))))))) 3 _ Try.underlying26 rfl infoStr (by decide) rfl ?_)
    | (go_at_call 7; (with_reducible refine (kF _ _ hv).mono ?_); rintro e w1 ⟨rfl, hn1⟩; replace hv := hv.new hn1; clear hn1)
    | (go_at_call 10; (with_reducible refine (kT _ _ hv).mono ?_); rintro e w1 ⟨rfl, hv1⟩; replace hv := hv1; clear hv1)
    | (go_at_call 13; (with_reducible refine (kU _ _ hv).mono ?_); rintro e w1 ⟨rfl, hv1⟩; replace hv := hv1; clear hv1)
    | (go_at_call 14; (with_reducible refine (kV _ _ hv).mono ?_); rintro e w1 ⟨rfl, hv1⟩; replace hv := hv1; clear hv1)
    | (go_at_call 15; (with_reducible refine (kW _ _ hv).mono ?_); rintro e w1 ⟨rfl, hv1⟩; replace hv := hv1; clear hv1)
    | ((with_reducible refine at_alloc (T := 26) (dst := some 9) ?_); refine wl_newb rfl #[.int .u32 0, .slice none 0 0, .slice none 0 0] 26 (fun _ => rfl) ?_; intro b9 w2 hm2; replace hv := hv.madeAt hm2; clear hm2)
    | ((with_reducible refine at_alloc (T := 26) (dst := some 11) ?_); refine wl_newb rfl #[.int .u32 0, .slice none 0 0, .slice none 0 0] 26 (fun _ => rfl) ?_; intro b11 w2 hm2; replace hv := hv.madeAt hm2; clear hm2)
    | ((with_reducible refine at_alloc (T := 26) (dst := some 13) ?_); refine wl_newb rfl #[.int .u32 0, .slice none 0 0, .slice none 0 0] 26 (fun _ => rfl) ?_; intro b13 w2 hm2; replace hv := hv.madeAt hm2; clear hm2)
    | ((with_reducible refine at_alloc (T := 26) (dst := some 15) ?_); refine wl_newb rfl #[.int .u32 0, .slice none 0 0, .slice none 0 0] 26 (fun _ => rfl) ?_; intro b15 w2 hm2; replace hv := hv.madeAt hm2; clear hm2)
    | ((with_reducible refine at_store (T := 26) ?_); refine wl_stv rfl b9 rfl _ rfl _ (hv.vars.row (by first | exact .head _ | exact .tail _ (.head _) | exact .tail _ (.tail _ (.head _)) | exact .tail _ (.tail _ (.tail _ (.head _))) | exact .tail _ (.tail _ (.tail _ (.tail _ (.head _)))) | exact .tail _ (.tail _ (.tail _ (.tail _ (.tail _ (.head _))))) | exact .tail _ (.tail _ (.tail _ (.tail _ (.tail _ (.tail _ (.head _)))))) | exact .tail _ (.tail _ (.tail _ (.tail _ (.tail _ (.tail _ (.tail _ (.head _))))))))) (hv.vars.sft (by first | exact .head _ | exact .tail _ (.head _) | exact .tail _ (.tail _ (.head _)) | exact .tail _ (.tail _ (.tail _ (.head _))) | exact .tail _ (.tail _ (.tail _ (.tail _ (.head _)))) | exact .tail _ (.tail _ (.tail _ (.tail _ (.tail _ (.head _))))) | exact .tail _ (.tail _ (.tail _ (.tail _ (.tail _ (.tail _ (.head _)))))) | exact .tail _ (.tail _ (.tail _ (.tail _ (.tail _ (.tail _ (.tail _ (.head _))))))))) 3 infoStr rfl rfl (by simp [Value.oneCell']) ?_; intro w2 hw2; (first | (replace hv := hv.set 0 rfl hw2) | (replace hv := hv.set 1 rfl hw2) | (replace hv := hv.set 2 rfl hw2) | (replace hv := hv.set 3 rfl hw2) | (replace hv := hv.set 4 rfl hw2) | (replace hv := hv.set 5 rfl hw2) | (replace hv := hv.set 6 rfl hw2) | (replace hv := hv.set 7 rfl hw2)); clear hw2; simp only [List.set] at hv)
    | ((with_reducible refine at_store (T := 26) ?_); refine wl_stv rfl b11 rfl _ rfl _ (hv.vars.row (by first | exact .head _ | exact .tail _ (.head _) | exact .tail _ (.tail _ (.head _)) | exact .tail _ (.tail _ (.tail _ (.head _))) | exact .tail _ (.tail _ (.tail _ (.tail _ (.head _)))) | exact .tail _ (.tail _ (.tail _ (.tail _ (.tail _ (.head _))))) | exact .tail _ (.tail _ (.tail _ (.tail _ (.tail _ (.tail _ (.head _)))))) | exact .tail _ (.tail _ (.tail _ (.tail _ (.tail _ (.tail _ (.tail _ (.head _))))))))) (hv.vars.sft (by first | exact .head _ | exact .tail _ (.head _) | exact .tail _ (.tail _ (.head _)) | exact .tail _ (.tail _ (.tail _ (.head _))) | exact .tail _ (.tail _ (.tail _ (.tail _ (.head _)))) | exact .tail _ (.tail _ (.tail _ (.tail _ (.tail _ (.head _))))) | exact .tail _ (.tail _ (.tail _ (.tail _ (.tail _ (.tail _ (.head _)))))) | exact .tail _ (.tail _ (.tail _ (.tail _ (.tail _ (.tail _ (.tail _ (.head _))))))))) 3 infoStr rfl rfl (by simp [Value.oneCell']) ?_; intro w2 hw2; (first | (replace hv := hv.set 0 rfl hw2) | (replace hv := hv.set 1 rfl hw2) | (replace hv := hv.set 2 rfl hw2) | (replace hv := hv.set 3 rfl hw2) | (replace hv := hv.set 4 rfl hw2) | (replace hv := hv.set 5 rfl hw2) | (replace hv := hv.set 6 rfl hw2) | (replace hv := hv.set 7 rfl hw2)); clear hw2; simp only [List.set] at hv)
    | ((with_reducible refine at_store (T := 26) ?_); refine wl_stv rfl b13 rfl _ rfl _ (hv.vars.row (by first | exact .head _ | exact .tail _ (.head _) | exact .tail _ (.tail _ (.head _)) | exact .tail _ (.tail _ (.tail _ (.head _))) | exact .tail _ (.tail _ (.tail _ (.tail _ (.head _)))) | exact .tail _ (.tail _ (.tail _ (.tail _ (.tail _ (.head _))))) | exact .tail _ (.tail _ (.tail _ (.tail _ (.tail _ (.tail _ (.head _)))))) | exact .tail _ (.tail _ (.tail _ (.tail _ (.tail _ (.tail _ (.tail _ (.head _))))))))) (hv.vars.sft (by first | exact .head _ | exact .tail _ (.head _) | exact .tail _ (.tail _ (.head _)) | exact .tail _ (.tail _ (.tail _ (.head _))) | exact .tail _ (.tail _ (.tail _ (.tail _ (.head _)))) | exact .tail _ (.tail _ (.tail _ (.tail _ (.tail _ (.head _))))) | exact .tail _ (.tail _ (.tail _ (.tail _ (.tail _ (.tail _ (.head _)))))) | exact .tail _ (.tail _ (.tail _ (.tail _ (.tail _ (.tail _ (.tail _ (.head _))))))))) 3 infoStr rfl rfl (by simp [Value.oneCell']) ?_; intro w2 hw2; (first | (replace hv := hv.set 0 rfl hw2) | (replace hv := hv.set 1 rfl hw2) | (replace hv := hv.set 2 rfl hw2) | (replace hv := hv.set 3 rfl hw2) | (replace hv := hv.set 4 rfl hw2) | (replace hv := hv.set 5 rfl hw2) | (replace hv := hv.set 6 rfl hw2) | (replace hv := hv.set 7 rfl hw2)); clear hw2; simp only [List.set] at hv)
    | ((with_reducible refine at_store (T := 26) ?_); refine wl_stv rfl b15 rfl _ rfl _ (hv.vars.row (by first | exact .head _ | exact .tail _ (.head _) | exact .tail _ (.tail _ (.head _)) | exact .tail _ (.tail _ (.tail _ (.head _))) | exact .tail _ (.tail _ (.tail _ (.tail _ (.head _)))) | exact .tail _ (.tail _ (.tail _ (.tail _ (.tail _ (.head _))))) | exact .tail _ (.tail _ (.tail _ (.tail _ (.tail _ (.tail _ (.head _)))))) | exact .tail _ (.tail _ (.tail _ (.tail _ (.tail _ (.tail _ (.tail _ (.head _))))))))) (hv.vars.sft (by first | exact .head _ | exact .tail _ (.head _) | exact .tail _ (.tail _ (.head _)) | exact .tail _ (.tail _ (.tail _ (.head _))) | exact .tail _ (.tail _ (.tail _ (.tail _ (.head _)))) | exact .tail _ (.tail _ (.tail _ (.tail _ (.tail _ (.head _))))) | exact .tail _ (.tail _ (.tail _ (.tail _ (.tail _ (.tail _ (.head _)))))) | exact .tail _ (.tail _ (.tail _ (.tail _ (.tail _ (.tail _ (.tail _ (.head _))))))))) 3 infoStr rfl rfl (by simp [Value.oneCell']) ?_; intro w2 hw2; (first | (replace hv := hv.set 0 rfl hw2) | (replace hv := hv.set 1 rfl hw2) | (replace hv := hv.set 2 rfl hw2) | (replace hv := hv.set 3 rfl hw2) | (replace hv := hv.set 4 rfl hw2) | (replace hv := hv.set 5 rfl hw2) | (replace hv := hv.set 6 rfl hw2) | (replace hv := hv.set 7 rfl hw2)); clear hw2; simp only [List.set] at hv))
  have HMK := Lib.hid hv
  refine Any.wp_region_walk [⟨[1003], none⟩, ⟨[1002], none⟩, ⟨[], none⟩, ⟨[], none⟩, ⟨[], none⟩, ⟨[], none⟩, ⟨[], none⟩, ⟨[], none⟩, ⟨[], none⟩, ⟨[1001], none⟩, ⟨[1000], none⟩, ⟨[], none⟩, ⟨[], none⟩, ⟨[], none⟩, ⟨[], none⟩, ⟨[], none⟩, ⟨[], none⟩, ⟨[], none⟩, ⟨[], none⟩, ⟨[1004], none⟩, ⟨[], none⟩, ⟨[1004], none⟩, ⟨[], none⟩, ⟨[], none⟩, ⟨[], none⟩, ⟨[], none⟩, ⟨[1004], none⟩, ⟨[], none⟩, ⟨[1004], none⟩, ⟨[], none⟩, ⟨[], none⟩, ⟨[], none⟩, ⟨[], none⟩, ⟨[], none⟩, ⟨[], none⟩, ⟨[], none⟩] [.val, .val, .val, .val, .val, .val, .val, .val, .val, .val, .val, .val, .val, .val, .val, .val, .val, .val, .val, .val, .val, .val, .val, .val, .val, .val, .val, .val, .val, .val, .val, .val, .val, .val, .val, .val] (by kernel_rfl) (by kernel_rfl) hv.vars ?_
  simp only [List.length_cons, List.length_nil, Nat.zero_add, Any.someVals]
  iterate 36 apply Exists.intro
  repeat (first
    | (refine Any.E_off rfl ?_; simp only [Act.put, List.setIfInBounds_toArray, List.set_cons_succ, List.set_cons_zero])
    | (apply Any.E_pureq rfl rfl rfl
       case h => intro K hK; go_big_quiet_op; (refine hK _ ?_; rfl)
       case hr => exact fun _ => rfl
       simp only [Act.put, List.setIfInBounds_toArray, List.set_cons_succ, List.set_cons_zero])
    | (apply Any.E_val rfl rfl rfl rfl
       case h =>
         intro E' hA K hK
         first
           | ((with_reducible refine Any.at_qload (T := 26) ?_); refine Any.q_ldv 1000 hA (by decide) rfl rfl 3 _ Try.underlying26 rfl infoStr (by decide) rfl ?_; refine hK _ ?_; rfl)
           | ((with_reducible refine Any.at_qload (T := 26) ?_); refine Any.q_ldv 1001 hA (by decide) rfl rfl 3 _ Try.underlying26 rfl infoStr (by decide) rfl ?_; refine hK _ ?_; rfl)
           | ((with_reducible refine Any.at_qload (T := 26) ?_); refine Any.q_ldv 1002 hA (by decide) rfl rfl 3 _ Try.underlying26 rfl infoStr (by decide) rfl ?_; refine hK _ ?_; rfl)
           | ((with_reducible refine Any.at_qload (T := 26) ?_); refine Any.q_ldv 1003 hA (by decide) rfl rfl 3 _ Try.underlying26 rfl infoStr (by decide) rfl ?_; refine hK _ ?_; rfl)
           | ((with_reducible refine Any.at_qload (T := 26) ?_); refine Any.q_ldv 1004 hA (by decide) rfl rfl 3 _ Try.underlying26 rfl infoStr (by decide) rfl ?_; refine hK _ ?_; rfl)
           | (go_big_quiet_op; first
             | (refine hK _ ?_; rfl)
             | (refine ⟨_, fun _ _ => rfl, ?_⟩; refine hK _ ?_; rfl)
             | (apply Exists.intro; refine ⟨fun w1 hw1 => ?_, ?_⟩; · (first
                 | (go_at_call 11; with_reducible exact Any.calls_VE (kS1 _ (hw1.baseR HMK.out)) hw1)
                 | (go_at_call 11; with_reducible exact Any.calls_VE (kS2 _ (hw1.baseR HMK.out)) hw1)
                 | (go_at_call 16; with_reducible exact Any.calls_VE (kBy _ (hw1.baseR HMK.out)) hw1)
                 | (go_at_call 17; with_reducible exact Any.calls_VE (kRo _ (hw1.baseR HMK.out)) hw1)
                 | (go_at_call 18; with_reducible exact Any.calls_VE (kRr _ (hw1.baseR HMK.out)) hw1)
                 | (go_at_call 12; with_reducible exact Any.calls_VE (kCk _ (hw1.baseR HMK.out)) hw1)
                 | (go_at_call 8; with_reducible exact Any.calls_VE (kRc _ (hw1.baseR HMK.out)) hw1)
                 | (go_at_call 9; with_reducible exact Any.calls_VE (heads25 _) hw1))
                refine hK _ ?_; rfl))
       case hD => rfl
       simp only [Act.put, List.setIfInBounds_toArray, List.set_cons_succ, List.set_cons_zero])
    | ((with_reducible refine Any.at_ealloc ?_); refine Any.E_lay rfl rfl rfl (fun _ => rfl) ?_; intro B; simp only [Act.put, List.setIfInBounds_toArray, List.set_cons_succ, List.set_cons_zero]))
  try any_goals exact undef
  refine Any.E_nil ?_
  intro w9 hE9
  replace hv : Mem w w9 [(b15, #[.int .u32 (nx : Nat), .slice ba bn bc, .slice pa pn pc]), (b13, #[.int .u32 (nx : Nat), .slice ba bn bc, .slice pa pn pc]), (b11, #[.int .u32 (nx : Nat), .slice ba bn bc, .slice pa pn pc]), (b9, #[.int .u32 (nx : Nat), .slice ba bn bc, .slice pa pn pc]), (b4, #[.int .u32 (nx : Nat), .slice ba bn bc, .slice pa pn pc])] _ := hE9.mem hv [1000, 1001, 1002, 1003, 1004] (by decide)
  clear hE9
  go_wp2
  go_ret
  exact ⟨rfl, hv.below⟩
theorem WindowTells_any (nx seq : Nat) (n : Int) (bv pv : Value) (bs : List Nat) (l : List PcV) (dv : Value) (data : List Nat) (W : World) (hs : RdSt W nx bv pv bs l) (hseq : seq < 4294967296) (hd : Rd W 1 dv (cellsB data)) (hgd : goodB data) : Calls Try.prog 4 #[.agg #[.int .u32 (nx : Nat), bv, pv], .int .u32 (seq : Nat), dv, .int .i64 n] W fun e w' => e = .returned (.bool true) ∧ New W w' := by
  obtain ⟨hnx, hb, hgb, hp, hl⟩ := hs
  obtain ⟨ba, bn, bc, rfl, _⟩ := id hb
  obtain ⟨pa, pn, pc, rfl, _⟩ := id hp
  obtain ⟨da, dn, dc, rfl, _⟩ := id hd
  obtain ⟨R, hR⟩ : ∃ R : List (Nat × Value × List Value), R = (1, .slice ba bn bc, cellsB bs) :: (2, .slice pa pn pc, cellsP l) :: (1, .slice da dn dc, cellsB data) :: l.map (fun p => (1, p.2.1, cellsB p.2.2)) := ⟨_, rfl⟩
  have hv : Mem W W [] R := Mem.all (fun x hx => by
    subst hR
    rcases List.mem_cons.1 hx with rfl | hx
    · exact hb
    rcases List.mem_cons.1 hx with rfl | hx
    · exact hp
    rcases List.mem_cons.1 hx with rfl | hx
    · exact hd
    · obtain ⟨p, hp, rfl⟩ := List.mem_map.1 hx
      exact (hl p hp).2.1)
  have hi : InS R nx (.slice ba bn bc) (.slice pa pn pc) (stOf nx bs l) l := by
    subst hR
    exact ⟨Mem.z, Mem.s Mem.z, fun p hp => Mem.s (Mem.s (Mem.s (List.mem_map.2 ⟨p, hp, rfl⟩))), rfl⟩
  have hdm : (1, .slice da dn dc, cellsB data) ∈ R := by subst hR; exact Mem.s (Mem.s Mem.z)
  have hgs : goodSt (stOf nx bs l) := ⟨hgb, fun p hp => by
    obtain ⟨x, hx, rfl⟩ := List.mem_map.1 hp
    exact (hl x hx).2.2⟩
  have kF : ∀ w' L', Mem W w' L' R → Calls Try.prog 7 #[.agg #[.int .u32 (nx : Nat), .slice ba bn bc, .slice pa pn pc]] w' fun e w2 => e = .returned (.bool (fewB bs l)) ∧ New w' w2 := fun w' L' h => Few_S h hi
  by_cases hf : fewB bs l = true
  · rw [hf] at kF
    by_cases h1 : 600 < dn
    · exact Tells_long nx seq n ba pa bn bc pn pc _ l da dn dc data W R hv hi hdm kF h1
    · cases hc : chk (stOf nx bs l) with
      | false => exact Tells_no nx seq n ba pa bn bc pn pc _ l da dn dc data W R hv hi hdm kF hc hf hnx (fun p hp => (hl p hp).1) hgs (by omega)
      | true => exact Tells_yes nx seq n ba pa bn bc pn pc _ l da dn dc data W R hv hi hdm kF hc hf hnx (fun p hp => (hl p hp).1) hseq hgs hgd (by omega)
  · have hf2 : fewB bs l = false := by simpa using hf
    rw [hf2] at kF
    exact Tells_great nx seq n ba pa bn bc pn pc _ l da dn dc data W R hv hi hdm kF
end Go.Proofs.Ytpbeemgigpaacaa
