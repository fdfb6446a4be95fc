/-
  window.Read; Take of a stream that may not be.
-/
import Derived.Test.YtpbeemgigpaacaaWiCat
import Derived.Test.YtpbeemgigpaacaaWiWithin2
set_option linter.unusedVariables false
set_option linter.unusedSimpArgs false
namespace Go.Proofs.Wi
def clampN (n : Int) (m : Nat) : Nat := if n ≤ 0 then 0 else min n.toNat m
end Go.Proofs.Wi
namespace Go.Proofs.Ytpbeemgigpaacaa
open Go.Proofs.Wi Go.RowKit
/-- bytes.Clone of whatever is read. -/
theorem BClone_mem (ao : Option Addr) (n cap : Nat) (c : List Value) (w0 w : World) (L : List (Nat × Array Value)) (R : List (Nat × Value × List Value)) (hv : Mem w0 w L R) (hm : (1, .slice ao n cap, c) ∈ R) (h1 : ∀ x ∈ c, x.oneCell' = true) (hn : n ≤ 1000000) :
    Calls Try.prog 25 #[.slice ao n cap] w fun e w' => ∃ ra rn rcp, e = .returned (.slice ra rn rcp) ∧ Mem w0 w' L ((1, .slice ra rn rcp, c) :: R) := by
  cases ao with
  | none =>
    obtain ⟨ao', n', cap', e, g1, g2, g3, g4, g5⟩ := id (hv.rd hm)
    cases e
    obtain ⟨rfl, rfl⟩ := g4 rfl
    have hc : c = [] := List.length_eq_zero_iff.1 (by omega)
    subst hc
    refine (BClone_nil w).mono ?_
    rintro e w' ⟨rfl, rfl⟩
    exact ⟨none, 0, 0, rfl, hv.fresh (Below.refl _ _) (FR.nil _ _ 1)⟩
  | some a =>
    refine (BClone_row a n cap c w (hv.rd hm) h1 hn).mono ?_
    rintro e w' ⟨v, x, rfl, hr, h2, h3, h4, h5⟩
    obtain ⟨m, cp, rfl, _⟩ := id hr
    exact ⟨_, m, cp, rfl, Mem.yield (L1 := []) (hv.lay' h3 h2 h4 h5) hr⟩
/-- What Read answers. -/
def ReadR (w0 : World) (L : List (Nat × Array Value)) (R : List (Nat × Value × List Value)) (next : Nat) (pa : Option Addr) (pn pc : Nat) (bs : List Nat) (k : Nat) (e : Ending) (w' : World) : Prop :=
  ∃ ba bn bc ga gn gc, e = .returned (.tuple #[.agg #[.int .u32 (next : Nat), .slice ba bn bc, .slice pa pn pc], .slice ga gn gc]) ∧ Mem w0 w' L ((1, .slice ba bn bc, cellsB (bs.drop k)) :: (1, .slice ga gn gc, cellsB (bs.take k)) :: R)
set_option maxRecDepth 100000 in
set_option maxHeartbeats 4000000 in
theorem Read_no (next : Nat) (ba pa : Option Addr) (bn bc pn pc : Nat) (bs : List Nat) (l : List PcV) (n : Int) (w0 w : World) (L : List (Nat × Array Value)) (R : List (Nat × Value × List Value)) (hv0 : Mem w0 w L R) (hb : (1, .slice ba bn bc, cellsB bs) ∈ R) (hp : (2, .slice pa pn pc, cellsP l) ∈ R) (hal : AllP R l) (hpn : pn ≤ 1000) (hbn : bs.length ≤ 1000000) (hdl : ∀ p ∈ l, p.2.2.length ≤ 1000000) (hck : chk (stOf next bs l) = false) : Calls Try.prog 14 #[.agg #[.int .u32 (next : Nat), .slice ba bn bc, .slice pa pn pc], .int .i64 n] w fun e w' => e = .returned (.tuple #[.agg #[.int .u32 (next : Nat), .slice ba bn bc, .slice pa pn pc], .slice none 0 0]) ∧ Mem w0 w' L R := by
  have hv := hv0
  have HBM := Lib.hid hb
  have HP := Lib.hid hp
  have HA := Lib.hid hal
  have hbl := len_rd1 (hv0.rd hb)
  have kC : ∀ w' L' R', Mem w0 w' L' R' → (1, .slice ba bn bc, cellsB bs) ∈ R' → (2, .slice pa pn pc, cellsP l) ∈ R' → AllP R' l → Calls Try.prog 12 #[.agg #[.int .u32 (next : Nat), .slice ba bn bc, .slice pa pn pc]] w' fun e w2 => e = .returned (.bool false) ∧ New w' w2 := fun w' L' R' h1 h2 h3 h4 => by
    have := Check_any next ba pa bn bc pn pc bs l w0 w' L' R' h1 h2 h3 h4 hpn hbn hdl
    rwa [hck] at this
  clear hv0 hb hp hal hpn hbn hdl hbl hck
  go_enter Try.func14, Try.ntmps14
  go_wp2_with (first
    | ((with_reducible refine at_box (T := 26) (dst := some 2) ?_); refine wl_newb rfl #[.int .u32 (next : Nat), .slice ba bn bc, .slice pa pn pc] 26 (fun _ => rfl) ?_; intro b2 w2 hm2; replace hv := hv.madeAt hm2; clear hm2)
    | ((with_reducible refine at_alloc (T := 26) (dst := some 4) ?_); refine wl_newb rfl #[.int .u32 0, .slice none 0 0, .slice none 0 0] 26 (fun _ => rfl) ?_; intro b4 w2 hm2; replace hv := hv.madeAt hm2; clear hm2)
    | ((with_reducible refine at_load (T := 26) ?_); refine wl_ldv rfl b2 rfl _ (hv.vars.row (by first | exact .head _ | exact .tail _ (.head _) | exact .tail _ (.tail _ (.head _)) | exact .tail _ (.tail _ (.tail _ (.head _))) | exact .tail _ (.tail _ (.tail _ (.tail _ (.head _)))) | exact .tail _ (.tail _ (.tail _ (.tail _ (.tail _ (.head _))))) | exact .tail _ (.tail _ (.tail _ (.tail _ (.tail _ (.tail _ (.head _)))))) | exact .tail _ (.tail _ (.tail _ (.tail _ (.tail _ (.tail _ (.tail _ (.head _))))))))) 3 _ Try.underlying26 rfl infoStr (by decide) rfl ?_)
    | (go_at_call 12; (with_reducible refine (kC _ _ _ hv HBM.out HP.out HA.out).mono ?_); rintro e w1 ⟨rfl, hn1⟩; replace hv := hv.new hn1; clear hn1)
    | ((with_reducible refine at_store (T := 26) ?_); refine wl_stv rfl b4 rfl _ rfl _ (hv.vars.row (by first | exact .head _ | exact .tail _ (.head _) | exact .tail _ (.tail _ (.head _)) | exact .tail _ (.tail _ (.tail _ (.head _))) | exact .tail _ (.tail _ (.tail _ (.tail _ (.head _)))) | exact .tail _ (.tail _ (.tail _ (.tail _ (.tail _ (.head _))))) | exact .tail _ (.tail _ (.tail _ (.tail _ (.tail _ (.tail _ (.head _)))))) | exact .tail _ (.tail _ (.tail _ (.tail _ (.tail _ (.tail _ (.tail _ (.head _))))))))) (hv.vars.sft (by first | exact .head _ | exact .tail _ (.head _) | exact .tail _ (.tail _ (.head _)) | exact .tail _ (.tail _ (.tail _ (.head _))) | exact .tail _ (.tail _ (.tail _ (.tail _ (.head _)))) | exact .tail _ (.tail _ (.tail _ (.tail _ (.tail _ (.head _))))) | exact .tail _ (.tail _ (.tail _ (.tail _ (.tail _ (.tail _ (.head _)))))) | exact .tail _ (.tail _ (.tail _ (.tail _ (.tail _ (.tail _ (.tail _ (.head _))))))))) 3 infoStr rfl rfl (by simp [Value.oneCell']) ?_; intro w2 hw2; (first | (replace hv := hv.set 0 rfl hw2) | (replace hv := hv.set 1 rfl hw2) | (replace hv := hv.set 2 rfl hw2) | (replace hv := hv.set 3 rfl hw2)); clear hw2; simp only [List.set] at hv))
  refine ret_cell2 Try.results14 rfl (read_row _ b4 26 _ (hv.vars.row (by first | exact .head _ | exact .tail _ (.head _) | exact .tail _ (.tail _ (.head _)) | exact .tail _ (.tail _ (.tail _ (.head _))) | exact .tail _ (.tail _ (.tail _ (.tail _ (.head _)))) | exact .tail _ (.tail _ (.tail _ (.tail _ (.tail _ (.head _))))) | exact .tail _ (.tail _ (.tail _ (.tail _ (.tail _ (.tail _ (.head _)))))) | exact .tail _ (.tail _ (.tail _ (.tail _ (.tail _ (.tail _ (.tail _ (.head _))))))))) 3 _ Try.underlying26 rfl infoStr (by decide) rfl) rfl rfl ⟨rfl, hv.drop.drop⟩
theorem cells_sub1 (bs : List Nat) {c : List Value} (h : ∀ x ∈ c, x ∈ cellsB bs) : ∀ x ∈ c, x.oneCell' = true := fun x hx => cellsB_one bs x (h x hx)
set_option maxRecDepth 100000 in
set_option maxHeartbeats 4000000 in
theorem Read_le (next : Nat) (ba pa : Option Addr) (bn bc pn pc : Nat) (bs : List Nat) (l : List PcV) (n : Int) (w0 w : World) (L : List (Nat × Array Value)) (R : List (Nat × Value × List Value)) (hv0 : Mem w0 w L R) (hb : (1, .slice ba bn bc, cellsB bs) ∈ R) (hp : (2, .slice pa pn pc, cellsP l) ∈ R) (hal : AllP R l) (hpn : pn ≤ 1000) (hbn : bs.length ≤ 1000000) (hdl : ∀ p ∈ l, p.2.2.length ≤ 1000000) (hck : chk (stOf next bs l) = true) (hn0 : n ≤ 0) : Calls Try.prog 14 #[.agg #[.int .u32 (next : Nat), .slice ba bn bc, .slice pa pn pc], .int .i64 n] w (ReadR w0 L R next pa pn pc bs (clampN n bs.length)) := by
  have hv := hv0
  have HBM := Lib.hid hb
  have HP := Lib.hid hp
  have HA := Lib.hid hal
  have hbl := len_rd1 (hv0.rd hb)
  have kC : ∀ w' L' R', Mem w0 w' L' R' → (1, .slice ba bn bc, cellsB bs) ∈ R' → (2, .slice pa pn pc, cellsP l) ∈ R' → AllP R' l → Calls Try.prog 12 #[.agg #[.int .u32 (next : Nat), .slice ba bn bc, .slice pa pn pc]] w' fun e w2 => e = .returned (.bool true) ∧ New w' w2 := fun w' L' R' h1 h2 h3 h4 => by
    have := Check_any next ba pa bn bc pn pc bs l w0 w' L' R' h1 h2 h3 h4 hpn hbn hdl
    rwa [hck] at this
  have e : clampN n bs.length = 0 := by unfold clampN; exact if_pos hn0
  rw [e]
  have HKB : Hid (0 ≤ bn) := Lib.hid (by omega)
  have HKX : Hid (max 0 (min n (bn : Int)) = ((0 : Nat) : Int)) := Lib.hid (by omega)
  have HKM : Hid (0 ≤ 1000000) := Lib.hid (by omega)
  have HKD : Hid (bn - 0 ≤ 1000000) := Lib.hid (by omega)
  have HBN6 : Hid (bn ≤ 1000000) := Lib.hid (by omega)
  clear hv0 hb hp hal hpn hbn hdl hbl hck e hn0
  go_enter Try.func14, Try.ntmps14
  go_wp2_with (first
    | ((with_reducible refine at_box (T := 26) (dst := some 2) ?_); refine wl_newb rfl #[.int .u32 (next : Nat), .slice ba bn bc, .slice pa pn pc] 26 (fun _ => rfl) ?_; intro b2 w2 hm2; replace hv := hv.madeAt hm2; clear hm2)
    | ((with_reducible refine at_alloc (T := 26) (dst := some 4) ?_); refine wl_newb rfl #[.int .u32 0, .slice none 0 0, .slice none 0 0] 26 (fun _ => rfl) ?_; intro b4 w2 hm2; replace hv := hv.madeAt hm2; clear hm2)
    | ((with_reducible refine at_load (T := 26) ?_); refine wl_ldv rfl b2 rfl _ (hv.vars.row (by first | exact .head _ | exact .tail _ (.head _) | exact .tail _ (.tail _ (.head _)) | exact .tail _ (.tail _ (.tail _ (.head _))) | exact .tail _ (.tail _ (.tail _ (.tail _ (.head _)))) | exact .tail _ (.tail _ (.tail _ (.tail _ (.tail _ (.head _))))) | exact .tail _ (.tail _ (.tail _ (.tail _ (.tail _ (.tail _ (.head _)))))) | exact .tail _ (.tail _ (.tail _ (.tail _ (.tail _ (.tail _ (.tail _ (.head _))))))))) 3 _ Try.underlying26 rfl infoStr (by decide) rfl ?_)
    | (go_at_call 12; (with_reducible refine (kC _ _ _ hv HBM.out HP.out HA.out).mono ?_); rintro e w1 ⟨rfl, hn1⟩; replace hv := hv.new hn1; clear hn1)
    | ((with_reducible refine at_load (T := 23) ?_); refine wl_ldc rfl _ _ rfl _ (hv.vars.row (by first | exact .head _ | exact .tail _ (.head _) | exact .tail _ (.tail _ (.head _)) | exact .tail _ (.tail _ (.tail _ (.head _))) | exact .tail _ (.tail _ (.tail _ (.tail _ (.head _)))) | exact .tail _ (.tail _ (.tail _ (.tail _ (.tail _ (.head _))))) | exact .tail _ (.tail _ (.tail _ (.tail _ (.tail _ (.tail _ (.head _)))))) | exact .tail _ (.tail _ (.tail _ (.tail _ (.tail _ (.tail _ (.tail _ (.head _))))))))) _ Try.underlying23 rfl _ rfl ?_)
    | ((with_reducible refine at_slice (T := 23) ?_); refine wl_slice_h rfl rfl hv HBM.out Try.underlying23 infoB1 0 (congrArg (Value.int IntKind.i64) HKX.out) HKB.out ?_; intro ao1 hv1; replace hv := hv1; clear hv1)
    | (go_at_call 25; (with_reducible refine (BClone_mem _ _ _ _ _ _ _ _ hv Mem.z (cells_sub1 bs (fun x hx => List.mem_of_mem_take hx)) (by first | exact HKM.out | (have := HBN6.out; omega))).mono ?_); rintro e w1 ⟨ga, gn, gc, rfl, hv1⟩; replace hv := hv1; clear hv1)
    | ((with_reducible refine at_slice (T := 23) ?_); refine wl_slice_l rfl rfl hv (Mem.s (Mem.s HBM.out)) Try.underlying23 infoB1 0 (congrArg (Value.int IntKind.i64) HKX.out) HKB.out ?_; intro ao2 hv1; replace hv := hv1; clear hv1; try simp only [Nat.sub_zero, Nat.sub_self] at hv)
    | (go_at_call 25; (with_reducible refine (BClone_mem _ _ _ _ _ _ _ _ hv Mem.z (cells_sub1 bs (fun x hx => List.mem_of_mem_drop hx)) (by first | exact HKD.out | (have := HBN6.out; omega))).mono ?_); rintro e w1 ⟨ca, cn, cc, rfl, hv1⟩; replace hv := hv1; clear hv1)
    | ((with_reducible refine at_store (T := 23) ?_); refine wl_stc rfl b2 1 rfl (.slice ca cn cc) rfl _ (hv.vars.row (by first | exact .head _ | exact .tail _ (.head _) | exact .tail _ (.tail _ (.head _)) | exact .tail _ (.tail _ (.tail _ (.head _))) | exact .tail _ (.tail _ (.tail _ (.tail _ (.head _)))) | exact .tail _ (.tail _ (.tail _ (.tail _ (.tail _ (.head _))))) | exact .tail _ (.tail _ (.tail _ (.tail _ (.tail _ (.tail _ (.head _)))))) | exact .tail _ (.tail _ (.tail _ (.tail _ (.tail _ (.tail _ (.tail _ (.head _))))))))) (hv.vars.sft (by first | exact .head _ | exact .tail _ (.head _) | exact .tail _ (.tail _ (.head _)) | exact .tail _ (.tail _ (.tail _ (.head _))) | exact .tail _ (.tail _ (.tail _ (.tail _ (.head _)))) | exact .tail _ (.tail _ (.tail _ (.tail _ (.tail _ (.head _))))) | exact .tail _ (.tail _ (.tail _ (.tail _ (.tail _ (.tail _ (.head _)))))) | exact .tail _ (.tail _ (.tail _ (.tail _ (.tail _ (.tail _ (.tail _ (.head _))))))))) (by kernel_rfl) rfl (by simp) ?_; intro w2 hw2; (first | (replace hv := hv.set 0 rfl hw2) | (replace hv := hv.set 1 rfl hw2) | (replace hv := hv.set 2 rfl hw2) | (replace hv := hv.set 3 rfl hw2)); clear hw2; simp only [List.set] at hv; simp only [List.setIfInBounds_toArray, List.set_cons_succ, List.set_cons_zero] at hv)
    | ((with_reducible refine at_store (T := 26) ?_); refine wl_stv rfl b4 rfl _ rfl _ (hv.vars.row (by first | exact .head _ | exact .tail _ (.head _) | exact .tail _ (.tail _ (.head _)) | exact .tail _ (.tail _ (.tail _ (.head _))) | exact .tail _ (.tail _ (.tail _ (.tail _ (.head _)))) | exact .tail _ (.tail _ (.tail _ (.tail _ (.tail _ (.head _))))) | exact .tail _ (.tail _ (.tail _ (.tail _ (.tail _ (.tail _ (.head _)))))) | exact .tail _ (.tail _ (.tail _ (.tail _ (.tail _ (.tail _ (.tail _ (.head _))))))))) (hv.vars.sft (by first | exact .head _ | exact .tail _ (.head _) | exact .tail _ (.tail _ (.head _)) | exact .tail _ (.tail _ (.tail _ (.head _))) | exact .tail _ (.tail _ (.tail _ (.tail _ (.head _)))) | exact .tail _ (.tail _ (.tail _ (.tail _ (.tail _ (.head _))))) | exact .tail _ (.tail _ (.tail _ (.tail _ (.tail _ (.tail _ (.head _)))))) | exact .tail _ (.tail _ (.tail _ (.tail _ (.tail _ (.tail _ (.tail _ (.head _))))))))) 3 infoStr rfl rfl (by simp [Value.oneCell']) ?_; intro w2 hw2; (first | (replace hv := hv.set 0 rfl hw2) | (replace hv := hv.set 1 rfl hw2) | (replace hv := hv.set 2 rfl hw2) | (replace hv := hv.set 3 rfl hw2)); clear hw2; simp only [List.set] at hv))
  simp only [Nat.mul_one] at hv
  refine ret_cell2 Try.results14 rfl (read_row _ b4 26 _ (hv.vars.row (by first | exact .head _ | exact .tail _ (.head _) | exact .tail _ (.tail _ (.head _)) | exact .tail _ (.tail _ (.tail _ (.head _))) | exact .tail _ (.tail _ (.tail _ (.tail _ (.head _)))) | exact .tail _ (.tail _ (.tail _ (.tail _ (.tail _ (.head _))))) | exact .tail _ (.tail _ (.tail _ (.tail _ (.tail _ (.tail _ (.head _)))))) | exact .tail _ (.tail _ (.tail _ (.tail _ (.tail _ (.tail _ (.tail _ (.head _))))))))) 3 _ Try.underlying26 rfl infoStr (by decide) rfl) rfl rfl ⟨ca, cn, cc, ga, gn, gc, rfl, by simp only [cellsB, List.map_take, List.map_drop]; exact (hv.drop.drop).keepR (fun y hy => by rcases List.mem_cons.1 hy with rfl | hy; exact Mem.z; rcases List.mem_cons.1 hy with rfl | hy; exact Mem.s (Mem.s Mem.z); exact Mem.s (Mem.s (Mem.s (Mem.s hy))))⟩
set_option maxRecDepth 100000 in
set_option maxHeartbeats 4000000 in
theorem Read_in (next : Nat) (ba pa : Option Addr) (bn bc pn pc : Nat) (bs : List Nat) (l : List PcV) (n : Int) (w0 w : World) (L : List (Nat × Array Value)) (R : List (Nat × Value × List Value)) (hv0 : Mem w0 w L R) (hb : (1, .slice ba bn bc, cellsB bs) ∈ R) (hp : (2, .slice pa pn pc, cellsP l) ∈ R) (hal : AllP R l) (hpn : pn ≤ 1000) (hbn : bs.length ≤ 1000000) (hdl : ∀ p ∈ l, p.2.2.length ≤ 1000000) (hck : chk (stOf next bs l) = true) (hn0 : 0 < n) (hn1 : n ≤ bn) : Calls Try.prog 14 #[.agg #[.int .u32 (next : Nat), .slice ba bn bc, .slice pa pn pc], .int .i64 n] w (ReadR w0 L R next pa pn pc bs (clampN n bs.length)) := by
  have hv := hv0
  have HBM := Lib.hid hb
  have HP := Lib.hid hp
  have HA := Lib.hid hal
  have hbl := len_rd1 (hv0.rd hb)
  have kC : ∀ w' L' R', Mem w0 w' L' R' → (1, .slice ba bn bc, cellsB bs) ∈ R' → (2, .slice pa pn pc, cellsP l) ∈ R' → AllP R' l → Calls Try.prog 12 #[.agg #[.int .u32 (next : Nat), .slice ba bn bc, .slice pa pn pc]] w' fun e w2 => e = .returned (.bool true) ∧ New w' w2 := fun w' L' R' h1 h2 h3 h4 => by
    have := Check_any next ba pa bn bc pn pc bs l w0 w' L' R' h1 h2 h3 h4 hpn hbn hdl
    rwa [hck] at this
  obtain ⟨k, rfl⟩ : ∃ k : Nat, n = (k : Int) := ⟨n.toNat, by omega⟩
  have e : clampN (k : Int) bs.length = k := by unfold clampN; rw [if_neg (by omega)]; omega
  rw [e]
  have HKB : Hid (k ≤ bn) := Lib.hid (by omega)
  have HKX : Hid (max 0 (min (k : Int) (bn : Int)) = ((k : Nat) : Int)) := Lib.hid (by omega)
  have HKM : Hid (k ≤ 1000000) := Lib.hid (by omega)
  have HKD : Hid (bn - k ≤ 1000000) := Lib.hid (by omega)
  have HBN6 : Hid (bn ≤ 1000000) := Lib.hid (by omega)
  clear hv0 hb hp hal hpn hbn hdl hbl hck e hn0 hn1
  go_enter Try.func14, Try.ntmps14
  go_wp2_with (first
    | ((with_reducible refine at_box (T := 26) (dst := some 2) ?_); refine wl_newb rfl #[.int .u32 (next : Nat), .slice ba bn bc, .slice pa pn pc] 26 (fun _ => rfl) ?_; intro b2 w2 hm2; replace hv := hv.madeAt hm2; clear hm2)
    | ((with_reducible refine at_alloc (T := 26) (dst := some 4) ?_); refine wl_newb rfl #[.int .u32 0, .slice none 0 0, .slice none 0 0] 26 (fun _ => rfl) ?_; intro b4 w2 hm2; replace hv := hv.madeAt hm2; clear hm2)
    | ((with_reducible refine at_load (T := 26) ?_); refine wl_ldv rfl b2 rfl _ (hv.vars.row (by first | exact .head _ | exact .tail _ (.head _) | exact .tail _ (.tail _ (.head _)) | exact .tail _ (.tail _ (.tail _ (.head _))) | exact .tail _ (.tail _ (.tail _ (.tail _ (.head _)))) | exact .tail _ (.tail _ (.tail _ (.tail _ (.tail _ (.head _))))) | exact .tail _ (.tail _ (.tail _ (.tail _ (.tail _ (.tail _ (.head _)))))) | exact .tail _ (.tail _ (.tail _ (.tail _ (.tail _ (.tail _ (.tail _ (.head _))))))))) 3 _ Try.underlying26 rfl infoStr (by decide) rfl ?_)
    | (go_at_call 12; (with_reducible refine (kC _ _ _ hv HBM.out HP.out HA.out).mono ?_); rintro e w1 ⟨rfl, hn1⟩; replace hv := hv.new hn1; clear hn1)
    | ((with_reducible refine at_load (T := 23) ?_); refine wl_ldc rfl _ _ rfl _ (hv.vars.row (by first | exact .head _ | exact .tail _ (.head _) | exact .tail _ (.tail _ (.head _)) | exact .tail _ (.tail _ (.tail _ (.head _))) | exact .tail _ (.tail _ (.tail _ (.tail _ (.head _)))) | exact .tail _ (.tail _ (.tail _ (.tail _ (.tail _ (.head _))))) | exact .tail _ (.tail _ (.tail _ (.tail _ (.tail _ (.tail _ (.head _)))))) | exact .tail _ (.tail _ (.tail _ (.tail _ (.tail _ (.tail _ (.tail _ (.head _))))))))) _ Try.underlying23 rfl _ rfl ?_)
    | ((with_reducible refine at_slice (T := 23) ?_); refine wl_slice_h rfl rfl hv HBM.out Try.underlying23 infoB1 k (congrArg (Value.int IntKind.i64) HKX.out) HKB.out ?_; intro ao1 hv1; replace hv := hv1; clear hv1)
    | (go_at_call 25; (with_reducible refine (BClone_mem _ _ _ _ _ _ _ _ hv Mem.z (cells_sub1 bs (fun x hx => List.mem_of_mem_take hx)) (by first | exact HKM.out | (have := HBN6.out; omega))).mono ?_); rintro e w1 ⟨ga, gn, gc, rfl, hv1⟩; replace hv := hv1; clear hv1)
    | ((with_reducible refine at_slice (T := 23) ?_); refine wl_slice_l rfl rfl hv (Mem.s (Mem.s HBM.out)) Try.underlying23 infoB1 k (congrArg (Value.int IntKind.i64) HKX.out) HKB.out ?_; intro ao2 hv1; replace hv := hv1; clear hv1; try simp only [Nat.sub_zero, Nat.sub_self] at hv)
    | (go_at_call 25; (with_reducible refine (BClone_mem _ _ _ _ _ _ _ _ hv Mem.z (cells_sub1 bs (fun x hx => List.mem_of_mem_drop hx)) (by first | exact HKD.out | (have := HBN6.out; omega))).mono ?_); rintro e w1 ⟨ca, cn, cc, rfl, hv1⟩; replace hv := hv1; clear hv1)
    | ((with_reducible refine at_store (T := 23) ?_); refine wl_stc rfl b2 1 rfl (.slice ca cn cc) rfl _ (hv.vars.row (by first | exact .head _ | exact .tail _ (.head _) | exact .tail _ (.tail _ (.head _)) | exact .tail _ (.tail _ (.tail _ (.head _))) | exact .tail _ (.tail _ (.tail _ (.tail _ (.head _)))) | exact .tail _ (.tail _ (.tail _ (.tail _ (.tail _ (.head _))))) | exact .tail _ (.tail _ (.tail _ (.tail _ (.tail _ (.tail _ (.head _)))))) | exact .tail _ (.tail _ (.tail _ (.tail _ (.tail _ (.tail _ (.tail _ (.head _))))))))) (hv.vars.sft (by first | exact .head _ | exact .tail _ (.head _) | exact .tail _ (.tail _ (.head _)) | exact .tail _ (.tail _ (.tail _ (.head _))) | exact .tail _ (.tail _ (.tail _ (.tail _ (.head _)))) | exact .tail _ (.tail _ (.tail _ (.tail _ (.tail _ (.head _))))) | exact .tail _ (.tail _ (.tail _ (.tail _ (.tail _ (.tail _ (.head _)))))) | exact .tail _ (.tail _ (.tail _ (.tail _ (.tail _ (.tail _ (.tail _ (.head _))))))))) (by kernel_rfl) rfl (by simp) ?_; intro w2 hw2; (first | (replace hv := hv.set 0 rfl hw2) | (replace hv := hv.set 1 rfl hw2) | (replace hv := hv.set 2 rfl hw2) | (replace hv := hv.set 3 rfl hw2)); clear hw2; simp only [List.set] at hv; simp only [List.setIfInBounds_toArray, List.set_cons_succ, List.set_cons_zero] at hv)
    | ((with_reducible refine at_store (T := 26) ?_); refine wl_stv rfl b4 rfl _ rfl _ (hv.vars.row (by first | exact .head _ | exact .tail _ (.head _) | exact .tail _ (.tail _ (.head _)) | exact .tail _ (.tail _ (.tail _ (.head _))) | exact .tail _ (.tail _ (.tail _ (.tail _ (.head _)))) | exact .tail _ (.tail _ (.tail _ (.tail _ (.tail _ (.head _))))) | exact .tail _ (.tail _ (.tail _ (.tail _ (.tail _ (.tail _ (.head _)))))) | exact .tail _ (.tail _ (.tail _ (.tail _ (.tail _ (.tail _ (.tail _ (.head _))))))))) (hv.vars.sft (by first | exact .head _ | exact .tail _ (.head _) | exact .tail _ (.tail _ (.head _)) | exact .tail _ (.tail _ (.tail _ (.head _))) | exact .tail _ (.tail _ (.tail _ (.tail _ (.head _)))) | exact .tail _ (.tail _ (.tail _ (.tail _ (.tail _ (.head _))))) | exact .tail _ (.tail _ (.tail _ (.tail _ (.tail _ (.tail _ (.head _)))))) | exact .tail _ (.tail _ (.tail _ (.tail _ (.tail _ (.tail _ (.tail _ (.head _))))))))) 3 infoStr rfl rfl (by simp [Value.oneCell']) ?_; intro w2 hw2; (first | (replace hv := hv.set 0 rfl hw2) | (replace hv := hv.set 1 rfl hw2) | (replace hv := hv.set 2 rfl hw2) | (replace hv := hv.set 3 rfl hw2)); clear hw2; simp only [List.set] at hv))
  simp only [Nat.mul_one] at hv
  refine ret_cell2 Try.results14 rfl (read_row _ b4 26 _ (hv.vars.row (by first | exact .head _ | exact .tail _ (.head _) | exact .tail _ (.tail _ (.head _)) | exact .tail _ (.tail _ (.tail _ (.head _))) | exact .tail _ (.tail _ (.tail _ (.tail _ (.head _)))) | exact .tail _ (.tail _ (.tail _ (.tail _ (.tail _ (.head _))))) | exact .tail _ (.tail _ (.tail _ (.tail _ (.tail _ (.tail _ (.head _)))))) | exact .tail _ (.tail _ (.tail _ (.tail _ (.tail _ (.tail _ (.tail _ (.head _))))))))) 3 _ Try.underlying26 rfl infoStr (by decide) rfl) rfl rfl ⟨ca, cn, cc, ga, gn, gc, rfl, by simp only [cellsB, List.map_take, List.map_drop]; exact (hv.drop.drop).keepR (fun y hy => by rcases List.mem_cons.1 hy with rfl | hy; exact Mem.z; rcases List.mem_cons.1 hy with rfl | hy; exact Mem.s (Mem.s Mem.z); exact Mem.s (Mem.s (Mem.s (Mem.s hy))))⟩
set_option maxRecDepth 100000 in
set_option maxHeartbeats 4000000 in
theorem Read_gt (next : Nat) (ba pa : Option Addr) (bn bc pn pc : Nat) (bs : List Nat) (l : List PcV) (n : Int) (w0 w : World) (L : List (Nat × Array Value)) (R : List (Nat × Value × List Value)) (hv0 : Mem w0 w L R) (hb : (1, .slice ba bn bc, cellsB bs) ∈ R) (hp : (2, .slice pa pn pc, cellsP l) ∈ R) (hal : AllP R l) (hpn : pn ≤ 1000) (hbn : bs.length ≤ 1000000) (hdl : ∀ p ∈ l, p.2.2.length ≤ 1000000) (hck : chk (stOf next bs l) = true) (hn0 : (bn : Int) < n) (hn1 : 0 < bn) : Calls Try.prog 14 #[.agg #[.int .u32 (next : Nat), .slice ba bn bc, .slice pa pn pc], .int .i64 n] w (ReadR w0 L R next pa pn pc bs (clampN n bs.length)) := by
  have hv := hv0
  have HBM := Lib.hid hb
  have HP := Lib.hid hp
  have HA := Lib.hid hal
  have hbl := len_rd1 (hv0.rd hb)
  have kC : ∀ w' L' R', Mem w0 w' L' R' → (1, .slice ba bn bc, cellsB bs) ∈ R' → (2, .slice pa pn pc, cellsP l) ∈ R' → AllP R' l → Calls Try.prog 12 #[.agg #[.int .u32 (next : Nat), .slice ba bn bc, .slice pa pn pc]] w' fun e w2 => e = .returned (.bool true) ∧ New w' w2 := fun w' L' R' h1 h2 h3 h4 => by
    have := Check_any next ba pa bn bc pn pc bs l w0 w' L' R' h1 h2 h3 h4 hpn hbn hdl
    rwa [hck] at this
  have e : clampN n bs.length = bn := by unfold clampN; rw [if_neg (by omega)]; omega
  rw [e]
  have HKB : Hid (bn ≤ bn) := Lib.hid (by omega)
  have HKX : Hid (max 0 (min n (bn : Int)) = ((bn : Nat) : Int)) := Lib.hid (by omega)
  have HKM : Hid (bn ≤ 1000000) := Lib.hid (by omega)
  have HKD : Hid (bn - bn ≤ 1000000) := Lib.hid (by omega)
  have HBN6 : Hid (bn ≤ 1000000) := Lib.hid (by omega)
  clear hv0 hb hp hal hpn hbn hdl hbl hck e hn0 hn1
  go_enter Try.func14, Try.ntmps14
  go_wp2_with (first
    | ((with_reducible refine at_box (T := 26) (dst := some 2) ?_); refine wl_newb rfl #[.int .u32 (next : Nat), .slice ba bn bc, .slice pa pn pc] 26 (fun _ => rfl) ?_; intro b2 w2 hm2; replace hv := hv.madeAt hm2; clear hm2)
    | ((with_reducible refine at_alloc (T := 26) (dst := some 4) ?_); refine wl_newb rfl #[.int .u32 0, .slice none 0 0, .slice none 0 0] 26 (fun _ => rfl) ?_; intro b4 w2 hm2; replace hv := hv.madeAt hm2; clear hm2)
    | ((with_reducible refine at_load (T := 26) ?_); refine wl_ldv rfl b2 rfl _ (hv.vars.row (by first | exact .head _ | exact .tail _ (.head _) | exact .tail _ (.tail _ (.head _)) | exact .tail _ (.tail _ (.tail _ (.head _))) | exact .tail _ (.tail _ (.tail _ (.tail _ (.head _)))) | exact .tail _ (.tail _ (.tail _ (.tail _ (.tail _ (.head _))))) | exact .tail _ (.tail _ (.tail _ (.tail _ (.tail _ (.tail _ (.head _)))))) | exact .tail _ (.tail _ (.tail _ (.tail _ (.tail _ (.tail _ (.tail _ (.head _))))))))) 3 _ Try.underlying26 rfl infoStr (by decide) rfl ?_)
    | (go_at_call 12; (with_reducible refine (kC _ _ _ hv HBM.out HP.out HA.out).mono ?_); rintro e w1 ⟨rfl, hn1⟩; replace hv := hv.new hn1; clear hn1)
    | ((with_reducible refine at_load (T := 23) ?_); refine wl_ldc rfl _ _ rfl _ (hv.vars.row (by first | exact .head _ | exact .tail _ (.head _) | exact .tail _ (.tail _ (.head _)) | exact .tail _ (.tail _ (.tail _ (.head _))) | exact .tail _ (.tail _ (.tail _ (.tail _ (.head _)))) | exact .tail _ (.tail _ (.tail _ (.tail _ (.tail _ (.head _))))) | exact .tail _ (.tail _ (.tail _ (.tail _ (.tail _ (.tail _ (.head _)))))) | exact .tail _ (.tail _ (.tail _ (.tail _ (.tail _ (.tail _ (.tail _ (.head _))))))))) _ Try.underlying23 rfl _ rfl ?_)
    | ((with_reducible refine at_slice (T := 23) ?_); refine wl_slice_h rfl rfl hv HBM.out Try.underlying23 infoB1 bn (congrArg (Value.int IntKind.i64) HKX.out) HKB.out ?_; intro ao1 hv1; replace hv := hv1; clear hv1)
    | (go_at_call 25; (with_reducible refine (BClone_mem _ _ _ _ _ _ _ _ hv Mem.z (cells_sub1 bs (fun x hx => List.mem_of_mem_take hx)) (by first | exact HKM.out | (have := HBN6.out; omega))).mono ?_); rintro e w1 ⟨ga, gn, gc, rfl, hv1⟩; replace hv := hv1; clear hv1)
    | ((with_reducible refine at_slice (T := 23) ?_); refine wl_slice_l rfl rfl hv (Mem.s (Mem.s HBM.out)) Try.underlying23 infoB1 bn (congrArg (Value.int IntKind.i64) HKX.out) HKB.out ?_; intro ao2 hv1; replace hv := hv1; clear hv1; try simp only [Nat.sub_zero, Nat.sub_self] at hv)
    | (go_at_call 25; (with_reducible refine (BClone_mem _ _ _ _ _ _ _ _ hv Mem.z (cells_sub1 bs (fun x hx => List.mem_of_mem_drop hx)) (by first | exact HKD.out | (have := HBN6.out; omega))).mono ?_); rintro e w1 ⟨ca, cn, cc, rfl, hv1⟩; replace hv := hv1; clear hv1)
    | ((with_reducible refine at_store (T := 23) ?_); refine wl_stc rfl b2 1 rfl (.slice ca cn cc) rfl _ (hv.vars.row (by first | exact .head _ | exact .tail _ (.head _) | exact .tail _ (.tail _ (.head _)) | exact .tail _ (.tail _ (.tail _ (.head _))) | exact .tail _ (.tail _ (.tail _ (.tail _ (.head _)))) | exact .tail _ (.tail _ (.tail _ (.tail _ (.tail _ (.head _))))) | exact .tail _ (.tail _ (.tail _ (.tail _ (.tail _ (.tail _ (.head _)))))) | exact .tail _ (.tail _ (.tail _ (.tail _ (.tail _ (.tail _ (.tail _ (.head _))))))))) (hv.vars.sft (by first | exact .head _ | exact .tail _ (.head _) | exact .tail _ (.tail _ (.head _)) | exact .tail _ (.tail _ (.tail _ (.head _))) | exact .tail _ (.tail _ (.tail _ (.tail _ (.head _)))) | exact .tail _ (.tail _ (.tail _ (.tail _ (.tail _ (.head _))))) | exact .tail _ (.tail _ (.tail _ (.tail _ (.tail _ (.tail _ (.head _)))))) | exact .tail _ (.tail _ (.tail _ (.tail _ (.tail _ (.tail _ (.tail _ (.head _))))))))) (by kernel_rfl) rfl (by simp) ?_; intro w2 hw2; (first | (replace hv := hv.set 0 rfl hw2) | (replace hv := hv.set 1 rfl hw2) | (replace hv := hv.set 2 rfl hw2) | (replace hv := hv.set 3 rfl hw2)); clear hw2; simp only [List.set] at hv; simp only [List.setIfInBounds_toArray, List.set_cons_succ, List.set_cons_zero] at hv)
    | ((with_reducible refine at_store (T := 26) ?_); refine wl_stv rfl b4 rfl _ rfl _ (hv.vars.row (by first | exact .head _ | exact .tail _ (.head _) | exact .tail _ (.tail _ (.head _)) | exact .tail _ (.tail _ (.tail _ (.head _))) | exact .tail _ (.tail _ (.tail _ (.tail _ (.head _)))) | exact .tail _ (.tail _ (.tail _ (.tail _ (.tail _ (.head _))))) | exact .tail _ (.tail _ (.tail _ (.tail _ (.tail _ (.tail _ (.head _)))))) | exact .tail _ (.tail _ (.tail _ (.tail _ (.tail _ (.tail _ (.tail _ (.head _))))))))) (hv.vars.sft (by first | exact .head _ | exact .tail _ (.head _) | exact .tail _ (.tail _ (.head _)) | exact .tail _ (.tail _ (.tail _ (.head _))) | exact .tail _ (.tail _ (.tail _ (.tail _ (.head _)))) | exact .tail _ (.tail _ (.tail _ (.tail _ (.tail _ (.head _))))) | exact .tail _ (.tail _ (.tail _ (.tail _ (.tail _ (.tail _ (.head _)))))) | exact .tail _ (.tail _ (.tail _ (.tail _ (.tail _ (.tail _ (.tail _ (.head _))))))))) 3 infoStr rfl rfl (by simp [Value.oneCell']) ?_; intro w2 hw2; (first | (replace hv := hv.set 0 rfl hw2) | (replace hv := hv.set 1 rfl hw2) | (replace hv := hv.set 2 rfl hw2) | (replace hv := hv.set 3 rfl hw2)); clear hw2; simp only [List.set] at hv))
  simp only [Nat.mul_one] at hv
  refine ret_cell2 Try.results14 rfl (read_row _ b4 26 _ (hv.vars.row (by first | exact .head _ | exact .tail _ (.head _) | exact .tail _ (.tail _ (.head _)) | exact .tail _ (.tail _ (.tail _ (.head _))) | exact .tail _ (.tail _ (.tail _ (.tail _ (.head _)))) | exact .tail _ (.tail _ (.tail _ (.tail _ (.tail _ (.head _))))) | exact .tail _ (.tail _ (.tail _ (.tail _ (.tail _ (.tail _ (.head _)))))) | exact .tail _ (.tail _ (.tail _ (.tail _ (.tail _ (.tail _ (.tail _ (.head _))))))))) 3 _ Try.underlying26 rfl infoStr (by decide) rfl) rfl rfl ⟨ca, cn, cc, ga, gn, gc, rfl, by simp only [cellsB, List.map_take, List.map_drop]; exact (hv.drop.drop).keepR (fun y hy => by rcases List.mem_cons.1 hy with rfl | hy; exact Mem.z; rcases List.mem_cons.1 hy with rfl | hy; exact Mem.s (Mem.s Mem.z); exact Mem.s (Mem.s (Mem.s (Mem.s hy))))⟩
set_option maxRecDepth 100000 in
set_option maxHeartbeats 4000000 in
theorem Read_g0 (next : Nat) (ba pa : Option Addr) (bn bc pn pc : Nat) (bs : List Nat) (l : List PcV) (n : Int) (w0 w : World) (L : List (Nat × Array Value)) (R : List (Nat × Value × List Value)) (hv0 : Mem w0 w L R) (hb : (1, .slice ba bn bc, cellsB bs) ∈ R) (hp : (2, .slice pa pn pc, cellsP l) ∈ R) (hal : AllP R l) (hpn : pn ≤ 1000) (hbn : bs.length ≤ 1000000) (hdl : ∀ p ∈ l, p.2.2.length ≤ 1000000) (hck : chk (stOf next bs l) = true) (hn0 : (bn : Int) < n) (hn1 : bn = 0) : Calls Try.prog 14 #[.agg #[.int .u32 (next : Nat), .slice ba bn bc, .slice pa pn pc], .int .i64 n] w (ReadR w0 L R next pa pn pc bs (clampN n bs.length)) := by
  have hv := hv0
  have HBM := Lib.hid hb
  have HP := Lib.hid hp
  have HA := Lib.hid hal
  have hbl := len_rd1 (hv0.rd hb)
  have kC : ∀ w' L' R', Mem w0 w' L' R' → (1, .slice ba bn bc, cellsB bs) ∈ R' → (2, .slice pa pn pc, cellsP l) ∈ R' → AllP R' l → Calls Try.prog 12 #[.agg #[.int .u32 (next : Nat), .slice ba bn bc, .slice pa pn pc]] w' fun e w2 => e = .returned (.bool true) ∧ New w' w2 := fun w' L' R' h1 h2 h3 h4 => by
    have := Check_any next ba pa bn bc pn pc bs l w0 w' L' R' h1 h2 h3 h4 hpn hbn hdl
    rwa [hck] at this
  have e : clampN n bs.length = 0 := by unfold clampN; split <;> omega
  rw [e]
  have HKB : Hid (0 ≤ bn) := Lib.hid (by omega)
  have HKX : Hid (max 0 (min n (bn : Int)) = ((0 : Nat) : Int)) := Lib.hid (by omega)
  have HKM : Hid (0 ≤ 1000000) := Lib.hid (by omega)
  have HKD : Hid (bn - 0 ≤ 1000000) := Lib.hid (by omega)
  have HBN6 : Hid (bn ≤ 1000000) := Lib.hid (by omega)
  clear hv0 hb hp hal hpn hbn hdl hbl hck e hn0 hn1
  go_enter Try.func14, Try.ntmps14
  go_wp2_with (first
    | ((with_reducible refine at_box (T := 26) (dst := some 2) ?_); refine wl_newb rfl #[.int .u32 (next : Nat), .slice ba bn bc, .slice pa pn pc] 26 (fun _ => rfl) ?_; intro b2 w2 hm2; replace hv := hv.madeAt hm2; clear hm2)
    | ((with_reducible refine at_alloc (T := 26) (dst := some 4) ?_); refine wl_newb rfl #[.int .u32 0, .slice none 0 0, .slice none 0 0] 26 (fun _ => rfl) ?_; intro b4 w2 hm2; replace hv := hv.madeAt hm2; clear hm2)
    | ((with_reducible refine at_load (T := 26) ?_); refine wl_ldv rfl b2 rfl _ (hv.vars.row (by first | exact .head _ | exact .tail _ (.head _) | exact .tail _ (.tail _ (.head _)) | exact .tail _ (.tail _ (.tail _ (.head _))) | exact .tail _ (.tail _ (.tail _ (.tail _ (.head _)))) | exact .tail _ (.tail _ (.tail _ (.tail _ (.tail _ (.head _))))) | exact .tail _ (.tail _ (.tail _ (.tail _ (.tail _ (.tail _ (.head _)))))) | exact .tail _ (.tail _ (.tail _ (.tail _ (.tail _ (.tail _ (.tail _ (.head _))))))))) 3 _ Try.underlying26 rfl infoStr (by decide) rfl ?_)
    | (go_at_call 12; (with_reducible refine (kC _ _ _ hv HBM.out HP.out HA.out).mono ?_); rintro e w1 ⟨rfl, hn1⟩; replace hv := hv.new hn1; clear hn1)
    | ((with_reducible refine at_load (T := 23) ?_); refine wl_ldc rfl _ _ rfl _ (hv.vars.row (by first | exact .head _ | exact .tail _ (.head _) | exact .tail _ (.tail _ (.head _)) | exact .tail _ (.tail _ (.tail _ (.head _))) | exact .tail _ (.tail _ (.tail _ (.tail _ (.head _)))) | exact .tail _ (.tail _ (.tail _ (.tail _ (.tail _ (.head _))))) | exact .tail _ (.tail _ (.tail _ (.tail _ (.tail _ (.tail _ (.head _)))))) | exact .tail _ (.tail _ (.tail _ (.tail _ (.tail _ (.tail _ (.tail _ (.head _))))))))) _ Try.underlying23 rfl _ rfl ?_)
    | ((with_reducible refine at_slice (T := 23) ?_); refine wl_slice_h rfl rfl hv HBM.out Try.underlying23 infoB1 0 (congrArg (Value.int IntKind.i64) HKX.out) HKB.out ?_; intro ao1 hv1; replace hv := hv1; clear hv1)
    | (go_at_call 25; (with_reducible refine (BClone_mem _ _ _ _ _ _ _ _ hv Mem.z (cells_sub1 bs (fun x hx => List.mem_of_mem_take hx)) (by first | exact HKM.out | (have := HBN6.out; omega))).mono ?_); rintro e w1 ⟨ga, gn, gc, rfl, hv1⟩; replace hv := hv1; clear hv1)
    | ((with_reducible refine at_slice (T := 23) ?_); refine wl_slice_l rfl rfl hv (Mem.s (Mem.s HBM.out)) Try.underlying23 infoB1 0 (congrArg (Value.int IntKind.i64) HKX.out) HKB.out ?_; intro ao2 hv1; replace hv := hv1; clear hv1; try simp only [Nat.sub_zero, Nat.sub_self] at hv)
    | (go_at_call 25; (with_reducible refine (BClone_mem _ _ _ _ _ _ _ _ hv Mem.z (cells_sub1 bs (fun x hx => List.mem_of_mem_drop hx)) (by first | exact HKD.out | (have := HBN6.out; omega))).mono ?_); rintro e w1 ⟨ca, cn, cc, rfl, hv1⟩; replace hv := hv1; clear hv1)
    | ((with_reducible refine at_store (T := 23) ?_); refine wl_stc rfl b2 1 rfl (.slice ca cn cc) rfl _ (hv.vars.row (by first | exact .head _ | exact .tail _ (.head _) | exact .tail _ (.tail _ (.head _)) | exact .tail _ (.tail _ (.tail _ (.head _))) | exact .tail _ (.tail _ (.tail _ (.tail _ (.head _)))) | exact .tail _ (.tail _ (.tail _ (.tail _ (.tail _ (.head _))))) | exact .tail _ (.tail _ (.tail _ (.tail _ (.tail _ (.tail _ (.head _)))))) | exact .tail _ (.tail _ (.tail _ (.tail _ (.tail _ (.tail _ (.tail _ (.head _))))))))) (hv.vars.sft (by first | exact .head _ | exact .tail _ (.head _) | exact .tail _ (.tail _ (.head _)) | exact .tail _ (.tail _ (.tail _ (.head _))) | exact .tail _ (.tail _ (.tail _ (.tail _ (.head _)))) | exact .tail _ (.tail _ (.tail _ (.tail _ (.tail _ (.head _))))) | exact .tail _ (.tail _ (.tail _ (.tail _ (.tail _ (.tail _ (.head _)))))) | exact .tail _ (.tail _ (.tail _ (.tail _ (.tail _ (.tail _ (.tail _ (.head _))))))))) (by kernel_rfl) rfl (by simp) ?_; intro w2 hw2; (first | (replace hv := hv.set 0 rfl hw2) | (replace hv := hv.set 1 rfl hw2) | (replace hv := hv.set 2 rfl hw2) | (replace hv := hv.set 3 rfl hw2)); clear hw2; simp only [List.set] at hv; simp only [List.setIfInBounds_toArray, List.set_cons_succ, List.set_cons_zero] at hv)
    | ((with_reducible refine at_store (T := 26) ?_); refine wl_stv rfl b4 rfl _ rfl _ (hv.vars.row (by first | exact .head _ | exact .tail _ (.head _) | exact .tail _ (.tail _ (.head _)) | exact .tail _ (.tail _ (.tail _ (.head _))) | exact .tail _ (.tail _ (.tail _ (.tail _ (.head _)))) | exact .tail _ (.tail _ (.tail _ (.tail _ (.tail _ (.head _))))) | exact .tail _ (.tail _ (.tail _ (.tail _ (.tail _ (.tail _ (.head _)))))) | exact .tail _ (.tail _ (.tail _ (.tail _ (.tail _ (.tail _ (.tail _ (.head _))))))))) (hv.vars.sft (by first | exact .head _ | exact .tail _ (.head _) | exact .tail _ (.tail _ (.head _)) | exact .tail _ (.tail _ (.tail _ (.head _))) | exact .tail _ (.tail _ (.tail _ (.tail _ (.head _)))) | exact .tail _ (.tail _ (.tail _ (.tail _ (.tail _ (.head _))))) | exact .tail _ (.tail _ (.tail _ (.tail _ (.tail _ (.tail _ (.head _)))))) | exact .tail _ (.tail _ (.tail _ (.tail _ (.tail _ (.tail _ (.tail _ (.head _))))))))) 3 infoStr rfl rfl (by simp [Value.oneCell']) ?_; intro w2 hw2; (first | (replace hv := hv.set 0 rfl hw2) | (replace hv := hv.set 1 rfl hw2) | (replace hv := hv.set 2 rfl hw2) | (replace hv := hv.set 3 rfl hw2)); clear hw2; simp only [List.set] at hv))
  simp only [Nat.mul_one] at hv
  refine ret_cell2 Try.results14 rfl (read_row _ b4 26 _ (hv.vars.row (by first | exact .head _ | exact .tail _ (.head _) | exact .tail _ (.tail _ (.head _)) | exact .tail _ (.tail _ (.tail _ (.head _))) | exact .tail _ (.tail _ (.tail _ (.tail _ (.head _)))) | exact .tail _ (.tail _ (.tail _ (.tail _ (.tail _ (.head _))))) | exact .tail _ (.tail _ (.tail _ (.tail _ (.tail _ (.tail _ (.head _)))))) | exact .tail _ (.tail _ (.tail _ (.tail _ (.tail _ (.tail _ (.tail _ (.head _))))))))) 3 _ Try.underlying26 rfl infoStr (by decide) rfl) rfl rfl ⟨ca, cn, cc, ga, gn, gc, rfl, by simp only [cellsB, List.map_take, List.map_drop]; exact (hv.drop.drop).keepR (fun y hy => by rcases List.mem_cons.1 hy with rfl | hy; exact Mem.z; rcases List.mem_cons.1 hy with rfl | hy; exact Mem.s (Mem.s Mem.z); exact Mem.s (Mem.s (Mem.s (Mem.s hy))))⟩
theorem Read_yes (next : Nat) (ba pa : Option Addr) (bn bc pn pc : Nat) (bs : List Nat) (l : List PcV) (n : Int) (w0 w : World) (L : List (Nat × Array Value)) (R : List (Nat × Value × List Value)) (hv0 : Mem w0 w L R) (hb : (1, .slice ba bn bc, cellsB bs) ∈ R) (hp : (2, .slice pa pn pc, cellsP l) ∈ R) (hal : AllP R l) (hpn : pn ≤ 1000) (hbn : bs.length ≤ 1000000) (hdl : ∀ p ∈ l, p.2.2.length ≤ 1000000) (hck : chk (stOf next bs l) = true) : Calls Try.prog 14 #[.agg #[.int .u32 (next : Nat), .slice ba bn bc, .slice pa pn pc], .int .i64 n] w (ReadR w0 L R next pa pn pc bs (clampN n bs.length)) := by
  by_cases h1 : n ≤ 0
  · exact Read_le next ba pa bn bc pn pc bs l n w0 w L R hv0 hb hp hal hpn hbn hdl hck h1
  · by_cases h2 : n ≤ bn
    · exact Read_in next ba pa bn bc pn pc bs l n w0 w L R hv0 hb hp hal hpn hbn hdl hck (by omega) h2
    · by_cases h3 : bn = 0
      · exact Read_g0 next ba pa bn bc pn pc bs l n w0 w L R hv0 hb hp hal hpn hbn hdl hck (by omega) h3
      · exact Read_gt next ba pa bn bc pn pc bs l n w0 w L R hv0 hb hp hal hpn hbn hdl hck (by omega) (by omega)
end Go.Proofs.Ytpbeemgigpaacaa
