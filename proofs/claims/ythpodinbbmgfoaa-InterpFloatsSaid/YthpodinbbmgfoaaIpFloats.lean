/-
  The walk of the statement InterpFloats.
-/
import Derived.Test.YthpodinbbmgfoaaIpHead
import Derived.Test.YthpodinbbmgfoaaPtRef
set_option linter.unusedVariables false
set_option linter.unusedSimpArgs false
namespace Go.Proofs.Ip
open Go Go.Proofs.Cd Go.Proofs.Pt
theorem good_list {l : List Inst} (h : ∀ y ∈ l, (0 ≤ y.1 ∧ y.1 ≤ 37) ∧ y.2 < 18446744073709551616) : ∀ y ∈ l, goodI y := fun y hy => ⟨by have := h y hy; omega, by have := h y hy; omega, (h y hy).2⟩
theorem gPF {op : Int} {w v : Nat} (ho : 0 ≤ op ∧ op ≤ 37) (hw : w < 18446744073709551616) (hv : v < 18446744073709551616) : ∀ y ∈ PF op w v, goodI y := good_list (by simp [PF, hw, hv, ho])
theorem gPG {w v : Nat} (hw : w < 18446744073709551616) (hv : v < 18446744073709551616) : ∀ y ∈ PG w v, goodI y := good_list (by simp [PG, hw, hv])
def opsL : List Value := (List.range 6).map fun (k : Nat) => Value.int .i64 (26 + (k : Int))
def wantL (w v : Nat) : List Nat := [opF .add w v, opF .sub w v, opF .mul w v, opF .quo w v, minF w v, maxF w v]
theorem ops_get {k : Nat} (hk : k < 6) : opsL[k]? = some (.int .i64 (26 + (k : Int))) := by simp [opsL, hk]
theorem twoF26 (x y : Nat) : twoF 26 x y = opF .add x y := by unfold twoF; rw [if_neg (by decide), if_neg (by decide), if_neg (by decide), if_neg (by decide), if_neg (by decide), if_neg (by decide), if_neg (by decide), if_neg (by decide), if_neg (by decide), if_neg (by decide), if_neg (by decide), if_neg (by decide), if_neg (by decide), if_pos rfl]
theorem twoF27 (x y : Nat) : twoF 27 x y = opF .sub x y := by unfold twoF; rw [if_neg (by decide), if_neg (by decide), if_neg (by decide), if_neg (by decide), if_neg (by decide), if_neg (by decide), if_neg (by decide), if_neg (by decide), if_neg (by decide), if_neg (by decide), if_neg (by decide), if_neg (by decide), if_neg (by decide), if_neg (by decide), if_pos rfl]
theorem twoF28 (x y : Nat) : twoF 28 x y = opF .mul x y := by unfold twoF; rw [if_neg (by decide), if_neg (by decide), if_neg (by decide), if_neg (by decide), if_neg (by decide), if_neg (by decide), if_neg (by decide), if_neg (by decide), if_neg (by decide), if_neg (by decide), if_neg (by decide), if_neg (by decide), if_neg (by decide), if_neg (by decide), if_neg (by decide), if_pos rfl]
theorem twoF29 (x y : Nat) : twoF 29 x y = opF .quo x y := by unfold twoF; rw [if_neg (by decide), if_neg (by decide), if_neg (by decide), if_neg (by decide), if_neg (by decide), if_neg (by decide), if_neg (by decide), if_neg (by decide), if_neg (by decide), if_neg (by decide), if_neg (by decide), if_neg (by decide), if_neg (by decide), if_neg (by decide), if_neg (by decide), if_neg (by decide), if_pos rfl]
theorem twoF30 (x y : Nat) : twoF 30 x y = minF x y := by unfold twoF; rw [if_neg (by decide), if_neg (by decide), if_neg (by decide), if_neg (by decide), if_neg (by decide), if_neg (by decide), if_neg (by decide), if_neg (by decide), if_neg (by decide), if_neg (by decide), if_neg (by decide), if_neg (by decide), if_neg (by decide), if_neg (by decide), if_neg (by decide), if_neg (by decide), if_neg (by decide), if_pos rfl]
theorem twoF31 (x y : Nat) : twoF 31 x y = maxF x y := by unfold twoF; rw [if_neg (by decide), if_neg (by decide), if_neg (by decide), if_neg (by decide), if_neg (by decide), if_neg (by decide), if_neg (by decide), if_neg (by decide), if_neg (by decide), if_neg (by decide), if_neg (by decide), if_neg (by decide), if_neg (by decide), if_neg (by decide), if_neg (by decide), if_neg (by decide), if_neg (by decide), if_neg (by decide), if_pos rfl]
theorem want_get {w v k : Nat} (hk : k < 6) : (cellsU (wantL w v))[k]? = some (.int .u64 (twoF (26 + (k : Int)) w v : Nat)) := by
  rcases (show k = 0 ∨ k = 1 ∨ k = 2 ∨ k = 3 ∨ k = 4 ∨ k = 5 from by omega) with rfl | rfl | rfl | rfl | rfl | rfl
  · rw [show (26 + ((0 : Nat) : Int)) = 26 from rfl, twoF26]; rfl
  · rw [show (26 + ((1 : Nat) : Int)) = 27 from rfl, twoF27]; rfl
  · rw [show (26 + ((2 : Nat) : Int)) = 28 from rfl, twoF28]; rfl
  · rw [show (26 + ((3 : Nat) : Int)) = 29 from rfl, twoF29]; rfl
  · rw [show (26 + ((4 : Nat) : Int)) = 30 from rfl, twoF30]; rfl
  · rw [show (26 + ((5 : Nat) : Int)) = 31 from rfl, twoF31]; rfl
theorem bit_one (b : Bool) : (((bit b : Nat) : Int) == 1) = b := by cases b <;> rfl
end Go.Proofs.Ip
namespace Go.Proofs.Ythpodinbbmgfoaa
open Go.Proofs.Ip Go.Proofs.Pt Go.Proofs.Pg Go.Proofs.Cd Go.RowKit Go.Shelf
theorem run_four {l : List Cd.Inst} {n : Nat} {ni : Int} {x y z u : Nat} {pc err : Int} (hn : n ≤ 1000) (hg : ∀ y ∈ l, goodI y) (h : runF l b0 n th0 noWords = (⟨0, pc, [x, y, z, u], [], 0, 0, 0⟩, err)) (hni : ni = (n : Nat)) (lv : Value) (w0 w : World) (L : List (Nat × Array Value)) (R : List (Nat × Value × List Value)) (hv : Mem w0 w L R) (hl : (2, lv, cellsI l) ∈ R) :
    Calls Try.prog 70 #[lv, .int .i64 ni] w fun e w2 => ∃ sb so sc ra rn rc, e = .returned (.tuple #[.agg #[.int .i64 0, .int .i64 pc, .slice (some ⟨sb, so, none⟩) 4 sc, .slice ra rn rc, .int .u64 ((0 : Nat) : Int), .int .i64 0, .int .i64 0], .int .i64 err]) ∧ Mem w0 w2 L ((1, .slice (some ⟨sb, so, none⟩) 4 sc, cellsU [x, y, z, u]) :: R) := by
  subst hni
  have := run_any n hn lv l hg w0 w L R hv hl
  rw [h] at this
  refine this.mono fun e w2 ⟨sv, cv, g1, g2⟩ => ?_
  obtain ⟨sb, so, sc, rfl⟩ := slice1 (g2.rd Mem.z) (n := 4) rfl (by omega)
  obtain ⟨ra, rn, rc, rfl, _⟩ := id (g2.rd (Mem.s Mem.z))
  exact ⟨sb, so, sc, ra, rn, rc, g1, g2.dropR2⟩
set_option maxRecDepth 100000 in
set_option maxHeartbeats 4000000 in
theorem InterpFloats_any (w v : Nat) (hw : w < 18446744073709551616) (hv0 : v < 18446744073709551616) (wl : World) : Calls Try.prog 14 #[.int .u64 (w : Nat), .int .u64 (v : Nat)] wl fun e w' => e = .returned (.bool true) ∧ New wl w' := by
  have hv := Mem.nil wl
  have HW := Lib.hid hw
  have HV := Lib.hid hv0
  have kLess := fun w' => RLess_any w v hw hv0 w'
  have kEq := fun w' => REqual_any w v hw hv0 w'
  have kMin := fun w' => RMin_any w v hw hv0 w'
  have kMax := fun w' => RMax_any w v hw hv0 w'
  have RG := rG (w := w) (v := v) hw hv0
  have RF := fun (op : Int) ho => rF (w := w) (v := v) hw hv0 (op := op) ho
  generalize ltF w v = lb at *
  generalize eqF w v = eb at *
  have RGH := Lib.hid RG
  have RFH := Lib.hid RF
  have q1 := bit_one lb
  have q2 := bit_one eb
  clear hw hv0 RG RF
  replace hv := hv.bsl (k := 1) (n := 6) (c := opsL) ⟨rfl, made_alloc wl #[.int .i64 26, .int .i64 27, .int .i64 28, .int .i64 29, .int .i64 30, .int .i64 31] 3⟩ rfl rfl (by unfold maxLen; omega)
  go_enter Try.func14, Try.ntmps14
  go_wp2_with (first
    | (go_at_call 27; (refine (RAdd_any w v _).mono ?_); rintro e w1 ⟨n1, rfl, hd1⟩; replace hv := hv.new (drewN_new hd1); clear hd1)
    | (go_at_call 28; (refine (RSub_any w v _).mono ?_); rintro e w1 ⟨n1, rfl, hd1⟩; replace hv := hv.new (drewN_new hd1); clear hd1)
    | (go_at_call 29; (refine (RMul_any w v _).mono ?_); rintro e w1 ⟨n1, rfl, hd1⟩; replace hv := hv.new (drewN_new hd1); clear hd1)
    | (go_at_call 30; (refine (RDiv_any w v _).mono ?_); rintro e w1 ⟨n1, rfl, hd1⟩; replace hv := hv.new (drewN_new hd1); clear hd1)
    | (go_at_call 33; (refine (kMin _).mono ?_); rintro e w1 ⟨rfl, rfl⟩)
    | (go_at_call 35; (refine (kMax _).mono ?_); rintro e w1 ⟨rfl, rfl⟩)
    | ((with_reducible refine at_bslice (T := 29) (dst := some 31) ?_); refine wl_mkb rfl #[.int .u64 (opF .add w v : Nat), .int .u64 (opF .sub w v : Nat), .int .u64 (opF .mul w v : Nat), .int .u64 (opF .quo w v : Nat), .int .u64 (minF w v : Nat), .int .u64 (maxF w v : Nat)] 22 6 6 (fun w' => (by unfold execOp; go_simp)) ?_; intro b31 w2 hm2; replace hv := hv.bsl (k := 1) (c := cellsU (wantL w v)) hm2 rfl rfl (by unfold maxLen; omega); clear hm2))
  replace hv := hv.bsl (k := 1) (n := 6) (c := cellsU (wantL w v)) ⟨rfl, made_alloc w1 #[.int .u64 (opF .add w v : Nat), .int .u64 (opF .sub w v : Nat), .int .u64 (opF .mul w v : Nat), .int .u64 (opF .quo w v : Nat), .int .u64 (minF w v : Nat), .int .u64 (maxF w v : Nat)] 22⟩ rfl rfl (by unfold maxLen; omega)
  go_loopw [7] (fun i wr => ∃ k : Nat, k ≤ 6 ∧ i = .int .i64 (k : Nat) ∧ Mem wl wr [] [(1, .slice (some ⟨w1.heap.size, 0, none⟩) 6 6, cellsU (wantL w v)), (1, .slice (some ⟨wl.heap.size, 0, none⟩) 6 6, opsL)]) (fun i _ => 6 - (intOf i).toNat)
  case atStart => exact ⟨0, by omega, rfl, hv⟩
  case round =>
    clear hv
    obtain ⟨k, hk, rfl, hv⟩ := hrel
    by_cases hk2 : k < 6
    · have hki : (k : Int) < 6 := by omega
      have HK6 := Lib.hid hk2
      go_wp2_with (first
        | ((with_reducible refine at_load (T := 3) ?_); refine wl_rd rfl (hv.rd (Mem.s Mem.z)) k (by rw [Nat.zero_add]; rfl) _ Try.underlying3 rfl _ (ops_get HK6.out) ?_)
        | (go_at_call 70; replace hv := hv.bsl (k := 2) (n := 4) (c := cellsI (PF (26 + (k : Int)) w v)) ⟨rfl, made_alloc _ #[.int .i64 1, .int .u64 (w : Nat), .int .i64 1, .int .u64 (v : Nat), .int .i64 (26 + (k : Int)), .int .u64 0, .int .i64 0, .int .u64 0] 77⟩ rfl rfl (by unfold maxLen; omega); (with_reducible refine (run_one (l := (PF (26 + (k : Int)) w v)) (ni := 5) (by omega) (gPF (by omega) HW.out HV.out) (RFH.out _ (by omega)) (by omega) _ _ _ _ _ hv Mem.z).mono ?_); rintro e w1 ⟨sb1, so1, sc1, ra1, rn1, rc1, rfl, hv1⟩; replace hv := hv1; clear hv1)
        | ((with_reducible refine at_alloc (T := 79) (dst := some 8) ?_); refine wl_newb rfl #[.int .i64 0, .int .i64 0, .slice none 0 0, .slice none 0 0, .int .u64 0, .int .i64 0, .int .i64 0] 79 (fun _ => rfl) ?_; intro b8 w2 hm2; replace hv := hv.madeAt hm2; clear hm2)
        | ((with_reducible refine at_store (T := 79) ?_); refine wl_stv rfl b8 rfl _ rfl _ (hv.vars.row (by first | exact .head _ | exact .tail _ (.head _) | exact .tail _ (.tail _ (.head _)) | exact .tail _ (.tail _ (.tail _ (.head _))) | exact .tail _ (.tail _ (.tail _ (.tail _ (.head _)))) | exact .tail _ (.tail _ (.tail _ (.tail _ (.tail _ (.head _))))) | exact .tail _ (.tail _ (.tail _ (.tail _ (.tail _ (.tail _ (.head _)))))) | exact .tail _ (.tail _ (.tail _ (.tail _ (.tail _ (.tail _ (.tail _ (.head _))))))))) (hv.vars.sft (by first | exact .head _ | exact .tail _ (.head _) | exact .tail _ (.tail _ (.head _)) | exact .tail _ (.tail _ (.tail _ (.head _))) | exact .tail _ (.tail _ (.tail _ (.tail _ (.head _)))) | exact .tail _ (.tail _ (.tail _ (.tail _ (.tail _ (.head _))))) | exact .tail _ (.tail _ (.tail _ (.tail _ (.tail _ (.tail _ (.head _)))))) | exact .tail _ (.tail _ (.tail _ (.tail _ (.tail _ (.tail _ (.tail _ (.head _))))))))) 7 infoT rfl rfl (by simp [Value.oneCell']) ?_; intro w2 hw2; (first | (replace hv := hv.set 0 rfl hw2) | (replace hv := hv.set 1 rfl hw2) | (replace hv := hv.set 2 rfl hw2) | (replace hv := hv.set 3 rfl hw2) | (replace hv := hv.set 4 rfl hw2) | (replace hv := hv.set 5 rfl hw2) | (replace hv := hv.set 6 rfl hw2) | (replace hv := hv.set 7 rfl hw2)); clear hw2; simp only [List.set] at hv))
      have HS := Lib.hid (Any.rd_start hv Mem.z)
      have HWA := Lib.hid (Any.rd_start hv (Mem.s (Mem.s Mem.z)))
      refine Any.wp_region_walk [⟨[], none⟩, ⟨[], none⟩, ⟨[], none⟩, ⟨[], none⟩, ⟨[1000], none⟩, ⟨[], none⟩, ⟨[], none⟩, ⟨[], none⟩, ⟨[], none⟩, ⟨[], none⟩, ⟨[1000], none⟩, ⟨[], none⟩, ⟨[], none⟩, ⟨[], none⟩, ⟨[], none⟩, ⟨[], none⟩, ⟨[], none⟩, ⟨[], none⟩, ⟨[], none⟩] [.val, .val, .val, .val, .val, .val, .val, .val, .val, .val, .val, .val, .val, .val, .val, .val, .val, .val, .val] (by kernel_rfl) (by kernel_rfl) hv.vars ?_
      simp only [List.length_cons, List.length_nil, Nat.zero_add, Any.someVals]
      iterate 19 apply Exists.intro
      repeat (first
        | (refine Any.E_off rfl ?_; simp only [Act.put, List.setIfInBounds_toArray, List.set_cons_succ, List.set_cons_zero])
        | (apply Any.E_pureq rfl rfl rfl
           case h => intro K hK; go_big_quiet_op; (refine hK _ ?_; rfl)
           case hr => exact fun _ => rfl
           simp only [Act.put, List.setIfInBounds_toArray, List.set_cons_succ, List.set_cons_zero])
        | (apply Any.E_val rfl rfl rfl rfl
           case h =>
             intro E' hA K hK
             first
               | ((with_reducible refine Any.at_qload (T := 29) ?_); refine Any.q_ldc 1000 hA (by decide) rfl rfl _ Try.underlying29 rfl _ rfl ?_; refine hK _ ?_; rfl)
               | ((with_reducible refine Any.at_qload (T := 22) ?_); refine Any.q_rd HS.out 0 rfl _ Try.underlying22 rfl (.int .u64 (twoF (26 + (k : Int)) w v : Nat)) rfl ?_; refine hK _ ?_; rfl)
               | ((with_reducible refine Any.at_qload (T := 22) ?_); refine Any.q_rd HWA.out k (by rw [Nat.zero_add]; rfl) _ Try.underlying22 rfl (.int .u64 (twoF (26 + (k : Int)) w v : Nat)) (want_get HK6.out) ?_; refine hK _ ?_; rfl)
               | (go_big_quiet_op; first
                 | (refine hK _ ?_; rfl)
                 | (refine ⟨_, fun _ _ => rfl, ?_⟩; refine hK _ ?_; rfl)
                 | (apply Exists.intro; refine ⟨fun w1 hw1 => ?_, ?_⟩; · (first
                     | fail)
                    refine hK _ ?_; rfl))
           case hD => rfl
           simp only [Act.put, List.setIfInBounds_toArray, List.set_cons_succ, List.set_cons_zero])
        | ((with_reducible refine Any.at_ealloc ?_); refine Any.E_lay rfl rfl rfl (fun _ => rfl) ?_; intro B; simp only [Act.put, List.setIfInBounds_toArray, List.set_cons_succ, List.set_cons_zero]))
      try any_goals exact undef
      refine Any.E_nil ?_
      intro w9 hE9
      replace hv := hE9.mem hv [1000] (by decide)
      clear hE9
      go_wp2
      go_roundw
      case rel => exact ⟨k + 1, by omega, by go_num, (hv.keep (List.nil_sublist _)).dropR.dropR⟩
      case measure => simp [intOf]; omega
    · have hki : ¬ (k : Int) < 6 := by omega
      have hk6 : k = 6 := by omega
      clear hki hk2 hk
      subst hk6
      go_wp2_with (first
        | (go_at_call 70; replace hv := hv.bsl (k := 2) (n := 11) (c := cellsI (PG w v)) ⟨rfl, made_alloc _ #[.int .i64 1, .int .u64 (w : Nat), .int .i64 1, .int .u64 (v : Nat), .int .i64 32, .int .u64 0, .int .i64 1, .int .u64 (w : Nat), .int .i64 1, .int .u64 (v : Nat), .int .i64 33, .int .u64 0, .int .i64 1, .int .u64 (w : Nat), .int .i64 34, .int .u64 0, .int .i64 1, .int .u64 (v : Nat), .int .i64 36, .int .u64 0, .int .i64 0, .int .u64 0] 77⟩ rfl rfl (by unfold maxLen; omega); (with_reducible refine (run_four (l := PG w v) (ni := 12) (by omega) (gPG HW.out HV.out) RGH.out (by omega) _ _ _ _ _ hv Mem.z).mono ?_); rintro e w1 ⟨sb2, so2, sc2, ra2, rn2, rc2, rfl, hv1⟩; replace hv := hv1; clear hv1)
        | ((with_reducible refine at_alloc (T := 79) (dst := some 10) ?_); refine wl_newb rfl #[.int .i64 0, .int .i64 0, .slice none 0 0, .slice none 0 0, .int .u64 0, .int .i64 0, .int .i64 0] 79 (fun _ => rfl) ?_; intro b10 w2 hm2; replace hv := hv.madeAt hm2; clear hm2)
        | ((with_reducible refine at_store (T := 79) ?_); refine wl_stv rfl b10 rfl _ rfl _ (hv.vars.row (by first | exact .head _ | exact .tail _ (.head _) | exact .tail _ (.tail _ (.head _)) | exact .tail _ (.tail _ (.tail _ (.head _))) | exact .tail _ (.tail _ (.tail _ (.tail _ (.head _)))) | exact .tail _ (.tail _ (.tail _ (.tail _ (.tail _ (.head _))))) | exact .tail _ (.tail _ (.tail _ (.tail _ (.tail _ (.tail _ (.head _)))))) | exact .tail _ (.tail _ (.tail _ (.tail _ (.tail _ (.tail _ (.tail _ (.head _))))))))) (hv.vars.sft (by first | exact .head _ | exact .tail _ (.head _) | exact .tail _ (.tail _ (.head _)) | exact .tail _ (.tail _ (.tail _ (.head _))) | exact .tail _ (.tail _ (.tail _ (.tail _ (.head _)))) | exact .tail _ (.tail _ (.tail _ (.tail _ (.tail _ (.head _))))) | exact .tail _ (.tail _ (.tail _ (.tail _ (.tail _ (.tail _ (.head _)))))) | exact .tail _ (.tail _ (.tail _ (.tail _ (.tail _ (.tail _ (.tail _ (.head _))))))))) 7 infoT rfl rfl (by simp [Value.oneCell']) ?_; intro w2 hw2; (first | (replace hv := hv.set 0 rfl hw2) | (replace hv := hv.set 1 rfl hw2) | (replace hv := hv.set 2 rfl hw2) | (replace hv := hv.set 3 rfl hw2) | (replace hv := hv.set 4 rfl hw2) | (replace hv := hv.set 5 rfl hw2) | (replace hv := hv.set 6 rfl hw2) | (replace hv := hv.set 7 rfl hw2)); clear hw2; simp only [List.set] at hv)
        | ((with_reducible refine at_load (T := 29) ?_); refine wl_ldc rfl _ _ rfl _ (hv.vars.row (by first | exact .head _ | exact .tail _ (.head _) | exact .tail _ (.tail _ (.head _)) | exact .tail _ (.tail _ (.tail _ (.head _))) | exact .tail _ (.tail _ (.tail _ (.tail _ (.head _)))) | exact .tail _ (.tail _ (.tail _ (.tail _ (.tail _ (.head _))))) | exact .tail _ (.tail _ (.tail _ (.tail _ (.tail _ (.tail _ (.head _)))))) | exact .tail _ (.tail _ (.tail _ (.tail _ (.tail _ (.tail _ (.tail _ (.head _))))))))) _ Try.underlying29 rfl _ rfl ?_))
      have HS := Lib.hid (Any.rd_start hv Mem.z)
      refine Any.wp_region_walk [⟨[], none⟩, ⟨[1000], none⟩, ⟨[], none⟩, ⟨[], none⟩, ⟨[], none⟩, ⟨[], none⟩, ⟨[], none⟩, ⟨[], none⟩, ⟨[], none⟩, ⟨[], none⟩, ⟨[], none⟩, ⟨[1000], none⟩, ⟨[], none⟩, ⟨[], none⟩, ⟨[], none⟩, ⟨[], none⟩, ⟨[], none⟩, ⟨[], none⟩, ⟨[], none⟩, ⟨[], none⟩, ⟨[], none⟩, ⟨[], none⟩, ⟨[1000], none⟩, ⟨[], none⟩, ⟨[], none⟩, ⟨[], none⟩, ⟨[], none⟩, ⟨[], none⟩, ⟨[], none⟩, ⟨[], none⟩, ⟨[], none⟩, ⟨[1000], none⟩, ⟨[], none⟩, ⟨[], none⟩, ⟨[], none⟩, ⟨[], none⟩, ⟨[], none⟩, ⟨[], none⟩, ⟨[], none⟩, ⟨[], none⟩, ⟨[], none⟩, ⟨[], none⟩] [.val, .val, .val, .val, .val, .val, .val, .val, .val, .val, .val, .val, .val, .val, .val, .val, .val, .val, .val, .val, .val, .val, .val, .val, .val, .val, .val, .val, .val, .val, .val, .val, .val, .val, .val, .val, .val, .val, .val, .val, .val, .val] (by kernel_rfl) (by kernel_rfl) hv.vars ?_
      simp only [List.length_cons, List.length_nil, Nat.zero_add, Any.someVals]
      iterate 42 apply Exists.intro
      repeat (first
        | (refine Any.E_off rfl ?_; simp only [Act.put, List.setIfInBounds_toArray, List.set_cons_succ, List.set_cons_zero])
        | (apply Any.E_pureq rfl rfl rfl
           case h => intro K hK; go_big_quiet_op; (refine hK _ ?_; rfl)
           case hr => exact fun _ => rfl
           simp only [Act.put, List.setIfInBounds_toArray, List.set_cons_succ, List.set_cons_zero])
        | (apply Any.E_val rfl rfl rfl rfl
           case h =>
             intro E' hA K hK
             first
               | ((with_reducible refine Any.at_qload (T := 29) ?_); refine Any.q_ldc 1000 hA (by decide) rfl rfl _ Try.underlying29 rfl _ rfl ?_; refine hK _ ?_; rfl)
               | ((with_reducible refine Any.at_qload (T := 22) ?_); refine Any.q_rd HS.out 0 rfl _ Try.underlying22 rfl (.int .u64 (bit lb : Nat)) rfl ?_; refine hK _ ?_; rfl)
               | ((with_reducible refine Any.at_qload (T := 22) ?_); refine Any.q_rd HS.out 1 rfl _ Try.underlying22 rfl (.int .u64 (bit eb : Nat)) rfl ?_; refine hK _ ?_; rfl)
               | ((with_reducible refine Any.at_qload (T := 22) ?_); refine Any.q_rd HS.out 2 rfl _ Try.underlying22 rfl (.int .u64 (negF w : Nat)) rfl ?_; refine hK _ ?_; rfl)
               | ((with_reducible refine Any.at_qload (T := 22) ?_); refine Any.q_rd HS.out 3 rfl _ Try.underlying22 rfl (.int .u64 (toW v : Nat)) rfl ?_; refine hK _ ?_; rfl)
               | (go_big_quiet_op; first
                 | (refine hK _ ?_; rfl)
                 | (refine ⟨_, fun _ _ => rfl, ?_⟩; refine hK _ ?_; rfl)
                 | (apply Exists.intro; refine ⟨fun w1 hw1 => ?_, ?_⟩; · (first
                     | (go_at_call 37; exact Any.calls_VEq (kLess _) hw1)
                     | (go_at_call 39; exact Any.calls_VEq (kEq _) hw1)
                     | (go_at_call 31; exact Any.calls_VEq (RNeg_any w HW.out _) hw1)
                     | (go_at_call 43; exact Any.calls_VEq (RToInt_any v HV.out _) hw1)
                     | (go_at_call 71; exact Any.calls_VE (heads30 _) hw1))
                    refine hK _ ?_; rfl))
           case hD => rfl
           simp only [Act.put, List.setIfInBounds_toArray, List.set_cons_succ, List.set_cons_zero])
        | ((with_reducible refine Any.at_ealloc ?_); refine Any.E_lay rfl rfl rfl (fun _ => rfl) ?_; intro B; simp only [Act.put, List.setIfInBounds_toArray, List.set_cons_succ, List.set_cons_zero]))
      try any_goals exact undef
      refine Any.E_nil ?_
      intro w9 hE9
      replace hv := hE9.mem hv [1000] (by decide)
      clear hE9
      go_wp2
      go_ret
      exact ⟨rfl, hv.below⟩
end Go.Proofs.Ythpodinbbmgfoaa
