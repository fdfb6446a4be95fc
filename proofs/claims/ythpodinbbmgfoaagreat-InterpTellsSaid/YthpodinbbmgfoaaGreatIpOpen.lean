/-
  A struct that comes in as an argument, whatever its fields; threads; programs; pages whose words are in range.
-/
import Derived.Test.YthpodinbbmgfoaaGreatLaw
import Derived.Test.YthpodinbbmgfoaaGreatRd
import Derived.Test.YthpodinbbmgfoaaGreatCdBase
import Derived.Test.YthpodinbbmgfoaaGreatPgWalk2
import Derived.Test.YthpodinbbmgfoaaGreatIpBase
set_option linter.unusedVariables false
set_option linter.unusedSimpArgs false
namespace Go
open Go.ChangeShapes Go.WideShapes Go.RowKit
section
variable {H : Type} {enc : TypeId × Value → H} {P : Program} {w : World} {base : Nat} {spare : Nat → Bool} {held : Bool}
theorem open_struct {t : TypeId} {F : Array Field} {tos : List (TypeId × Nat)} {fuel : Nat} {cs : List Value} {x : DataW H × List MemPlace} (ht : P.underlying t = some (.struct F)) (hfs : F.toList.map (fun f => (f.type, f.offset)) = tos)
    (h : DataW.trod enc P w base spare held fuel t cs = some x) : cs.length = P.cellsOf t ∧ ∃ n : Nat, ∀ (i : Nat) (p : TypeId × Nat), tos[i]? = some p → ∃ y, DataW.trod enc P w base spare held n p.1 ((cs.drop p.2).take (P.cellsOf p.1)) = some y := by
  obtain ⟨xs, n, _, _, hl, hx, hf⟩ := DataW.trod_struct ht h
  refine ⟨hl, n, fun i p hp => ?_⟩
  rw [← hfs, List.getElem?_map] at hp
  cases e : F.toList[i]? with
  | none => rw [e] at hp; cases hp
  | some f =>
    rw [e] at hp
    cases hp
    have hi : i < F.toList.length := (List.getElem?_eq_some_iff.1 e).1
    have hxl : i < xs.length := by
      have : xs.length = F.toList.length := by simpa using hx
      omega
    have := hf i f (by simpa using e)
    rw [List.getElem?_eq_getElem hxl] at this
    exact ⟨_, this⟩
theorem take_one1 {α : Type} {l : List α} {n : Nat} {v : α} (h : (l.drop n).take 1 = [v]) : l[n]? = some v := by
  have h0 : ((l.drop n).take 1)[0]? = some v := by rw [h]; rfl
  rw [List.getElem?_take, List.getElem?_drop] at h0
  simpa using h0
theorem u64_of {q : Int} (h : (Lit.int .u64 q).wf = true) : ∃ n : Nat, q = (n : Nat) ∧ n < 18446744073709551616 := by
  simp only [Lit.wf, Bool.and_eq_true, decide_eq_true_eq] at h
  have h1 : IntKind.u64.min = 0 := by decide
  have h2 : IntKind.u64.max = 18446744073709551615 := by decide
  exact ⟨q.toNat, by omega, by omega⟩
end
end Go
namespace Go.Proofs.YthpodinbbmgfoaaGreat
open Go.Proofs.Cd Go.Proofs.Pg Go.Proofs.Ip Go.RowKit Go.ChangeShapes Go.WideShapes
section
variable {H : Type} {enc : TypeId × Value → H} {w : World} {base : Nat} {spare : Nat → Bool} {held : Bool}
theorem fieldsT1 : (Tryz.prog.fieldsOf 28).toList.map (fun f => (f.type, f.offset)) = [(3, 0), (3, 1), (23, 2), (24, 3), (25, 4), (3, 5), (26, 6)] := by kernel_rfl
theorem structT1 : Tryz.prog.underlying 28 = some (.struct (Tryz.prog.fieldsOf 28)) := by kernel_rfl
theorem fieldsI1 : (Tryz.prog.fieldsOf 48).toList.map (fun f => (f.type, f.offset)) = [(3, 0), (25, 1)] := by kernel_rfl
theorem structI1 : Tryz.prog.underlying 48 = some (.struct (Tryz.prog.fieldsOf 48)) := by kernel_rfl
theorem fieldsP1 : (Tryz.prog.fieldsOf 31).toList.map (fun f => (f.type, f.offset)) = [(4, 0), (29, 1)] := by kernel_rfl
theorem structP1 : Tryz.prog.underlying 31 = some (.struct (Tryz.prog.fieldsOf 31)) := by kernel_rfl
theorem co_int : Tryz.prog.cellsOf 3 = 1 := by kernel_rfl
theorem co_u64 : Tryz.prog.cellsOf 25 = 1 := by kernel_rfl
theorem co_err : Tryz.prog.cellsOf 26 = 1 := by kernel_rfl
theorem co_su : Tryz.prog.cellsOf 23 = 1 := by kernel_rfl
theorem co_sn : Tryz.prog.cellsOf 24 = 1 := by kernel_rfl
theorem co_T : Tryz.prog.cellsOf 28 = 7 := by kernel_rfl
theorem co_I : Tryz.prog.cellsOf 48 = 2 := by kernel_rfl
theorem co_b : Tryz.prog.cellsOf 4 = 1 := by kernel_rfl
theorem co_w8 : Tryz.prog.cellsOf 29 = 8 := by kernel_rfl
theorem co_P : Tryz.prog.cellsOf 31 = 9 := by kernel_rfl
theorem co_ps : Tryz.prog.cellsOf 32 = 144 := by kernel_rfl
theorem cells_int {k : IntKind} {t : TypeId} {fuel n : Nat} {cs : List Value} {y : DataW H × List MemPlace} (ht : Tryz.prog.underlying t = some (.int k)) (hc : Tryz.prog.cellsOf t = 1) (h : DataW.trod enc Tryz.prog w base spare held fuel t ((cs.drop n).take (Tryz.prog.cellsOf t)) = some y) : ∃ m : Int, cs[n]? = some (.int k m) ∧ (Lit.int k m).wf = true := by
  rw [hc] at h
  obtain ⟨m, e, _, hw⟩ := DataW.trod_int ht h
  exact ⟨m, take_one1 e, hw⟩
/-- A program's row. -/
theorem open_prog1 {fuel : Nat} {cs : List Value} {x : DataW H × List MemPlace} (h : DataW.trod enc Tryz.prog w 0 spare held fuel 22 cs = some x) : ∃ v, cs = [v] ∧ ∃ l : List Cd.Inst, Rd w 2 v (cellsI l) ∧ ∀ x ∈ l, goodI x := by
  refine open_rd enI goodI 2 (by omega) Tryz.underlying22 co_I len_enI (fun n cs' d hd => ?_) h
  obtain ⟨hl, m, hf⟩ := open_struct structI1 fieldsI1 hd
  obtain ⟨y0, e0⟩ := hf 0 _ rfl
  obtain ⟨y1, e1⟩ := hf 1 _ rfl
  obtain ⟨a, ga, wa⟩ := cells_int Tryz.underlying3 co_int e0
  obtain ⟨b, gb, wb⟩ := cells_int Tryz.underlying25 co_u64 e1
  obtain ⟨b, rfl, hb⟩ := u64_of wb
  rw [co_I] at hl
  simp only [Lit.wf, Bool.and_eq_true, decide_eq_true_eq] at wa
  have h1 : IntKind.i64.min = -9223372036854775808 := by decide
  have h2 : IntKind.i64.max = 9223372036854775807 := by decide
  rw [h1, h2] at wa
  refine ⟨(a, b), ?_, wa.1, wa.2, hb⟩
  apply List.ext_getElem?
  intro i
  unfold enI
  rcases (show i = 0 ∨ i = 1 ∨ 2 ≤ i from by omega) with rfl | rfl | hi
  · rw [ga]; rfl
  · rw [gb]; rfl
  · rw [List.getElem?_eq_none (by omega), List.getElem?_eq_none (by simp; omega)]
/-- A thread. -/
theorem open_thread {v : Value} {d : DataW H} {ps : List MemPlace} (h : DataW.Trod enc Tryz.prog w 0 spare held 28 v d ps) :
    ∃ st pc sk er wk sv cv S C, v = .agg #[.int .i64 st, .int .i64 pc, sv, cv, .int .u64 ((wk : Nat) : Int), .int .i64 sk, .int .i64 er] ∧ Rd w 1 sv (cellsU S) ∧ Rd w 1 cv (cellsN C) ∧ ∀ x ∈ S, x < 18446744073709551616 := by
  obtain ⟨fuel, h⟩ := h
  obtain ⟨hl, m, hf⟩ := open_struct structT1 fieldsT1 h
  rw [co_T] at hl
  have hv : ∃ cs, v = .agg cs := by
    cases v with
    | agg cs => exact ⟨cs, rfl⟩
    | _ => simp [Value.cells] at hl
  obtain ⟨cs, rfl⟩ := hv
  simp only [Value.cells] at hl hf
  obtain ⟨y0, e0⟩ := hf 0 _ rfl
  obtain ⟨y1, e1⟩ := hf 1 _ rfl
  obtain ⟨y2, e2⟩ := hf 2 _ rfl
  obtain ⟨y3, e3⟩ := hf 3 _ rfl
  obtain ⟨y4, e4⟩ := hf 4 _ rfl
  obtain ⟨y5, e5⟩ := hf 5 _ rfl
  obtain ⟨y6, e6⟩ := hf 6 _ rfl
  obtain ⟨st, g0, _⟩ := cells_int Tryz.underlying3 co_int e0
  obtain ⟨pc, g1, _⟩ := cells_int Tryz.underlying3 co_int e1
  obtain ⟨wk, g4, w4⟩ := cells_int Tryz.underlying25 co_u64 e4
  obtain ⟨sk, g5, _⟩ := cells_int Tryz.underlying3 co_int e5
  obtain ⟨er, g6, _⟩ := cells_int Tryz.underlying26 co_err e6
  obtain ⟨wk, rfl, _⟩ := u64_of w4
  obtain ⟨sv, g2, l2, r2, u2⟩ := open_rd_ints Tryz.underlying23 Tryz.underlying25 co_u64 e2
  obtain ⟨cv, g3, l3, r3, _⟩ := open_rd_ints Tryz.underlying24 Tryz.underlying3 co_int e3
  rw [co_su] at g2
  rw [co_sn] at g3
  have g2' := take_one1 g2
  have g3' := take_one1 g3
  refine ⟨st, pc, sk, er, wk, sv, cv, l2.map Int.toNat, l3, ?_, ?_, r3, fun x hx => ?_⟩
  · refine congrArg Value.agg ?_
    apply Array.ext_getElem?
    intro i
    rw [← Array.getElem?_toList]
    match i with
    | 0 => rw [g0]; rfl
    | 1 => rw [g1]; rfl
    | 2 => rw [g2']; rfl
    | 3 => rw [g3']; rfl
    | 4 => rw [g4]; rfl
    | 5 => rw [g5]; rfl
    | 6 => rw [g6]; rfl
    | i + 7 => rw [List.getElem?_eq_none (by omega), Array.getElem?_eq_none (by simp)]
  · have e : cellsU (l2.map Int.toNat) = l2.map (Value.int .u64) := by
      unfold cellsU
      rw [List.map_map]
      apply List.map_congr_left
      intro q hq
      obtain ⟨n, rfl, _⟩ := u64_of (u2 q hq)
      simp
    rw [e]; exact r2
  · obtain ⟨q, hq, rfl⟩ := List.mem_map.1 hx
    obtain ⟨n, rfl, hn⟩ := u64_of (u2 q hq)
    simpa using hn
/-- Pages, their words in range. -/
theorem open_page1 {fuel : Nat} {cs : List Value} {x : DataW H × List MemPlace} (h : DataW.trod enc Tryz.prog w base spare held fuel 31 cs = some x) :
    (∃ b, cs[0]? = some (.bool b)) ∧ ∀ k, k < 8 → ∃ m : Nat, cs[1 + k]? = some (.int .u64 m) ∧ m < 18446744073709551616 := by
  obtain ⟨hl, m, hf⟩ := open_struct structP1 fieldsP1 h
  obtain ⟨y0, e0⟩ := hf 0 _ rfl
  obtain ⟨y1, e1⟩ := hf 1 _ rfl
  rw [co_b] at e0
  rw [co_w8] at e1
  refine ⟨?_, fun k hk => ?_⟩
  · obtain ⟨b, e, _⟩ := DataW.trod_bool Tryz.underlying4 e0
    exact ⟨b, take_one1 e⟩
  · obtain ⟨ys, m, rfl, _, _, hy, hg⟩ := DataW.trod_array Tryz.underlying29 e1
    have e2 := hg k hk
    rw [co_u64, Nat.mul_one, List.getElem?_eq_getElem (by omega)] at e2
    obtain ⟨q, e, _, hw⟩ := DataW.trod_int Tryz.underlying25 e2
    have e3 := take_one1 e
    obtain ⟨n, rfl, hn⟩ := u64_of hw
    rw [List.getElem?_take, if_pos hk, List.getElem?_drop] at e3
    exact ⟨n, e3, hn⟩
theorem open_pg1 {v : Value} {d : DataW H} {ps : List MemPlace} (h : DataW.Trod enc Tryz.prog w base spare held 32 v d ps) : ∃ b q, v = .agg (pg b q) ∧ ∀ i k, q i k < 18446744073709551616 := by
  obtain ⟨fuel, h⟩ := h
  obtain ⟨xs, m, rfl, _, hl, hx, hf⟩ := DataW.trod_array Tryz.underlying32 h
  rw [co_ps] at hl
  have hv : ∃ cs, v = .agg cs := by
    cases v with
    | agg cs => exact ⟨cs, rfl⟩
    | _ => simp [Value.cells] at hl
  obtain ⟨cs, rfl⟩ := hv
  simp only [Value.cells] at hl hf
  rw [co_P] at hf
  have hb : ∀ i, i < 16 → ∃ b, cs[i * 9]? = some (.bool b) := fun i hi => by
    have e := hf i hi
    rw [List.getElem?_eq_getElem (by omega)] at e
    obtain ⟨⟨b, e0⟩, _⟩ := open_page1 e
    rw [List.getElem?_take, if_pos (by omega), List.getElem?_drop] at e0
    exact ⟨b, by simpa using e0⟩
  have hq : ∀ i k, i < 16 → k < 8 → ∃ n : Nat, cs[i * 9 + 1 + k]? = some (.int .u64 n) ∧ n < 18446744073709551616 := fun i k hi hk => by
    have e := hf i hi
    rw [List.getElem?_eq_getElem (by omega)] at e
    obtain ⟨_, e1⟩ := open_page1 e
    obtain ⟨n, e2, hn⟩ := e1 k hk
    rw [List.getElem?_take, if_pos (by omega), List.getElem?_drop] at e2
    exact ⟨n, by rw [Nat.add_assoc]; simpa using e2, hn⟩
  refine ⟨fun i => match cs[i * 9]? with | some (.bool b) => b | _ => false, fun i k => if i < 16 ∧ k < 8 then (match cs[i * 9 + 1 + k]? with | some (.int _ n) => n.toNat | _ => 0) else 0, ?_, fun i k => ?_⟩
  · refine congrArg Value.agg ?_
    apply Array.ext_getElem?
    intro j
    rw [get_pg]
    by_cases hj : j < 144
    · rw [if_pos hj]
      unfold cellPg
      by_cases h0 : j % 9 = 0
      · rw [if_pos h0]
        obtain ⟨b, e⟩ := hb (j / 9) (by omega)
        have ej : j / 9 * 9 = j := by omega
        rw [ej] at e
        simp only [ej, e]
      · rw [if_neg h0]
        obtain ⟨n, e, _⟩ := hq (j / 9) (j % 9 - 1) (by omega) (by omega)
        have ej : j / 9 * 9 + 1 + (j % 9 - 1) = j := by omega
        rw [ej] at e
        dsimp only
        rw [if_pos (show j / 9 < 16 ∧ j % 9 - 1 < 8 from ⟨by omega, by omega⟩)]
        simp only [ej, e, Int.toNat_natCast]
    · rw [if_neg hj, Array.getElem?_eq_none]
      have : cs.size = cs.toList.length := by simp
      omega
  · dsimp only
    split
    · rename_i hik
      obtain ⟨n, e, hn⟩ := hq i k hik.1 hik.2
      rw [e]
      simpa using hn
    · decide
end
end Go.Proofs.YthpodinbbmgfoaaGreat
