/-
  How a deed is built.
-/
import Derived.Test.YthpodinbbmgfoaaGreatIpDeed
import Derived.Test.YthpodinbbmgfoaaGreatProg
import Derived.Laws.Tables
set_option linter.unusedVariables false
set_option linter.unusedSimpArgs false
namespace Go.Proofs.Ip
open Go
theorem fold_get (off : Nat) : ∀ (l : List Value) (k : Nat) (cells : Array Value), off + k + l.length ≤ cells.size → ∀ i : Nat, ((l.zipIdx k).foldl (fun cs x => cs.setIfInBounds (off + x.2) x.1) cells)[i]? = if i < off + k then cells[i]? else if i < off + k + l.length then l[i - (off + k)]? else cells[i]?
  | [], k, cells, _, i => by
    simp only [List.zipIdx_nil, List.foldl_nil, List.length_nil, Nat.add_zero]
    by_cases h : i < off + k
    · rw [if_pos h]
    · rw [if_neg h, if_neg h]
  | v :: l, k, cells, h, i => by
    rw [List.length_cons] at h
    rw [List.zipIdx_cons, List.foldl_cons, fold_get off l (k + 1) _ (by simp; omega) i]
    simp only [Array.getElem?_setIfInBounds, List.length_cons]
    by_cases h1 : i < off + k
    · rw [if_pos (by omega), if_neg (by omega), if_pos h1]
    · by_cases h2 : i = off + k
      · subst h2
        rw [if_pos (by omega), if_pos rfl, if_pos (by omega), if_neg h1, if_pos (by omega), Nat.sub_self]; rfl
      · by_cases h3 : i < off + k + (l.length + 1)
        · rw [if_neg (by omega), if_pos (by omega), if_neg h1, if_pos h3]
          obtain ⟨d, rfl⟩ : ∃ d, i = off + k + (d + 1) := ⟨i - (off + k) - 1, by omega⟩
          rw [show off + k + (d + 1) - (off + (k + 1)) = d from by omega, show off + k + (d + 1) - (off + k) = d + 1 from by omega, List.getElem?_cons_succ]
        · rw [if_neg (by omega), if_neg (by omega), if_neg (by omega), if_neg h1, if_neg h3]
theorem fold_splice (c cells : Array Value) (off : Nat) (h : off + c.size ≤ cells.size) : c.zipIdx.foldl (fun cs x => cs.setIfInBounds (off + x.2) x.1) cells = splice cells off c := by
  apply Array.ext_getElem?
  intro i
  rw [get_splice _ _ _ h, ← Array.foldl_toList, Array.toList_zipIdx]
  have := fold_get off c.toList 0 cells (by simpa using h) i
  simpa using this
theorem fill_step (place : Nat → Option (Nat × Nat)) (cells : Array Value) (i : Nat) (v : Value) (rest : List (Nat × Value)) {off n : Nat} (hp : place i = some (off, n)) (hv : v.cells.size = n) (h : off + n ≤ cells.size) :
    Instr.fill place cells ((i, v) :: rest) = Instr.fill place (splice cells off v.cells) rest := by
  rw [Instr.fill, hp]
  simp only
  have h1 : (decide (v.cells.size ≠ n) || decide (off + v.cells.size > cells.size)) = false := by
    rw [Bool.or_eq_false_iff]
    exact ⟨decide_eq_false (fun h => h hv), decide_eq_false (by omega)⟩
  rw [if_neg (by rw [h1]; exact Bool.false_ne_true)]
  have := fold_splice v.cells cells off (by omega)
  exact congrArg (fun c => Instr.fill place c rest) this
end Go.Proofs.Ip
namespace Go.Proofs.YthpodinbbmgfoaaGreat
open Go.Proofs.Ip Go.RowKit
theorem deed_places : ((Tryz.prog.fieldsOf 58).toList.mapM (fun f => (Tryz.prog.info? f.type).map fun i => (f.offset, i.size))) = some [(0, 7), (7, 144), (151, 2), (153, 1), (154, 1), (155, 1)] := by kernel_rfl
theorem deed_struct : Tryz.prog.underlying 58 = some (.struct (Tryz.prog.fieldsOf 58)) := by kernel_rfl
theorem deed_info : (Tryz.prog.info? 58).map (fun i => (i.size, i.zero.map (·.cells.size))) = some (156, some 156) := by kernel_rfl
theorem deed_zero : (Tryz.prog.info? 58).map (fun i => i.zero.map (fun z => (z.cells.size, z.cells.extract 151 156))) = some (some (156, #[.int .i64 0, .int .u64 0, .slice none 0 0, .nilFunc, .nilFunc])) := by kernel_rfl
theorem deed_of {Z : Array Value} (h : Z.size = 156) : Z = deed (Z.extract 0 7) (Z.extract 7 151) (Z.extract 151 156) := by
  unfold deed
  apply Array.ext_getElem?
  intro i
  simp only [Array.getElem?_append, Array.size_append, Array.size_extract, Array.getElem?_extract]
  by_cases h1 : i < 7
  · rw [if_pos (by omega), if_pos (by omega), if_pos (by omega)]; simp
  · by_cases h2 : i < 151
    · rw [if_pos (by omega), if_neg (by omega), if_pos (by omega)]; congr 1; omega
    · by_cases h3 : i < 156
      · rw [if_neg (by omega), if_pos (by omega)]; congr 1; omega
      · rw [if_neg (by omega), if_neg (by omega), Array.getElem?_eq_none (by omega)]
set_option maxRecDepth 100000 in
theorem built_deed (T p : Array Value) (hT : T.size = 7) (hp : p.size = 144) (op : Int) (arg : Nat) :
    Tryz.prog.built 58 [(0, .agg T), (1, .agg p), (2, .agg #[.int .i64 op, .int .u64 (arg : Nat)])] = some (deed T p #[.int .i64 op, .int .u64 (arg : Nat), .slice none 0 0, .nilFunc, .nilFunc]) := by
  have h0 := deed_zero
  unfold Program.built
  cases hi : Tryz.prog.info? 58 with
  | none => rw [hi] at h0; cases h0
  | some it =>
    rw [hi] at h0
    simp only [Option.map_some, Option.some.injEq] at h0
    cases hz : it.zero with
    | none => rw [hz] at h0; cases h0
    | some z =>
      rw [hz] at h0
      simp only [Option.map_some, Option.some.injEq, Prod.mk.injEq] at h0
      obtain ⟨hs, hX⟩ := h0
      rw [deed_struct]
      simp only [hz, deed_places]
      have e := deed_of hs
      rw [hX] at e
      have s1 : (z.cells.extract 0 7).size = 7 := by simp; omega
      have s2 : (z.cells.extract 7 151).size = 144 := by simp; omega
      generalize z.cells.extract 0 7 = T0 at *
      generalize z.cells.extract 7 151 = p0 at *
      rw [e]
      have d1 := deed_size (X := #[Value.int .i64 0, .int .u64 0, .slice none 0 0, .nilFunc, .nilFunc]) s1 s2
      have d2 := deed_size (X := #[Value.int .i64 0, .int .u64 0, .slice none 0 0, .nilFunc, .nilFunc]) hT s2
      have d3 := deed_size (X := #[Value.int .i64 0, .int .u64 0, .slice none 0 0, .nilFunc, .nilFunc]) hT hp
      have x5 : (#[Value.int .i64 0, .int .u64 0, .slice none 0 0, .nilFunc, .nilFunc] : Array Value).size = 5 := rfl
      have hT' : (Value.agg T).cells.size = 7 := hT
      have p1 : splice (deed T0 p0 #[Value.int .i64 0, .int .u64 0, .slice none 0 0, .nilFunc, .nilFunc]) 0 (Value.agg T).cells = deed T p0 #[Value.int .i64 0, .int .u64 0, .slice none 0 0, .nilFunc, .nilFunc] := deed_put_thread s1 hT
      have p2 : splice (deed T p0 #[Value.int .i64 0, .int .u64 0, .slice none 0 0, .nilFunc, .nilFunc]) 7 (Value.agg p).cells = deed T p #[Value.int .i64 0, .int .u64 0, .slice none 0 0, .nilFunc, .nilFunc] := deed_put_pages hT s2 hp
      have hp' : (Value.agg p).cells.size = 144 := hp
      rw [fill_step _ _ 0 (.agg T) _ (off := 0) (n := 7) rfl hT' (by omega)]
      rw [p1]
      rw [fill_step _ _ 1 (.agg p) _ (off := 7) (n := 144) rfl hp' (by omega)]
      rw [p2]
      rw [fill_step _ _ 2 (.agg #[.int .i64 op, .int .u64 (arg : Nat)]) _ (off := 151) (n := 2) rfl rfl (by omega)]
      rw [Instr.fill]
      refine congrArg some ?_
      apply Array.ext_getElem?
      intro i
      rw [get_splice _ _ _ (by simp only [Value.cells]; simp; omega)]
      by_cases g1 : i < 151
      · rw [if_pos g1]
        by_cases g2 : i < 7
        · rw [deed_lo hT g2, deed_lo hT g2]
        · obtain ⟨j, rfl⟩ : ∃ j, i = 7 + j := ⟨i - 7, by omega⟩
          rw [deed_mid hT hp (by omega), deed_mid hT hp (by omega)]
      · obtain ⟨j, rfl⟩ : ∃ j, i = 151 + j := ⟨i - 151, by omega⟩
        rw [if_neg g1, deed_hi hT hp, deed_hi hT hp]
        match j with
        | 0 => rfl
        | 1 => rfl
        | j + 2 => rw [if_neg (by simp [Value.cells]; omega)]; rfl
end Go.Proofs.YthpodinbbmgfoaaGreat
