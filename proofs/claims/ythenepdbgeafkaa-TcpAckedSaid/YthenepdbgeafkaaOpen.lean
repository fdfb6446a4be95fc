/-
 Structs that come in as arguments, whatever their fields; slices of bytes, of numbers. No program in sight.
-/
import Derived.Test.YthenepdbgeafkaaLaw
import Derived.Test.YthenepdbgeafkaaRd
import Derived.Test.YthenepdbgeafkaaGAF
set_option linter.unusedVariables false
set_option linter.unusedSimpArgs false
namespace Go
open Go.ChangeShapes Go.WideShapes Go.RowKit
section
variable {H : Type} {enc : TypeId × Value → H} {P : Program} {w : World} {base : Nat} {spare : Nat → Bool} {held : Bool}
theorem open_str {t : TypeId} {F : Array Field} {tos : List (TypeId × Nat)} {fuel : Nat} {cs : List Value} {x : DataW H × List MemPlace} (ht : P.underlying t = some (.struct F)) (hfs : F.toList.map (fun f => (f.type, f.offset)) = tos)
   (h : DataW.trod enc P w base spare held fuel t cs = some x) : cs.length = P.cellsOf t ∧ ∃ n : Nat, ∀ (i : Nat) (p : TypeId × Nat), tos[i]? = some p → ∃ y, DataW.trod enc P w base spare held n p.1 ((cs.drop p.2).take (P.cellsOf p.1)) = some y := by
 obtain ⟨xs, n, _, _, hl, hx, hf⟩ := DataW.trod_struct ht h
 refine ⟨hl, n, fun i p hp => ?_⟩
 rw [← hfs, List.getElem?_map] at hp
 cases e : F.toList[i]? with
 | none => rw [e] at hp; cases hp
 | some f =>
   rw [e] at hp
   cases hp
   have hi : i < F.toList.length := (List.getElem?_eq_some_iff.1 e).1
   have hxl : i < xs.length := by
     have : xs.length = F.toList.length := by simpa using hx
     omega
   have := hf i f (by simpa using e)
   rw [List.getElem?_eq_getElem hxl] at this
   exact ⟨_, this⟩
theorem take_1 {α : Type} {l : List α} {n : Nat} {v : α} (h : (l.drop n).take 1 = [v]) : l[n]? = some v := by
 have h0 : ((l.drop n).take 1)[0]? = some v := by rw [h]; rfl
 rw [List.getElem?_take, List.getElem?_drop] at h0
 simpa using h0
theorem u32_of {q : Int} (h : (Lit.int .u32 q).wf = true) : ∃ n : Nat, q = (n : Nat) ∧ n < 4294967296 := by
 simp only [Lit.wf, Bool.and_eq_true, decide_eq_true_eq] at h
 have h1 : IntKind.u32.min = 0 := by decide
 have h2 : IntKind.u32.max = 4294967295 := by decide
 exact ⟨q.toNat, by omega, by omega⟩
theorem u8_of {q : Int} (h : (Lit.int .u8 q).wf = true) : ∃ n : Nat, q = (n : Nat) ∧ n < 256 := by
 simp only [Lit.wf, Bool.and_eq_true, decide_eq_true_eq] at h
 have h1 : IntKind.u8.min = 0 := by decide
 have h2 : IntKind.u8.max = 255 := by decide
 exact ⟨q.toNat, by omega, by omega⟩
theorem i64_of {q : Int} (h : (Lit.int .i64 q).wf = true) : -9223372036854775808 ≤ q ∧ q ≤ 9223372036854775807 := by
 simp only [Lit.wf, Bool.and_eq_true, decide_eq_true_eq] at h
 have h1 : IntKind.i64.min = -9223372036854775808 := by decide
 have h2 : IntKind.i64.max = 9223372036854775807 := by decide
 omega
theorem cell_int {k : IntKind} {t : TypeId} {fuel n : Nat} {cs : List Value} {y : DataW H × List MemPlace} (ht : P.underlying t = some (.int k)) (hc : P.cellsOf t = 1) (h : DataW.trod enc P w base spare held fuel t ((cs.drop n).take (P.cellsOf t)) = some y) : ∃ m : Int, cs[n]? = some (.int k m) ∧ (Lit.int k m).wf = true := by
 rw [hc] at h
 obtain ⟨m, e, _, hw⟩ := DataW.trod_int ht h
 exact ⟨m, take_1 e, hw⟩
theorem cell_bool {t : TypeId} {fuel n : Nat} {cs : List Value} {y : DataW H × List MemPlace} (ht : P.underlying t = some .bool) (hc : P.cellsOf t = 1) (h : DataW.trod enc P w base spare held fuel t ((cs.drop n).take (P.cellsOf t)) = some y) : ∃ m : Bool, cs[n]? = some (.bool m) := by
 rw [hc] at h
 obtain ⟨m, e, _⟩ := DataW.trod_bool ht h
 exact ⟨m, take_1 e⟩
theorem agg_of {v : Value} {n : Nat} (h : v.cells.toList.length = n) (hn : n ≠ 1) : ∃ cs, v = .agg cs := by
 cases v with
 | agg cs => exact ⟨cs, rfl⟩
 | _ => simp [Value.cells] at h <;> omega
theorem Mem.all {w : World} {R : LR} (h : ∀ x ∈ R, Rd w x.1 x.2.1 x.2.2) : Mem w w [] R :=
 ⟨Vars.nil w, fun x hx => ⟨h x hx, fun _ _ _ _ _ _ p hp => (List.not_mem_nil hp).elim⟩⟩
end
end Go
