/-
 s[l:], s[:h], clear of a row of the call's own. No program in sight.
-/
import Derived.Test.YtjmibgomkgkhnaaGreatAnyZ
import Derived.Test.YtjmibgomkgkhnaaGreatSortM
import Derived.Test.YtjmibgomkgkhnaaGreatChecked
import Derived.Lib.SliceRun
import Derived.WalkMore
import Derived.ProofKit
import Derived.Carry
import Derived.Laws.Cover3
import Derived.OpenShut
import Derived.Deep.DeepMust
import Derived.TacticsInMore
import Derived.Shelf.RegionOpen
set_option linter.unusedVariables false
set_option linter.unusedSimpArgs false
namespace Go
open Go.RowKit
section
variable {P : Program} {ops : Array Oper} {rest : List Oper} {a : Act} {w : World} {Q : Exit → Act → World → Prop}
variable {dst : Option Tmp} {ty T t e : TypeId} {pos : String} {after : Array Edge} {g : Option (Nat × Bool)} {x xl xh : Operand} {k : Nat}
theorem wl_sliceVl (hgd : Region.wanted (⟨dst, .slice T x (some xl) none none, ty, pos, after, g⟩ : Oper) (yielded ops a.tmps) = true) {ao : Option Addr} {n cap : Nat} (hx : a.eval x = .slice ao n cap) (ht : P.underlying T = some (.slice e)) (hi0 : (P.info? e).map (·.size) = some k)
   (l : Nat) {kl : IntKind} (hl : a.eval xl = .int kl (l : Nat)) (h0 : l ≤ n) {v : Value} (hv : sliced ao l n cap k = v) (hk : wpList P ops Q rest (a.put dst v) w) : wpList P ops Q (⟨dst, .slice T x (some xl) none none, ty, pos, after, g⟩ :: rest) a w := by
 subst hv
 refine wpList_want hgd fun K hK => ?_
 have hr := run_part (w := w) (ao := ao) (n := n) (cap := cap) ht hi0 (some (.int kl (l : Nat))) none none l n cap (bounds_l h0)
 unfold Oper.wp execOp
 simp only [Sem.run_bind, hx, hl, Option.map_some, Option.map_none, hr, Result.andThen_ok, Sem.run_pure]
 exact hK _ _ hk
theorem at_clear (h : wpList P ops Q (⟨dst, .call { callee := .builtin .clear, args := #[x], argTypes := #[t] }, ty, pos, after, g⟩ :: rest) a w) : wpList P ops Q (⟨dst, .call { callee := .builtin .clear, args := #[x], argTypes := #[t] }, ty, pos, after, g⟩ :: rest) a w := h
theorem wl_clear (hgd : Region.wanted (⟨dst, .call { callee := .builtin .clear, args := #[x], argTypes := #[t] }, ty, pos, after, g⟩ : Oper) (yielded ops a.tmps) = true) {b o n cap : Nat} (hx : a.eval x = .slice (some ⟨b, o, none⟩) n cap) (hn : 0 < n) (ht : P.underlying t = some (.slice e)) {z : Value} (hz : (zeroValue e).run P w = .ok z w)
   (h1 : ∀ v ∈ z.cells.toList, v.oneCell' = true) {c : Array Value} (hr : w.rowD b = c) (hs : w.soft b = true) (ho : o + n * z.cells.size ≤ c.size)
   (hk : ∀ w' c', Wrote w w' b c' → c'.size = c.size → c'.toList.take o = c.toList.take o → wpList P ops Q rest (a.put dst (.tuple #[])) w') : wpList P ops Q (⟨dst, .call { callee := .builtin .clear, args := #[x], argTypes := #[t] }, ty, pos, after, g⟩ :: rest) a w := by
 refine wpList_want hgd fun K hK => ?_
 have hlen : (Builtin.zeroCells z.cells n).toList.length = n * z.cells.size := by rw [Array.length_toList, size_zeroCells]
 obtain ⟨tt, htt⟩ := soft_heap hs
 have hst := run_storeCells_cells (P := P) b o (Builtin.zeroCells z.cells n).toList 0 w
   (fun j hj => by rw [Nat.add_zero, cell_rowD, hr, Array.getElem?_eq_getElem (by omega)]; rfl)
   (fun j hj => frozen_of_row w b _ _ tt htt)
   (fun v hv => by
     unfold Builtin.zeroCells at hv
     simp at hv
     obtain ⟨q, hq, rfl⟩ := hv
     have h0 : 0 < z.cells.size := by
       rcases Nat.eq_zero_or_pos z.cells.size with h | h
       · rw [h] at hq; simp at hq
       · exact h
     rw [getElem!_pos z.cells _ (Nat.mod_lt _ h0)]
     exact h1 _ (by simp))
 rw [Nat.add_zero, setCells_row _ w b o hs (by rw [hr]; omega), hr] at hst
 have hc : ∀ ty, (Builtin.clear_ #[t] ty #[.slice (some ⟨b, o, none⟩) n cap]).run P w = .ok (.tuple #[]) (w.setRow b (splice c o (Builtin.zeroCells z.cells n).toList.toArray)) := fun ty => by
   cases n with
   | zero => omega
   | succ n => simp [Builtin.clear_, run_underlying ht, hz, hst, Result.andThen]
 have hsz := size_splice c o (Builtin.zeroCells z.cells n).toList.toArray (by rw [List.size_toArray, hlen]; exact ho)
 have hW := wrote_setRow (c := splice c o (Builtin.zeroCells z.cells n).toList.toArray) hs
 unfold Oper.wp execOp
 simp only [resolve, invoke, builtin, Sem.run_bind, Sem.run_pure, Result.andThen_ok, List.map_toArray, List.map_cons, List.map_nil, hx, hc]
 refine hK _ _ (hk _ _ hW hsz ?_)
 apply List.ext_getElem?
 intro i
 rw [List.getElem?_take, List.getElem?_take]
 by_cases hi : i < o
 · rw [if_pos hi, if_pos hi, Array.getElem?_toList, Array.getElem?_toList, get_splice _ _ _ (by rw [List.size_toArray, hlen]; exact ho), if_pos hi]
 · rw [if_neg hi, if_neg hi]
end
end Go
namespace Go.Proofs.YtjmibgomkgkhnaaGreat
theorem infoIz : (Tryz.prog.info? 3).map (fun i => (i.zero, i.size, i.bytes)) = some (some (.int .i64 0), 1, 8) := by kernel_rfl
end Go.Proofs.YtjmibgomkgkhnaaGreat
