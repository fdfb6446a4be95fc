/-
  slices.SortFunc at spans.
-/
import Derived.Test.YtphijkdamdkjcaaWiBase
import Derived.Test.YtphijkdamdkjcaaSortM
import Derived.Shelf.SlSortCmp.NoneTotal
import Derived.Shelf.Lay
import Derived.Ground.SlsfProg
set_option linter.unusedVariables false
set_option linter.unusedSimpArgs false
namespace Go.Proofs
open Go.Shelf Go.RowKit Go.Lib Go.Sort
shelf_lay_g SlLaysF0.n6 Slsf 6 at Try 75 as WiSortSp
end Go.Proofs
namespace Go.Proofs.Wi
open Go
def GoodSp (p : SpV) : Prop := -1000000000000 ≤ p.1 ∧ p.1 ≤ 1000000000000 ∧ p.2.1.oneCell' = true
abbrev SpG := { p : SpV // GoodSp p }
instance : Inhabited SpG := ⟨⟨(0, .slice none 0 0, []), by decide, by decide, rfl⟩⟩
def encG (p : SpG) : List Value := encS p.1
def cfG (x y : SpG) : Int := x.1.1 - y.1.1
end Go.Proofs.Wi
namespace Go.Proofs.Ytphijkdamdkjcaa
open Go.Proofs.Wi Go.RowKit Go.Shelf Go.Lib Go.Sort
theorem ltG (x y : SpG) : ltOf cfG x y = decide (x.1.1 < y.1.1) := by
  unfold ltOf cfG
  exact decide_eq_decide.2 (by omega)
theorem swoG : SWO (ltOf cfG) where
  irrefl x := by rw [ltG]; simp
  trans x y z h1 h2 := by rw [ltG] at *; simp at *; omega
  ntrans x y z h1 h2 := by rw [ltG] at *; simp at *; omega
set_option maxHeartbeats 1000000 in
theorem cmp_any (x y : Int) (u v : Value) (hx : -1000000000000 ≤ x ∧ x ≤ 1000000000000) (hy : -1000000000000 ≤ y ∧ y ≤ 1000000000000) (W : World) : Calls Try.prog 76 #[.agg #[.int .i64 x, u], .agg #[.int .i64 y, v]] W fun e w' => e = .returned (.int .i64 (x - y)) ∧ ∃ q os', w' = grow (W.drewN q) os' := by
  have q : IntKind.i64.wrap (x - y) = x - y := IntWalk.i64_in _ (by omega)
  clear hx hy
  go_enter Try.func76, Try.ntmps76
  go_wp2
  go_ret
  exact ⟨rfl, 0, _, by rw [alloc_eq_grow, alloc_eq_grow, grow_grow]; rfl⟩
theorem cmpG (blk off size : Nat) (w : World) : CmpLays Try.prog 76 #[] encG 2 cfG blk off size w :=
  fun _ _ _ _ x y => cmp_any x.1.1 y.1.1 x.1.2.1 y.1.2.1 ⟨x.2.1, x.2.2.1⟩ ⟨y.2.1, y.2.2.1⟩ _
/-- The row is sorted. -/
theorem sort_any (b n cap : Nat) (z : Array Value) (l : List SpV) (hg : ∀ p ∈ l, GoodSp p) (hn : l.length ≤ 100000) (w0 w : World) (L : List (Nat × Array Value)) (R : List (Nat × Value × List Value)) (hv : Mem w0 w ((b, z) :: L) R) (hr : AppRow (.slice (some ⟨b, 0, none⟩) n cap) 2 (cellsS l) (b, z)) :
    Calls Try.prog 75 #[.slice (some ⟨b, 0, none⟩) n cap, .func (.func 76) #[] #[]] w fun e w' => e = .returned (.tuple #[]) ∧ ∃ l' z', l'.Perm l ∧ l'.Pairwise (fun x y => x.1 ≤ y.1) ∧ Mem w0 w' ((b, z') :: L) R ∧ AppRow (.slice (some ⟨b, 0, none⟩) n cap) 2 (cellsS l') (b, z') := by
  have eg : ∀ args w, (callFunc 76 args).run Try.prog w = .ok (.enter 76 args) w := enters_of Try.func76 (by kernel_rfl) rfl
  obtain ⟨d, hd⟩ : ∃ d : Array SpG, d.toList.map (·.1) = l := ⟨(l.attach.map fun p => (⟨p.1, hg p.1 p.2⟩ : SpG)).toArray, by
    simp only [List.map_map, Function.comp_def]
    exact List.attach_map_subtype_val l⟩
  have hfl : ∀ e : Array SpG, e.toList.flatMap encG = cellsS (e.toList.map (·.1)) := fun e => by simp only [cellsS, List.flatMap_map]; rfl
  have hk : ∀ x, (encG x).length = 2 := fun _ => rfl
  have h1 : ∀ x, ∀ v ∈ encG x, v.oneCell' = true := fun x v hv => by
    simp only [encG, encS] at hv
    rcases List.mem_cons.1 hv with rfl | hv
    · rfl
    · rw [List.mem_singleton.1 hv]; exact x.2.2.2
  have hr2 : AppRow (.slice (some ⟨b, 0, none⟩) n cap) 2 (d.toList.flatMap encG) (b, z) := by rw [hfl, hd]; exact hr
  have hds : d.size = n := by
    obtain ⟨n', cap', e, g1, _⟩ := hr
    cases e
    rw [cellsS_len] at g1
    have := congrArg List.length hd
    rw [List.length_map, Array.length_toList] at this
    omega
  have hnl : d.size ≤ 100000 := by
    have := congrArg List.length hd
    rw [List.length_map, Array.length_toList] at this
    omega
  obtain ⟨q1, q2, _⟩ := hv.vars.rows (b, z) (List.mem_cons_self ..)
  have hcon := AnyQ.slices_SortFunc WiSortSp 2 Try.isAgg87 Try.sizeOf87 encG hk h1 cfG swoG 76 #[] b 0 cap d w eg (cmpG _ _ _ _) (holds_row hk (by decide) hv hr2) (soft_lt q2) (by omega)
  change Calls Try.prog 75 _ _ _ at hcon
  rw [hds] at hcon
  refine hcon.mono ?_
  rintro e w' ⟨rfl, d', m, os, hp, hs, rfl⟩
  have hsz : d'.size = d.size := hp.1
  obtain ⟨z', g1, g2⟩ := Mem.sorted hk (by decide) hv hr2 hsz m os
  refine ⟨rfl, d'.toList.map (·.1), z', ?_, ?_, g1, by rw [← hfl]; exact g2⟩
  · rw [← hd]
    have := hp.2.2
    have e1 : d'.extract 0 n = d' := by rw [← hds, ← hsz]; simp
    have e2 : d.extract 0 n = d := by rw [← hds]; simp
    rw [e1, e2] at this
    exact this.map _
  · rw [List.pairwise_map, List.pairwise_iff_getElem]
    intro i j hi hj hij
    have hj' : j < n := by rw [← hds, ← hsz]; simpa using hj
    have := hs i j (Nat.zero_le _) hij hj'
    rw [getElem!_pos d' i (by omega), getElem!_pos d' j (by omega)] at this
    rw [ltG, decide_eq_false_iff_not] at this
    simp only [Array.getElem_toList]
    exact Int.not_lt.1 this
theorem sort_none (p : Option Addr) (cap : Nat) (fv : Value) (w : World) : Calls Try.prog 75 #[.slice p 0 cap, fv] w fun e w' => e = .returned (.tuple #[]) ∧ w' = w := by
  have h := AnyF.slices_SortFunc_none (P := Try.prog) { WiSortSp with } p cap fv w
  exact h
end Go.Proofs.Ytphijkdamdkjcaa
