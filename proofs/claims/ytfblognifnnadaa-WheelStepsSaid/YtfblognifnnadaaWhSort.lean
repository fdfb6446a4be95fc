/-
  slices.SortFunc at timers, by compare.
-/
import Derived.Test.YtfblognifnnadaaWhDel
import Derived.Test.YtfblognifnnadaaDraw
import Derived.Test.YtfblognifnnadaaSortM
import Derived.Shelf.SlSortCmp.NoneTotal
import Derived.Ground.SlsfProg
set_option linter.unusedVariables false
set_option linter.unusedSimpArgs false
namespace Go.Proofs
open Go.Shelf Go.RowKit Go.Lib Go.Sort
def WhSortT_ren : Go.Shelf.Ren := ⟨fun | 6 => 26 | 15 => 56 | 14 => 55 | 28 => 100 | 29 => 101 | 20 => 92 | 21 => 93 | 22 => 94 | 23 => 95 | 24 => 96 | 25 => 97 | 26 => 98 | 27 => 99 | 46 => 118 | 47 => 119 | 48 => 120 | 49 => 121 | 50 => 122 | 57 => 137 | n => n, fun | 22 => 23 | 24 => 63 | 25 => 73 | 3 => 3 | 39 => 117 | 0 => 0 | 53 => 105 | 55 => 22 | 4 => 4 | 46 => 157 | 45 => 156 | 50 => 112 | 5 => 5 | 9 => 9 | 66 => 173 | 70 => 177 | 76 => 191 | 77 => 192 | n => n, fun | n => n⟩
theorem WhSortT : Go.Proofs.SlLaysF0.n6 Try.prog WhSortT_ren := {
  mixed := by kernel_rfl
  f6 := ⟨Try.f26.name, by decide, Try.func26.trans (congrArg some (by kernel_rfl))⟩
  f14 := ⟨Try.f55.name, by decide, Try.func55.trans (congrArg some (by kernel_rfl))⟩
  f15 := Try.func56.trans (congrArg some (by kernel_rfl))
  f20 := ⟨Try.f92.name, by decide, Try.func92.trans (congrArg some (by kernel_rfl))⟩
  f21 := ⟨Try.f93.name, by decide, Try.func93.trans (congrArg some (by kernel_rfl))⟩
  f22 := ⟨Try.f94.name, by decide, Try.func94.trans (congrArg some (by kernel_rfl))⟩
  f23 := ⟨Try.f95.name, by decide, Try.func95.trans (congrArg some (by kernel_rfl))⟩
  f24 := ⟨Try.f96.name, by decide, Try.func96.trans (congrArg some (by kernel_rfl))⟩
  f25 := ⟨Try.f97.name, by decide, Try.func97.trans (congrArg some (by kernel_rfl))⟩
  f26 := ⟨Try.f98.name, by decide, Try.func98.trans (congrArg some (by kernel_rfl))⟩
  f27 := ⟨Try.f99.name, by decide, Try.func99.trans (congrArg some (by kernel_rfl))⟩
  f28 := Try.func100.trans (congrArg some (by kernel_rfl))
  f29 := Try.func101.trans (congrArg some (by kernel_rfl))
  f46 := ⟨Try.f118.name, by decide, Try.func118.trans (congrArg some (by kernel_rfl))⟩
  f47 := Try.func119.trans (congrArg some (by kernel_rfl))
  f48 := Try.func120.trans (congrArg some (by kernel_rfl))
  f49 := ⟨Try.f121.name, by decide, Try.func121.trans (congrArg some (by kernel_rfl))⟩
  f50 := ⟨Try.f122.name, by decide, Try.func122.trans (congrArg some (by kernel_rfl))⟩
  f57 := ⟨Try.f137.name, by decide, Try.func137.trans (congrArg some (by kernel_rfl))⟩
  t0 := Try.underlying0
  a0 := Try.isAgg0
  z0 := Try.sizeOf0
  v0 := Try.zeroValue0
  t3 := Try.underlying3
  a3 := Try.isAgg3
  z3 := Try.sizeOf3
  v3 := Try.zeroValue3
  t4 := Try.underlying4
  a4 := Try.isAgg4
  z4 := Try.sizeOf4
  v4 := Try.zeroValue4
  t5 := Try.underlying5
  a5 := Try.isAgg5
  z5 := Try.sizeOf5
  v5 := Try.zeroValue5
  t9 := Try.underlying9
  a9 := Try.isAgg9
  z9 := Try.sizeOf9
  v9 := Try.zeroValue9
  t22 := Try.underlying23
  a22 := Try.isAgg23
  z22 := Try.sizeOf23
  v22 := Try.zeroValue23
  t25 := Try.underlying73
  a25 := Try.isAgg73
  z25 := Try.sizeOf73
  v25 := Try.zeroValue73
  t39 := Try.underlying117
  a39 := Try.isAgg117
  z39 := Try.sizeOf117
  v39 := Try.zeroValue117
  t45 := Try.underlying156
  a45 := Try.isAgg156
  z45 := Try.sizeOf156
  v45 := Try.zeroValue156
  t46 := Try.underlying157
  a46 := Try.isAgg157
  z46 := Try.sizeOf157
  v46 := Try.zeroValue157
  t50 := Try.underlying112
  a50 := Try.isAgg112
  z50 := Try.sizeOf112
  v50 := Try.zeroValue112
  t53 := Try.underlying105
  a53 := Try.isAgg105
  z53 := Try.sizeOf105
  v53 := Try.zeroValue105
  t55 := Try.underlying22
  a55 := Try.isAgg22
  z55 := Try.sizeOf22
  v55 := Try.zeroValue22
  t66 := Try.underlying173
  a66 := Try.isAgg173
  z66 := Try.sizeOf173
  v66 := Try.zeroValue173
  t70 := Try.underlying177
  a70 := Try.isAgg177
  z70 := Try.sizeOf177
  v70 := Try.zeroValue177
  t76 := Try.underlying191
  a76 := Try.isAgg191
  z76 := Try.sizeOf191
  v76 := Try.zeroValue191
  t77 := Try.underlying192
  a77 := Try.isAgg192
  z77 := Try.sizeOf192
  v77 := Try.zeroValue192 }
end Go.Proofs
namespace Go
open Go.RowKit Go.Sort Go.Shelf Go.Lib
/-- Only new memory, and nothing undrawn: a world that has grown. -/
theorem grow_of {w w' : World} (h : New w w') (hd : w.drawn ≤ w'.drawn) : ∃ q os, w' = grow (w.drewN q) os := by
  refine ⟨w'.drawn - w.drawn, w'.heap.extract w.heap.size w'.heap.size, ?_⟩
  have e1 : w'.heap = w.heap ++ w'.heap.extract w.heap.size w'.heap.size := by
    apply Array.ext_getElem?
    intro i
    have hs := h.size
    by_cases hi : i < w.heap.size
    · rw [Array.getElem?_append_left hi]; exact h.block i hi
    · rw [Array.getElem?_append_right (by omega), Array.getElem?_extract]
      by_cases hi2 : i < w'.heap.size
      · rw [if_pos (by omega)]; congr 1; omega
      · rw [if_neg (by omega), Array.getElem?_eq_none (by omega)]
  have e2 : w'.drawn = w.drawn + (w'.drawn - w.drawn) := by omega
  have e3 := h.os
  have e4 := h.tape
  have e5 := h.output
  obtain ⟨hp, tp, dr, os, ou⟩ := w'
  obtain ⟨hp0, tp0, dr0, os0, ou0⟩ := w
  simp only at e1 e2 e3 e4 e5
  subst e3 e4 e5
  simp only [grow, World.drewN, World.mk.injEq, true_and, and_true]
  exact ⟨e1, e2⟩
end Go
namespace Go.Proofs.Ytfblognifnnadaa
open Go.Proofs.Wh Go.RowKit Go.Shelf Go.Lib Go.Sort Go.Proofs
instance (x y : Tm) : Decidable (tlt x y) := by unfold tlt; infer_instance
theorem sorted_frame {α : Type} [Inhabited α] {enc : α → List Value} {k : Nat} {w : World} {b : Nat} {d' : Array α} {m : Nat} {os : Array Obj} (hs : w.soft b = true) : w.heap.size ≤ (sortWorldK enc k w b 0 m d' os).heap.size ∧ ∀ j, j < w.heap.size → j ≠ b → (sortWorldK enc k w b 0 m d' os).heap[j]? = w.heap[j]? := by
  have h1 := new_ahead w m
  have hlt := soft_lt hs
  have q2 : (Sort.ahead w m).soft b = true := by rw [h1.soft hlt]; exact hs
  have h2 := wrote_putRow (F := flatK enc k d') q2
  have h3 := new_grow (putRow id (Sort.ahead w m) b 0 (flatK enc k d')) os
  have e : sortWorldK enc k w b 0 m d' os = grow (putRow id (Sort.ahead w m) b 0 (flatK enc k d')) os := rfl
  rw [e]
  refine ⟨Nat.le_trans h1.size (Nat.le_trans (by rw [h2.size]; exact Nat.le_refl _) h3.size), fun j hj hne => ?_⟩
  rw [h3.block j (by rw [h2.size]; exact Nat.lt_of_lt_of_le hj h1.size), h2.other j hne, h1.block j hj]
theorem ltT (x y : Tm) : ltOf cmpT x y = decide (tlt x y) := by
  unfold ltOf
  exact decide_eq_decide.2 cmpT_lt
theorem swoT : SWO (ltOf cmpT) where
  irrefl x := by rw [ltT]; exact decide_eq_false (tlt_irr x)
  trans x y z h1 h2 := by rw [ltT] at *; exact decide_eq_true (tlt_trans (of_decide_eq_true h1) (of_decide_eq_true h2))
  ntrans x y z h1 h2 := by
    rw [ltT] at *
    have a := of_decide_eq_false h1
    have b := of_decide_eq_false h2
    refine decide_eq_false fun h => ?_
    unfold tlt at *; omega
theorem compare_grow (x y : Tm) (W : World) : Calls Try.prog 27 #[.agg (encT x).toArray, .agg (encT y).toArray] W fun e w' => e = .returned (.int .i64 (cmpT x y)) ∧ ∃ q os', w' = grow (W.drewN q) os' :=
  ((compare_any x y W).drawn (fun w' h => by cases h.1)).mono fun e w' h => ⟨h.1.1, grow_of h.1.2 h.2⟩
theorem cmpLT (blk off size : Nat) (w : World) : CmpLays Try.prog 27 #[] encT 2 cmpT blk off size w :=
  fun _ _ _ _ x y => compare_grow x y _
instance : Inhabited Tm := ⟨(0, 0)⟩
/-- The row is sorted. -/
theorem sort_any (b n cap : Nat) (z : Array Value) (l : List Tm) (hn : l.length ≤ 100000) (w0 w : World) (L : List (Nat × Array Value)) (R : List (Nat × Value × List Value)) (hv : Mem w0 w ((b, z) :: L) R) (hr : AppRow (.slice (some ⟨b, 0, none⟩) n cap) 2 (cellsT l) (b, z)) :
    Calls Try.prog 26 #[.slice (some ⟨b, 0, none⟩) n cap, .func (.func 27) #[] #[]] w fun e w' => e = .returned (.tuple #[]) ∧ ∃ l' z', l'.Perm l ∧ l'.Pairwise (fun x y => ¬ tlt y x) ∧ Mem w0 w' ((b, z') :: L) R ∧ AppRow (.slice (some ⟨b, 0, none⟩) n cap) 2 (cellsT l') (b, z') ∧ w.heap.size ≤ w'.heap.size ∧ ∀ j, j < w.heap.size → j ≠ b → w'.heap[j]? = w.heap[j]? := by
  have eg : ∀ args w, (callFunc 27 args).run Try.prog w = .ok (.enter 27 args) w := enters_of Try.func27 (by kernel_rfl) rfl
  obtain ⟨d, rfl⟩ : ∃ d : Array Tm, d.toList = l := ⟨l.toArray, rfl⟩
  have hk : ∀ x, (encT x).length = 2 := fun _ => rfl
  have h1 : ∀ x, ∀ v ∈ encT x, v.oneCell' = true := fun x v hv => by
    simp only [encT] at hv
    rcases List.mem_cons.1 hv with rfl | hv
    · rfl
    · rw [List.mem_singleton.1 hv]; rfl
  have hr2 : AppRow (.slice (some ⟨b, 0, none⟩) n cap) 2 (d.toList.flatMap encT) (b, z) := hr
  have hds : d.size = n := by
    obtain ⟨n', cap', e, g1, _⟩ := hr
    cases e
    rw [cellsT_len, Array.length_toList] at g1
    omega
  have hnl : d.size ≤ 100000 := by rw [Array.length_toList] at hn; exact hn
  obtain ⟨q1, q2, _⟩ := hv.vars.rows (b, z) (List.mem_cons_self ..)
  have hcon := AnyQ.slices_SortFunc WhSortT 2 Try.isAgg63 Try.sizeOf63 encT hk h1 cmpT swoT 27 #[] b 0 cap d w eg (cmpLT _ _ _ _) (holds_row hk (by decide) hv hr2) (soft_lt q2) (by omega)
  change Calls Try.prog 26 _ _ _ at hcon
  rw [hds] at hcon
  refine hcon.mono ?_
  rintro e w' ⟨rfl, d', m, os, hp, hs, rfl⟩
  have hsz : d'.size = d.size := hp.1
  obtain ⟨z', g1, g2⟩ := Mem.sorted hk (by decide) hv hr2 hsz m os
  refine ⟨rfl, d'.toList, z', ?_, ?_, g1, g2, sorted_frame q2⟩
  · have := hp.2.2
    have e1 : d'.extract 0 n = d' := by rw [← hds, ← hsz]; simp
    have e2 : d.extract 0 n = d := by rw [← hds]; simp
    rw [e1, e2] at this
    exact this
  · rw [List.pairwise_iff_getElem]
    intro i j hi hj hij
    have hj' : j < n := by rw [← hds, ← hsz]; simpa using hj
    have := hs i j (Nat.zero_le _) hij hj'
    rw [getElem!_pos d' i (by omega), getElem!_pos d' j (by omega)] at this
    rw [ltT, decide_eq_false_iff_not] at this
    simp only [Array.getElem_toList]
    exact this
theorem sort_none (p : Option Addr) (cap : Nat) (fv : Value) (w : World) : Calls Try.prog 26 #[.slice p 0 cap, fv] w fun e w' => e = .returned (.tuple #[]) ∧ w' = w := by
  have h := AnyF.slices_SortFunc_none (P := Try.prog) { WhSortT with } p cap fv w
  exact h
end Go.Proofs.Ytfblognifnnadaa
