/-
 slices.SortFunc at spans.
-/
import Derived.Test.YthenepdbgeafkaaGAK
import Derived.Test.YthenepdbgeafkaaSortM
import Derived.Shelf.SlSortCmp.NoneTotal
import Derived.Ground.SlsfProg
set_option linter.unusedVariables false
set_option linter.unusedSimpArgs false
namespace Go.Proofs
open Go.Shelf Go.RowKit Go.Lib Go.Sort
def WiSortSp_ren : Go.Shelf.Ren := ⟨fun | 6 => 83 | 15 => 86 | 14 => 85 | 28 => 95 | 29 => 96 | 20 => 87 | 21 => 88 | 22 => 89 | 23 => 90 | 24 => 91 | 25 => 92 | 26 => 93 | 27 => 94 | 46 => 97 | 47 => 98 | 48 => 99 | 49 => 100 | 50 => 101 | 57 => 102 | n => n, fun | 22 => 89 | 24 => 92 | 25 => 109 | 3 => 3 | 39 => 86 | 0 => 0 | 53 => 22 | 55 => 28 | 4 => 4 | 46 => 114 | 45 => 113 | 50 => 118 | 5 => 5 | 9 => 9 | 66 => 122 | 70 => 126 | 76 => 128 | 77 => 129 | n => n, fun | n => n⟩
theorem WiSortSp : Go.Proofs.SlLaysF0.n6 Try.prog WiSortSp_ren := {
 mixed := by kernel_rfl
 f6 := ⟨Try.f83.name, by decide, Try.func83.trans (congrArg some (by kernel_rfl))⟩
 f14 := ⟨Try.f85.name, by decide, Try.func85.trans (congrArg some (by kernel_rfl))⟩
 f15 := Try.func86.trans (congrArg some (by kernel_rfl))
 f20 := ⟨Try.f87.name, by decide, Try.func87.trans (congrArg some (by kernel_rfl))⟩
 f21 := ⟨Try.f88.name, by decide, Try.func88.trans (congrArg some (by kernel_rfl))⟩
 f22 := ⟨Try.f89.name, by decide, Try.func89.trans (congrArg some (by kernel_rfl))⟩
 f23 := ⟨Try.f90.name, by decide, Try.func90.trans (congrArg some (by kernel_rfl))⟩
 f24 := ⟨Try.f91.name, by decide, Try.func91.trans (congrArg some (by kernel_rfl))⟩
 f25 := ⟨Try.f92.name, by decide, Try.func92.trans (congrArg some (by kernel_rfl))⟩
 f26 := ⟨Try.f93.name, by decide, Try.func93.trans (congrArg some (by kernel_rfl))⟩
 f27 := ⟨Try.f94.name, by decide, Try.func94.trans (congrArg some (by kernel_rfl))⟩
 f28 := Try.func95.trans (congrArg some (by kernel_rfl))
 f29 := Try.func96.trans (congrArg some (by kernel_rfl))
 f46 := ⟨Try.f97.name, by decide, Try.func97.trans (congrArg some (by kernel_rfl))⟩
 f47 := Try.func98.trans (congrArg some (by kernel_rfl))
 f48 := Try.func99.trans (congrArg some (by kernel_rfl))
 f49 := ⟨Try.f100.name, by decide, Try.func100.trans (congrArg some (by kernel_rfl))⟩
 f50 := ⟨Try.f101.name, by decide, Try.func101.trans (congrArg some (by kernel_rfl))⟩
 f57 := ⟨Try.f102.name, by decide, Try.func102.trans (congrArg some (by kernel_rfl))⟩
 t0 := Try.underlying0
 a0 := Try.isAgg0
 z0 := Try.sizeOf0
 v0 := Try.zeroValue0
 t3 := Try.underlying3
 a3 := Try.isAgg3
 z3 := Try.sizeOf3
 v3 := Try.zeroValue3
 t4 := Try.underlying4
 a4 := Try.isAgg4
 z4 := Try.sizeOf4
 v4 := Try.zeroValue4
 t5 := Try.underlying5
 a5 := Try.isAgg5
 z5 := Try.sizeOf5
 v5 := Try.zeroValue5
 t9 := Try.underlying9
 a9 := Try.isAgg9
 z9 := Try.sizeOf9
 v9 := Try.zeroValue9
 t22 := Try.underlying89
 a22 := Try.isAgg89
 z22 := Try.sizeOf89
 v22 := Try.zeroValue89
 t25 := Try.underlying109
 a25 := Try.isAgg109
 z25 := Try.sizeOf109
 v25 := Try.zeroValue109
 t39 := Try.underlying86
 a39 := Try.isAgg86
 z39 := Try.sizeOf86
 v39 := Try.zeroValue86
 t45 := Try.underlying113
 a45 := Try.isAgg113
 z45 := Try.sizeOf113
 v45 := Try.zeroValue113
 t46 := Try.underlying114
 a46 := Try.isAgg114
 z46 := Try.sizeOf114
 v46 := Try.zeroValue114
 t50 := Try.underlying118
 a50 := Try.isAgg118
 z50 := Try.sizeOf118
 v50 := Try.zeroValue118
 t53 := Try.underlying22
 a53 := Try.isAgg22
 z53 := Try.sizeOf22
 v53 := Try.zeroValue22
 t55 := Try.underlying28
 a55 := Try.isAgg28
 z55 := Try.sizeOf28
 v55 := Try.zeroValue28
 t66 := Try.underlying122
 a66 := Try.isAgg122
 z66 := Try.sizeOf122
 v66 := Try.zeroValue122
 t70 := Try.underlying126
 a70 := Try.isAgg126
 z70 := Try.sizeOf126
 v70 := Try.zeroValue126
 t76 := Try.underlying128
 a76 := Try.isAgg128
 z76 := Try.sizeOf128
 v76 := Try.zeroValue128
 t77 := Try.underlying129
 a77 := Try.isAgg129
 z77 := Try.sizeOf129
 v77 := Try.zeroValue129 }
end Go.Proofs
namespace Go.Proofs.Wi
open Go
def GoodSp (p : SpV) : Prop := -1000000000000 ≤ p.1 ∧ p.1 ≤ 1000000000000 ∧ p.2.1.oneCell' = true
abbrev SpG := { p : SpV // GoodSp p }
instance : Inhabited SpG := ⟨⟨(0, .slice none 0 0, []), by decide, by decide, rfl⟩⟩
def encG (p : SpG) : List Value := encS p.1
def cfG (x y : SpG) : Int := x.1.1 - y.1.1
end Go.Proofs.Wi
namespace Go.Proofs.Ythenepdbgeafkaa
open Go.Proofs.Wi Go.RowKit Go.Shelf Go.Lib Go.Sort
theorem ltG (x y : SpG) : ltOf cfG x y = decide (x.1.1 < y.1.1) := by
 unfold ltOf cfG
 exact decide_eq_decide.2 (by omega)
theorem swoG : SWO (ltOf cfG) where
 irrefl x := by rw [ltG]; simp
 trans x y z h1 h2 := by rw [ltG] at *; simp at *; omega
 ntrans x y z h1 h2 := by rw [ltG] at *; simp at *; omega
set_option maxHeartbeats 1000000 in
theorem cmp_any (x y : Int) (u v : Value) (hx : -1000000000000 ≤ x ∧ x ≤ 1000000000000) (hy : -1000000000000 ≤ y ∧ y ≤ 1000000000000) (W : World) : Calls Try.prog 84 #[.agg #[.int .i64 x, u], .agg #[.int .i64 y, v]] W fun e w' => e = .returned (.int .i64 (x - y)) ∧ ∃ q os', w' = grow (W.drewN q) os' := by
 have q : IntKind.i64.wrap (x - y) = x - y := IntWalk.i64_in _ (by omega)
 clear hx hy
 go_enter Try.func84, Try.ntmps84
 go_wp2
 go_ret
 exact ⟨rfl, 0, _, by rw [alloc_eq_grow, alloc_eq_grow, grow_grow]; rfl⟩
theorem cmpG (blk off size : Nat) (w : World) : CmpLays Try.prog 84 #[] encG 2 cfG blk off size w :=
 fun _ _ _ _ x y => cmp_any x.1.1 y.1.1 x.1.2.1 y.1.2.1 ⟨x.2.1, x.2.2.1⟩ ⟨y.2.1, y.2.2.1⟩ _
theorem sort_any (b n cap : Nat) (z : Array Value) (l : List SpV) (hg : ∀ p ∈ l, GoodSp p) (hn : l.length ≤ 100000) (w0 w : World) (L : LV) (R : LR) (hv : Mem w0 w ((b, z) :: L) R) (hr : AppRow (.slice (some ⟨b, 0, none⟩) n cap) 2 (cellsS l) (b, z)) :
   Calls Try.prog 83 #[.slice (some ⟨b, 0, none⟩) n cap, .func (.func 84) #[] #[]] w fun e w' => e = .returned (.tuple #[]) ∧ ∃ l' z', l'.Perm l ∧ l'.Pairwise (fun x y => x.1 ≤ y.1) ∧ Mem w0 w' ((b, z') :: L) R ∧ AppRow (.slice (some ⟨b, 0, none⟩) n cap) 2 (cellsS l') (b, z') := by
 have eg : ∀ args w, (callFunc 84 args).run Try.prog w = .ok (.enter 84 args) w := enters_of Try.func84 (by kernel_rfl) rfl
 obtain ⟨d, hd⟩ : ∃ d : Array SpG, d.toList.map (·.1) = l := ⟨(l.attach.map fun p => (⟨p.1, hg p.1 p.2⟩ : SpG)).toArray, by
   simp only [List.map_map, Function.comp_def]
   exact List.attach_map_subtype_val l⟩
 have hfl : ∀ e : Array SpG, e.toList.flatMap encG = cellsS (e.toList.map (·.1)) := fun e => by simp only [cellsS, List.flatMap_map]; rfl
 have hk : ∀ x, (encG x).length = 2 := fun _ => rfl
 have h1 : ∀ x, ∀ v ∈ encG x, v.oneCell' = true := fun x v hv => by
   simp only [encG, encS] at hv
   rcases List.mem_cons.1 hv with rfl | hv
   · rfl
   · rw [List.mem_singleton.1 hv]; exact x.2.2.2
 have hr2 : AppRow (.slice (some ⟨b, 0, none⟩) n cap) 2 (d.toList.flatMap encG) (b, z) := by rw [hfl, hd]; exact hr
 have hds : d.size = n := by
   obtain ⟨n', cap', e, g1, _⟩ := hr
   cases e
   rw [cellsS_len] at g1
   have := congrArg List.length hd
   rw [List.length_map, Array.length_toList] at this
   omega
 have hnl : d.size ≤ 100000 := by
   have := congrArg List.length hd
   rw [List.length_map, Array.length_toList] at this
   omega
 obtain ⟨q1, q2, _⟩ := hv.vars.rows (b, z) (List.mem_cons_self ..)
 have hcon := AnyQ.slices_SortFunc WiSortSp 2 Try.isAgg92 Try.sizeOf92 encG hk h1 cfG swoG 84 #[] b 0 cap d w eg (cmpG _ _ _ _) (holds_row hk (by decide) hv hr2) (soft_lt q2) (by omega)
 change Calls Try.prog 83 _ _ _ at hcon
 rw [hds] at hcon
 refine hcon.mono ?_
 rintro e w' ⟨rfl, d', m, os, hp, hs, rfl⟩
 have hsz : d'.size = d.size := hp.1
 obtain ⟨z', g1, g2⟩ := Mem.sorted hk (by decide) hv hr2 hsz m os
 refine ⟨rfl, d'.toList.map (·.1), z', ?_, ?_, g1, by rw [← hfl]; exact g2⟩
 · rw [← hd]
   have := hp.2.2
   have e1 : d'.extract 0 n = d' := by rw [← hds, ← hsz]; simp
   have e2 : d.extract 0 n = d := by rw [← hds]; simp
   rw [e1, e2] at this
   exact this.map _
 · rw [List.pairwise_map, List.pairwise_iff_getElem]
   intro i j hi hj hij
   have hj' : j < n := by rw [← hds, ← hsz]; simpa using hj
   have := hs i j (Nat.zero_le _) hij hj'
   rw [getElem!_pos d' i (by omega), getElem!_pos d' j (by omega)] at this
   rw [ltG, decide_eq_false_iff_not] at this
   simp only [Array.getElem_toList]
   exact Int.not_lt.1 this
theorem sort_none (p : Option Addr) (cap : Nat) (fv : Value) (w : World) : Calls Try.prog 83 #[.slice p 0 cap, fv] w fun e w' => e = .returned (.tuple #[]) ∧ w' = w := by
 have h := AnyF.slices_SortFunc_none (P := Try.prog) { WiSortSp with } p cap fv w
 exact h
end Go.Proofs.Ythenepdbgeafkaa
