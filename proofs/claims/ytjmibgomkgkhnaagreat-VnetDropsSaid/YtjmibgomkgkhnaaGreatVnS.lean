/-
 A card behind two rings: what stands in its tables while frames come and go. No program in sight.
-/
import Derived.Test.YtjmibgomkgkhnaaGreatVnX
set_option linter.unusedVariables false
set_option linter.unusedSimpArgs false
namespace Go.Proofs.Qu
open Go Go.RowKit Go.Proofs.Nm
def chT (c : Chn) : Nat × List Nat × Nat := (c.h, c.ds, c.rm)
def RxQ (chs : List Chn) (b : Nat) : Prop := chs.map chT = [(b % 4, [b % 4], 192), ((b + 1) % 4, [(b + 1) % 4], 192), ((b + 2) % 4, [(b + 2) % 4], 192), ((b + 3) % 4, [(b + 3) % 4], 192)]
def TxQ (chs : List Chn) (j k : Nat) : Prop := chs.map chT = (List.range (k - j)).map fun i => (j + i, [j + i], 0)
theorem chT_eq {c : Chn} {h r : Nat} (e : chT c = (h, [h], r)) : c.h = h ∧ c.ds = [h] ∧ c.rm = r := by
 unfold chT at e
 simp only [Prod.mk.injEq] at e
 exact e
theorem eq_chT {c : Chn} {h r : Nat} (e1 : c.h = h) (e2 : c.ds = [h]) (e3 : c.rm = r) : chT c = (h, [h], r) := by
 unfold chT
 rw [e1, e2, e3]
theorem RxQ.head {chs : List Chn} {b : Nat} (h : RxQ chs b) : ∃ c0 rest, chs = c0 :: rest ∧ c0.h = b % 4 ∧ c0.ds = [b % 4] ∧ c0.rm = 192 ∧ ∀ c : Chn, c.h = b % 4 → c.ds = [b % 4] → c.rm = 192 → RxQ (rest ++ [c]) (b + 1) := by
 unfold RxQ at *
 cases chs with
 | nil => simp at h
 | cons c0 rest =>
   rw [List.map_cons] at h
   obtain ⟨h1, h2⟩ := List.cons.inj h
   obtain ⟨e1, e2, e3⟩ := chT_eq h1
   refine ⟨c0, rest, rfl, e1, e2, e3, fun c g1 g2 g3 => ?_⟩
   rw [List.map_append, h2, List.map_singleton, eq_chT g1 g2 g3, show b + 1 + 1 = b + 2 from rfl, show b + 1 + 2 = b + 3 from rfl, show (b + 1 + 3) % 4 = b % 4 from by omega]
   rfl
theorem TxQ.add {chs : List Chn} {j k : Nat} (h : TxQ chs j k) (hjk : j ≤ k) {c : Chn} (g1 : c.h = k) (g2 : c.ds = [k]) (g3 : c.rm = 0) : TxQ (chs ++ [c]) j (k + 1) := by
 unfold TxQ at *
 rw [List.map_append, h, List.map_singleton, eq_chT g1 g2 g3, show k + 1 - j = (k - j) + 1 from by omega, List.range_succ, List.map_append, List.map_singleton, show j + (k - j) = k from by omega]
theorem TxQ.head {chs : List Chn} {j k : Nat} (h : TxQ chs j k) (hjk : j < k) : ∃ c0 rest, chs = c0 :: rest ∧ c0.h = j ∧ c0.ds = [j] ∧ c0.rm = 0 ∧ TxQ rest (j + 1) k := by
 unfold TxQ at *
 rw [show k - j = (k - (j + 1)) + 1 from by omega, List.range_succ_eq_map, List.map_cons, List.map_map] at h
 cases chs with
 | nil => simp at h
 | cons c0 rest =>
   rw [List.map_cons] at h
   obtain ⟨h1, h2⟩ := List.cons.inj h
   obtain ⟨e1, e2, e3⟩ := chT_eq h1
   refine ⟨c0, rest, rfl, e1, e2, e3, ?_⟩
   rw [h2]
   refine List.map_congr_left fun i _ => ?_
   show (j + (i + 1), [j + (i + 1)], 0) = (j + 1 + i, [j + 1 + i], 0)
   rw [show j + (i + 1) = j + 1 + i from by omega]
theorem TxQ.len {chs : List Chn} {j k : Nat} (h : TxQ chs j k) : chs.length = k - j := by
 have := congrArg List.length h
 simpa using this
theorem RxQ.len {chs : List Chn} {b : Nat} (h : RxQ chs b) : chs.length = 4 := by
 have := congrArg List.length h
 simpa using this
def outs (j k : Nat) : List Nat := (List.range 4).map fun i => if j ≤ i ∧ i < k then i + 1 else 0
def txFree (j k : Nat) : List Nat := (List.range 4).filter fun i => decide (i < j) || decide (k ≤ i)
theorem hdsT_all (chs : List Chn) : hdsT chs chs.length = (chs.map chT).map fun t => ((t.1 + 1 : Nat) : Int) := by
 unfold hdsT
 rw [List.take_length, List.map_map]
 rfl
theorem RxQ.perm {chs : List Chn} {b : Nat} (h : RxQ chs b) : (hdsT chs chs.length).Perm (inT [1, 2, 3, 4] 0) := by
 rw [hdsT_all, h]
 have e1 : (b + 1) % 4 = (b % 4 + 1) % 4 := by omega
 have e2 : (b + 2) % 4 = (b % 4 + 2) % 4 := by omega
 have e3 : (b + 3) % 4 = (b % 4 + 3) % 4 := by omega
 rw [e1, e2, e3]
 have hr : b % 4 < 4 := Nat.mod_lt _ (by decide)
 generalize b % 4 = r at *
 rcases (show r = 0 ∨ r = 1 ∨ r = 2 ∨ r = 3 from by omega) with rfl | rfl | rfl | rfl <;> decide
theorem jk_cases {P : Nat → Nat → Prop} (h : ∀ k, k < 5 → ∀ j, j < 5 → j ≤ k → P j k) {j k : Nat} (hjk : j ≤ k) (hk : k ≤ 4) : P j k := h k (by omega) j (by omega) hjk
theorem TxQ.perm {chs : List Chn} {j k : Nat} (h : TxQ chs j k) (hjk : j ≤ k) (hk : k ≤ 4) : (hdsT chs chs.length).Perm (inT (outs j k) 0) := by
 rw [hdsT_all, h]
 clear h
 revert j k
 refine fun {j k} hjk hk => jk_cases (P := fun j k => (((List.range (k - j)).map fun i => (j + i, [j + i], 0)).map fun t : Nat × List Nat × Nat => ((t.1 + 1 : Nat) : Int)).Perm (inT (outs j k) 0)) (by decide) hjk hk
theorem TxQ.free {chs : List Chn} {free : List Nat} {j k : Nat} (h : TxQ chs j k) (hjk : j ≤ k) (hk : k ≤ 4) (ho : OkQ 4 free chs) : free = txFree j k := by
 have e : chs.flatMap (·.ds) = (chs.map chT).flatMap (·.2.1) := by rw [List.flatMap_map]; rfl
 have h1 := ho.all
 rw [e, h] at h1
 have h2 : (txFree j k ++ ((List.range (k - j)).map fun i => (j + i, [j + i], 0)).flatMap (fun t : Nat × List Nat × Nat => t.2.1)).Perm (List.range 4) :=
   jk_cases (P := fun j k => (txFree j k ++ ((List.range (k - j)).map fun i => (j + i, [j + i], 0)).flatMap (fun t : Nat × List Nat × Nat => t.2.1)).Perm (List.range 4)) (by decide) hjk hk
 have h3 := (List.perm_append_right_iff _).1 (h1.trans h2.symm)
 refine sorted_eq ho.so ?_ h3
 exact jk_cases (P := fun j k => (txFree j k).Pairwise (· ≤ ·)) (by decide) hjk hk
end Go.Proofs.Qu
