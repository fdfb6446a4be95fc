/-
  The walk of the reference's Get.
-/
import Derived.Test.YthpodinbbmgfoaaCdSame
set_option linter.unusedVariables false
namespace Go
open Go.RowKit Go.Proofs.Nm
/-- A part of a slice of bytes. -/
theorem rd_sub {w : World} {b o n cap : Nat} {l : List Nat} (h : Rd w 1 (.slice (some ⟨b, o, none⟩) n cap) (cellsB l)) {lo hi : Nat} (h1 : lo ≤ hi) (h2 : hi ≤ n) : Rd w 1 (.slice (some ⟨b, o + lo, none⟩) (hi - lo) (cap - lo)) (cellsB ((l.drop lo).take (hi - lo))) := by
  obtain ⟨ao, n', cap', e, g1, g2, g3, g4, g5⟩ := h
  cases e
  rw [cellsB_len, Nat.mul_one] at g1
  refine ⟨some ⟨b, o + lo, none⟩, hi - lo, cap - lo, rfl, ?_, by omega, by omega, fun h => (by cases h), fun i hi' => ?_⟩
  · rw [cellsB_len, List.length_take, List.length_drop]; omega
  · rw [cellsB_len, List.length_take, List.length_drop] at hi'
    obtain ⟨b', o', e', hb, hc⟩ := g5 (lo + i) (by rw [cellsB_len]; omega)
    cases e'
    refine ⟨b, o + lo, rfl, hb, ?_⟩
    rw [Nat.add_assoc, hc]
    unfold cellsB
    rw [List.getElem?_map, List.getElem?_map, List.getElem?_take, if_pos (by omega), List.getElem?_drop]
end Go
namespace Go.Proofs.Cd
open Go Go.Proofs.Nm
def getI (b : List Nat) (i : Nat) : Inst := ((b.getD (9 * i) 0 : Nat), fromB ((b.drop (9 * i + 1)).take 8))
def getN (b : List Nat) (k : Nat) : List Inst := (List.range k).map (getI b)
theorem getN_succ (b : List Nat) (k : Nat) : getN b (k + 1) = getN b k ++ [getI b k] := by unfold getN; rw [List.range_succ, List.map_append]; rfl
theorem getN_len (b : List Nat) (k : Nat) : (getN b k).length = k := by simp [getN]
def getL (b : List Nat) : List Inst := getN b (b.length / 9)
theorem fromB_lt {l : List Nat} (h : goodB l) : fromB l < 18446744073709551616 := by
  unfold fromB
  have h1 := fromTo_lt h (min 8 l.length)
  have := pow256 (k := min 8 l.length) (by omega)
  omega
theorem goodB_sub {l : List Nat} (h : goodB l) (a b : Nat) : goodB ((l.drop a).take b) := fun x hx => h x (List.mem_of_mem_drop (List.mem_of_mem_take hx))
theorem getI_good {b : List Nat} (h : goodB b) (i : Nat) : goodI (getI b i) := by
  have h1 := goodB_at h (9 * i)
  have h2 := fromB_lt (goodB_sub h (9 * i + 1) 8)
  unfold getI goodI
  dsimp only
  omega
theorem getN_good {b : List Nat} (h : goodB b) (k : Nat) : ∀ x ∈ getN b k, goodI x := by
  intro x hx
  obtain ⟨i, _, rfl⟩ := List.mem_map.1 hx
  exact getI_good h i
theorem cellsI_snoc (l : List Inst) (x : Inst) : cellsI (l ++ [x]) = cellsI l ++ [.int .i64 x.1, .int .u64 x.2] := by simp [cellsI, enI]
def formB (b : List Nat) : Bool := decide (9 ≤ b.length) && decide (b.length ≤ 1152) && decide (b.length % 9 = 0)
def okB (b : List Nat) : Bool := formB b && chk (getL b)
def getE (b : List Nat) : Int := if formB b then (if chk (getL b) then 0 else 290) else 3
/-- What Get answers. -/
def GetR (w : World) (b : List Nat) (e : Ending) (w' : World) : Prop := ∃ v, e = .returned (.tuple #[v, .int .i64 (getE b)]) ∧ Rd w' 2 v (cellsI (if okB b then getL b else [])) ∧ Go.RowKit.Below w.heap.size w w'
theorem form_no {b : List Nat} (h : formB b = false) : getE b = 3 ∧ (if okB b then getL b else []) = [] := by unfold getE okB; rw [h]; exact ⟨rfl, rfl⟩
theorem form_bad {b : List Nat} (h : formB b = true) (hc : chk (getL b) = false) : getE b = 290 ∧ (if okB b then getL b else []) = [] := by unfold getE okB; rw [h, hc]; exact ⟨rfl, rfl⟩
theorem form_ok {b : List Nat} (h : formB b = true) (hc : chk (getL b) = true) : getE b = 0 ∧ (if okB b then getL b else []) = getL b := by unfold getE okB; rw [h, hc]; exact ⟨rfl, rfl⟩
end Go.Proofs.Cd
namespace Go.Proofs.Ythpodinbbmgfoaa
open Go.Proofs.Cd Go.Proofs.Nm Go.RowKit
theorem infoI3 : (Try.prog.info? 77).map (fun i => (i.zero, i.size, i.bytes)) = some (some (.agg #[.int .i64 0, .int .u64 0]), 2, 16) := by kernel_rfl
set_option maxRecDepth 100000 in
set_option maxHeartbeats 2000000 in
theorem RGet_any (v : Value) (l : List Nat) (w : World) (hrd : Rd w 1 v (cellsB l)) (hg : goodB l) : Calls Try.prog 61 #[v] w (GetR w l) := by
  have HRD := Lib.hid hrd
  obtain ⟨ao, n, cap, rfl, h1, h2, h3, h4, h5⟩ := hrd
  rw [cellsB_len, Nat.mul_one] at h1
  have HL := Lib.hid h1; clear h1
  have hm : n ≤ 9223372036854775807 := by unfold maxLen at h3; omega
  have HC := Lib.hid h5; clear h5
  have h2' : n ≤ cap := h2
  clear h2 h3 h4
  have HG := Lib.hid hg; clear hg
  by_cases hf : formB l = true
  · have hn : 9 ≤ n ∧ n ≤ 1152 ∧ n % 9 = 0 := by
      unfold formB at hf
      simp only [Bool.and_eq_true, decide_eq_true_eq] at hf
      have := HL.out; omega
    have HF := Lib.hid hf; clear hf
    obtain ⟨n1, n2, n3⟩ := hn
    have n1i : (9 : Int) ≤ n := by omega
    have n2i : (n : Int) ≤ 1152 := by omega
    have n3i : (n : Int) % 9 = 0 := by omega
    obtain ⟨b, o, rfl, hb, _⟩ := HC.out 0 (by rw [cellsB_len, HL.out]; omega)
    have hrd2 : ∀ k, k < n / 9 → Rd w 1 (.slice (some ⟨b, o + (9 * k + 1), none⟩) 8 (cap - (9 * k + 1))) (cellsB ((l.drop (9 * k + 1)).take 8)) := fun k hk => by
      have := rd_sub HRD.out (lo := 9 * k + 1) (hi := 9 * k + 9) (by omega) (by omega)
      rwa [show 9 * k + 9 - (9 * k + 1) = 8 from by omega] at this
    have HR2 := Lib.hid hrd2; clear hrd2
    go_enter Try.func61, Try.ntmps61
    go_wp2
    go_loopw [4, 5] (fun v i wr => ∃ k : Nat, k ≤ n / 9 ∧ Hid (9 * k ≤ n) ∧ (∃ j : Nat, Hid (j = 9 * k) ∧ i = .int .i64 j) ∧ OwnS w wr [] 77 2 v (cellsI (getN l k))) (fun _ i _ => n - (intOf i).toNat)
    case atStart => exact ⟨0, by omega, Lib.hid (by omega), ⟨0, Lib.hid rfl, rfl⟩, OwnS.nil (Vars.nil w)⟩
    case round =>
      obtain ⟨k, hk, hk9, ⟨j, hj, rfl⟩, ho⟩ := hrel
      rename_i wr
      by_cases hk2 : k < n / 9
      · have hjn : j + 9 ≤ n := by have := hj.out; omega
        have hki : (j : Int) < (n : Int) := by omega
        obtain ⟨b', o', e', _, hc⟩ := HC.out j (by rw [cellsB_len, HL.out]; omega)
        cases e'
        have D0 : Hid (w.cell? ⟨b, o + j, none⟩ = some (.int .u8 (l.getD j 0 : Nat))) := Lib.hid (by rw [hc]; unfold cellsB; rw [List.getElem?_map, List.getElem?_eq_getElem (by rw [HL.out]; omega)]; simp [List.getD, List.getElem?_eq_getElem (show j < l.length by rw [HL.out]; omega)])
        clear hc
        have kcell : ∀ w' : World, Below w.heap.size w w' → w'.cell? ⟨b, o + j, none⟩ = some (.int .u8 (l.getD j 0 : Nat)) := fun w' h => by rw [h.cell (p := ⟨b, o + j, none⟩) hb, D0.out]
        have c0 := kcell wr ho.below
        have KC := Lib.hid kcell; clear kcell
        have kF : ∀ w', Below w.heap.size w w' → Calls Try.prog 101 #[.slice (some ⟨b, o + (j + 1), none⟩) 8 (cap - (j + 1))] w' fun e w2 => e = .returned (.int .u64 (getI l k).2) ∧ w' = w2 := fun w' h => by
          have h1 := HR2.out k hk2
          rw [← hj.out] at h1
          have h3 : (getI l k).2 = fromB ((l.drop (j + 1)).take 8) := by unfold getI; rw [← hj.out]
          rw [h3]
          exact RFromLe_any _ _ w' (h1.below h) (goodB_sub HG.out _ _)
        have HS : Hid (getN l (k + 1) = getN l k ++ [getI l k]) := Lib.hid (getN_succ l k)
        have H1 : Hid ((getI l k).1 = (l.getD j 0 : Nat)) := Lib.hid (by unfold getI; rw [← hj.out])
        have hx8 : l.getD j 0 < 256 := goodB_at HG.out j
        have PL : Hid ((getN l k).length ≤ 128) := Lib.hid (by rw [getN_len]; omega)
        have LI : Hid ((cellsI (getN l k)).length = (getN l k).length * 2) := Lib.hid (len_cellsI _)
        generalize l.getD j 0 = x at *
        generalize hy2 : (getI l k).2 = y at *
        have HY := Lib.hid hy2; clear hy2
        have q0 : (0 : Int) ≤ (j : Int) := by omega
        have q1 : IntKind.i64.wrap ((j : Int) + 1) = (j : Int) + 1 := IntWalk.i64_in _ (by omega)
        have q2 : IntKind.i64.wrap ((j : Int) + 9) = (j : Int) + 9 := IntWalk.i64_in _ (by omega)
        have q3 : ((j : Int) + 1).toNat = j + 1 := by omega
        have q4 : ((j : Int) + 9).toNat = j + 9 := by omega
        have q5 : (0 : Int) ≤ (j : Int) + 1 := by omega
        have q6 : (j : Int) + 1 ≤ (j : Int) + 9 := by omega
        have q7 : (j : Int) + 9 ≤ (cap : Int) := by omega
        have q8 : j + 9 - (j + 1) = 8 := by omega
        have q9 : ¬ cap = j + 1 := by omega
        have q10 : IntKind.i64.wrap (x : Int) = (x : Int) := IntWalk.i64_in _ (by omega)
        have hB0 : Hid (∀ u ∈ (#[Value.int .i64 (x : Nat), Value.int .u64 (y : Nat)] : Array Value).toList, u.oneCell' = true) := Lib.hid (fun u hu => by
          simp only [List.mem_cons, List.not_mem_nil, or_false] at hu
          rcases hu with rfl | rfl <;> rfl)
        have hB1 : ((cellsI (getN l k)).length + 2) / 2 ≤ maxLen := by have h1 := PL.out; have h2 := LI.out; unfold maxLen; omega
        have hB2 : ((cellsI (getN l k)).length + 2) / 2 * 16 ≤ 140737488355328 := by have h1 := PL.out; have h2 := LI.out; omega
        have hB3 : 1 ≤ maxLen := by unfold maxLen; omega
        go_wp2_with fail
        go_region_held3 (fun w' => w'.cell? ⟨b, o + j, none⟩ = some (.int .u8 (x : Nat)))
          (first
            | go_keep
            | exact KC.out _ ho.below)
          (first
            | (go_at_call 101; (with_reducible refine (kF _ ho.below.drew).mono ?_); rintro e w1 ⟨rfl, rfl⟩)
            | (refine step_app (by rfl) (by rfl) (by rfl) ((ho.alloc _ _).drew) (.agg #[.int .i64 0, .int .u64 0]) 16 Try.underlying57 infoI3 rfl (by decide) (by rfl) (rd_alloc _ 2 1 _ _ rfl hB3).drew hB0.out hB1 hB2 ?_; clear ho; intro v2 w3 ho))
        clear q0 q1 q2 q3 q4 q5 q6 q7 q8 q9 q10
        go_wp2
        go_roundw
        case rel => exact ⟨k + 1, by omega, Lib.hid (by omega), ⟨j + 9, Lib.hid (by have := hj.out; omega), by go_num⟩, by rw [HS.out, cellsI_snoc, H1.out, HY.out]; simpa using ho⟩
        case measure => simp [intOf]; omega
      · have hjn : j = n := by have := hj.out; omega
        have hki : ¬ (j : Int) < (n : Int) := by omega
        have hkk : getN l k = getL l := by unfold getL; rw [HL.out, show n / 9 = k from by omega]
        rw [hkk] at ho
        have hgL : ∀ x ∈ getL l, goodI x := getN_good HG.out _
        have kC := RCheck_any _ (getL l) wr ho.rd hgL
        clear hgL hkk
        by_cases hck : Cd.chk (getL l) = true
        · obtain ⟨z1, z2⟩ := form_ok HF.out hck
          have Z1 := Lib.hid z1; clear z1
          have Z2 := Lib.hid z2; clear z2
          rw [hck] at kC
          clear hck
          go_wp2_with (go_at_call 69; (with_reducible refine kC.mono ?_); rintro e w1 ⟨rfl, hn1⟩; replace ho := ho.new hn1; clear hn1)
          go_ret2
          exact ⟨_, by rw [Z1.out]; rfl, by rw [Z2.out]; exact ho.rd, ho.below⟩
        · replace hck := b_false hck
          obtain ⟨z1, z2⟩ := form_bad HF.out hck
          have Z1 := Lib.hid z1; clear z1
          have Z2 := Lib.hid z2; clear z2
          rw [hck] at kC
          clear hck
          go_wp2_with (go_at_call 69; (with_reducible refine kC.mono ?_); rintro e w1 ⟨rfl, hn1⟩; replace ho := ho.new hn1; clear hn1)
          go_ret2
          exact ⟨_, by rw [Z1.out]; rfl, by rw [Z2.out]; exact Rd.nil _ _, ho.below⟩
  · replace hf := b_false hf
    obtain ⟨z1, z2⟩ := form_no hf
    have hn : n < 9 ∨ (9 ≤ n ∧ 1152 < n) ∨ (9 ≤ n ∧ n ≤ 1152 ∧ n % 9 ≠ 0) := by
      by_cases g1 : 9 ≤ n
      · by_cases g2 : n ≤ 1152
        · by_cases g3 : n % 9 = 0
          · unfold formB at hf
            rw [HL.out, decide_eq_true g1, decide_eq_true g2, decide_eq_true g3] at hf
            cases hf
          · omega
        · omega
      · omega
    have Z1 := Lib.hid z1; clear z1
    have Z2 := Lib.hid z2; clear z2
    clear hf
    rcases hn with hn | ⟨hn, hn2⟩ | ⟨hn, hn2, hn3⟩
    · have a1 : (n : Int) < 9 := by omega
      go_enter Try.func61, Try.ntmps61
      go_wp2
      go_ret2
      exact ⟨_, by rw [Z1.out]; rfl, by rw [Z2.out]; exact Rd.nil _ _, Below.refl _ _⟩
    · have a1 : (9 : Int) ≤ n := by omega
      have a2 : (1152 : Int) < n := by omega
      go_enter Try.func61, Try.ntmps61
      go_wp2
      go_ret2
      exact ⟨_, by rw [Z1.out]; rfl, by rw [Z2.out]; exact Rd.nil _ _, Below.refl _ _⟩
    · have a1 : (9 : Int) ≤ n := by omega
      have a2 : (n : Int) ≤ 1152 := by omega
      have a3 : ((n : Int) % 9 != 0) = true := by rw [bne_iff_ne]; omega
      go_enter Try.func61, Try.ntmps61
      go_wp2
      go_ret2
      exact ⟨_, by rw [Z1.out]; rfl, by rw [Z2.out]; exact Rd.nil _ _, Below.refl _ _⟩
end Go.Proofs.Ythpodinbbmgfoaa
