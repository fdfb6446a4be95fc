/-
  What a deed leaves, whatever the instruction.
-/
import Derived.Test.YthpodinbbmgfoaaGreatIpLeft
set_option linter.unusedVariables false
set_option linter.unusedSimpArgs false
namespace Go.Proofs.Ip
open Go Go.RowKit Go.Proofs.Cd
def inN (op : Int) : Nat := (argsP op).1.toNat
theorem len_two {α : Type} : ∀ {l : List α}, l.length = 2 → ∃ x y, l = [x, y]
  | [x, y], _ => ⟨x, y, rfl⟩
  | [], h => by simp at h
  | [_], h => by simp at h
  | _ :: _ :: _ :: _, h => by simp at h
theorem slice1 {w : World} {v : Value} {l : List Nat} {n : Nat} (h : Rd w 1 v (cellsU l)) (hl : l.length = n) (hn : 0 < n) : ∃ b o c, v = .slice (some ⟨b, o, none⟩) n c := by
  obtain ⟨b, o, m, c, rfl, h1, _⟩ := h.some (by rw [cellsU_len]; omega)
  rw [cellsU_len, Nat.mul_one] at h1
  exact ⟨b, o, c, by rw [← h1, hl]⟩
end Go.Proofs.Ip
namespace Go.Proofs.YthpodinbbmgfoaaGreat
open Go.Proofs.Ip Go.Proofs.Pt Go.Proofs.Pg Go.Proofs.Cd Go.RowKit Go.Shelf
set_option maxHeartbeats 4000000 in
theorem left_any (st pc sk er : Int) (wk : Nat) (b : Nat → Bool) (q : Nat → Nat → Nat) (op : Int) (arg bD : Nat) (w0 w : World) (L : List (Nat × Array Value)) (R : List (Nat × Value × List Value)) (sv cv wv two one : Value) (S ws : List Nat) (R2 : List (Nat × Value × List Value)) (h0 : 0 ≤ op) (h37 : op ≤ 37) (hmv : isMove op = false) (ha : op = 5 → arg < 32) (hws : ws.length = inN op) (hu : ∀ x ∈ ws, x < 18446744073709551616)
    (hS : (1, sv, cellsU S) ∈ R) (hSl : S.length ≤ 1000) (hw : (1, wv, cellsU ws) ∈ R) (fns : Fns Tryz.prog op two one R2) (hR2 : ∀ z ∈ R2, z ∈ R) (hv : Mem w0 w ((bD, (deed #[.int .i64 st, .int .i64 pc, sv, cv, .int .u64 (wk : Nat), .int .i64 sk, .int .i64 er] (pg b q) #[.int .i64 op, .int .u64 (arg : Nat), wv, two, one])) :: L) R) :
    Calls Tryz.prog 30 #[.pointer (some ⟨bD, 0, none⟩)] w (LeftR w0 bD (deed #[.int .i64 st, .int .i64 pc, sv, cv, .int .u64 (wk : Nat), .int .i64 sk, .int .i64 er] (pg b (leftQ op ws b q)) #[.int .i64 op, .int .u64 (arg : Nat), wv, two, one]) L R (leftL op arg S ws b q) (leftE op arg S ws b)) := by
  have hop : op = 1 ∨ op = 2 ∨ op = 3 ∨ op = 4 ∨ op = 5 ∨ op = 6 ∨ op = 7 ∨ op = 8 ∨ op = 9 ∨ op = 10 ∨ op = 11 ∨ op = 12 ∨ op = 13 ∨ op = 14 ∨ op = 15 ∨ op = 16 ∨ op = 17 ∨ op = 18 ∨ op = 19 ∨ op = 21 ∨ op = 24 ∨ op = 25 ∨ op = 26 ∨ op = 27 ∨ op = 28 ∨ op = 29 ∨ op = 30 ∨ op = 31 ∨ op = 32 ∨ op = 33 ∨ op = 34 ∨ op = 35 ∨ op = 36 := by
    have hm : op ≠ 0 ∧ op ≠ 20 ∧ op ≠ 22 ∧ op ≠ 23 ∧ op ≠ 37 := by
      unfold isMove at hmv
      simp only [Bool.or_eq_false_iff, beq_eq_false_iff_ne] at hmv
      exact ⟨hmv.1.1.1.1, hmv.1.1.1.2, hmv.1.1.2, hmv.1.2, hmv.2⟩
    omega
  rcases hop with rfl | rfl | rfl | rfl | rfl | rfl | rfl | rfl | rfl | rfl | rfl | rfl | rfl | rfl | rfl | rfl | rfl | rfl | rfl | rfl | rfl | rfl | rfl | rfl | rfl | rfl | rfl | rfl | rfl | rfl | rfl | rfl | rfl
  · -- 1
    exact left_push st pc sk er wk b q arg bD w0 w L R sv cv wv two one hv
  · -- 2
    obtain ⟨x, rfl⟩ := List.length_eq_one_iff.1 (hws.trans (by decide : _ = 1))
    obtain ⟨wb, wo, wc, rfl⟩ := slice1 (hv.rd hw) (n := 1) rfl (by omega)
    have hx := hu x (by simp)
    exact left_pop st pc sk er wk b q arg bD w0 w L R sv cv _ two one hv
  · -- 3
    obtain ⟨x, rfl⟩ := List.length_eq_one_iff.1 (hws.trans (by decide : _ = 1))
    obtain ⟨wb, wo, wc, rfl⟩ := slice1 (hv.rd hw) (n := 1) rfl (by omega)
    have hx := hu x (by simp)
    exact left_dup st pc sk er wk b q arg bD w0 w L R sv cv two one x 0 wb wo wc hv hw
  · -- 4
    obtain ⟨x, y, rfl⟩ := len_two (hws.trans (by decide : _ = 2))
    obtain ⟨wb, wo, wc, rfl⟩ := slice1 (hv.rd hw) (n := 2) rfl (by omega)
    have hx := hu x (by simp)
    have hy := hu y (by simp)
    exact left_swap st pc sk er wk b q arg bD w0 w L R sv cv two one x y wb wo wc hv hw
  · -- 5
    have ha := ha rfl
    by_cases hlt : S.length ≤ arg
    · have e1 : leftL 5 arg S ws b q = [] := by unfold leftL; simp [hlt]
      have e2 : leftE 5 arg S ws b = 300 := by unfold leftE; simp [hlt]
      rw [e1, e2]
      obtain ⟨sa, n, sc, rfl, s1, _⟩ := id (hv.rd hS)
      rw [cellsU_len, Nat.mul_one] at s1
      exact left_over0 st pc sk er wk b q arg bD w0 w L R cv wv two one S sa n sc hv (by omega) ha (by omega)
    · have e1 : leftL 5 arg S ws b q = [S.getD (S.length - 1 - arg) 0] := by unfold leftL; simp [hlt]
      have e2 : leftE 5 arg S ws b = 0 := by unfold leftE; simp [hlt]
      rw [e1, e2]
      obtain ⟨sb, so, sc, rfl⟩ := slice1 (hv.rd hS) (n := S.length) rfl (by omega)
      exact left_over1 st pc sk er wk b q arg bD w0 w L R cv wv two one S sb so _ sc (S.length - 1 - arg) _ hv hS hSl rfl ha (by omega) (by rw [List.getElem?_eq_getElem (by omega)]; simp [List.getD, List.getElem?_eq_getElem (show S.length - 1 - arg < S.length by omega)])
  · -- 6
    obtain ⟨x, y, rfl⟩ := len_two (hws.trans (by decide : _ = 2))
    obtain ⟨wb, wo, wc, rfl⟩ := slice1 (hv.rd hw) (n := 2) rfl (by omega)
    have hx := hu x (by simp)
    have hy := hu y (by simp)
    obtain ⟨kf, cap, rfl, hE, hF⟩ := fns.f2 (by decide)
    have hone := fns.no (by decide)
    subst hone
    exact left_two st pc sk er wk b q arg bD w0 w L R sv cv cap kf x y wb wo wc 6 hv hw hE (fun w' hR => hF w' (fun z hz => hR z (hR2 z hz)) x y hx hy (fun h => by omega)) (by decide) (by decide) (by decide) (by decide) (by decide) (by decide) (by decide) (by decide) (by decide) (by decide)
  · -- 7
    obtain ⟨x, y, rfl⟩ := len_two (hws.trans (by decide : _ = 2))
    obtain ⟨wb, wo, wc, rfl⟩ := slice1 (hv.rd hw) (n := 2) rfl (by omega)
    have hx := hu x (by simp)
    have hy := hu y (by simp)
    obtain ⟨kf, cap, rfl, hE, hF⟩ := fns.f2 (by decide)
    have hone := fns.no (by decide)
    subst hone
    exact left_two st pc sk er wk b q arg bD w0 w L R sv cv cap kf x y wb wo wc 7 hv hw hE (fun w' hR => hF w' (fun z hz => hR z (hR2 z hz)) x y hx hy (fun h => by omega)) (by decide) (by decide) (by decide) (by decide) (by decide) (by decide) (by decide) (by decide) (by decide) (by decide)
  · -- 8
    obtain ⟨x, y, rfl⟩ := len_two (hws.trans (by decide : _ = 2))
    obtain ⟨wb, wo, wc, rfl⟩ := slice1 (hv.rd hw) (n := 2) rfl (by omega)
    have hx := hu x (by simp)
    have hy := hu y (by simp)
    obtain ⟨kf, cap, rfl, hE, hF⟩ := fns.f2 (by decide)
    have hone := fns.no (by decide)
    subst hone
    exact left_two st pc sk er wk b q arg bD w0 w L R sv cv cap kf x y wb wo wc 8 hv hw hE (fun w' hR => hF w' (fun z hz => hR z (hR2 z hz)) x y hx hy (fun h => by omega)) (by decide) (by decide) (by decide) (by decide) (by decide) (by decide) (by decide) (by decide) (by decide) (by decide)
  · -- 9
    obtain ⟨x, y, rfl⟩ := len_two (hws.trans (by decide : _ = 2))
    obtain ⟨wb, wo, wc, rfl⟩ := slice1 (hv.rd hw) (n := 2) rfl (by omega)
    have hx := hu x (by simp)
    have hy := hu y (by simp)
    by_cases h0 : y = 0
    · subst h0
      exact left_zero9 st pc sk er wk b q arg bD w0 w L R sv cv two one x wb wo wc hv hw
    · have e1 : leftL 9 arg S [x, y] b q = [twoF 9 x y] := by unfold leftL; simp [h0, isOne]
      have e2 : leftE 9 arg S [x, y] b = 0 := by unfold leftE; simp [h0]
      rw [e1, e2]
      obtain ⟨kf, cap, rfl, hE, hF⟩ := fns.f2 (by decide)
      have hone := fns.no (by decide)
      subst hone
      exact left_two9 st pc sk er wk b q arg bD w0 w L R sv cv cap kf x y wb wo wc hv hw hE (fun w' hR => hF w' (fun z hz => hR z (hR2 z hz)) x y hx hy (fun _ => h0)) h0
  · -- 10
    obtain ⟨x, y, rfl⟩ := len_two (hws.trans (by decide : _ = 2))
    obtain ⟨wb, wo, wc, rfl⟩ := slice1 (hv.rd hw) (n := 2) rfl (by omega)
    have hx := hu x (by simp)
    have hy := hu y (by simp)
    by_cases h0 : y = 0
    · subst h0
      exact left_zero10 st pc sk er wk b q arg bD w0 w L R sv cv two one x wb wo wc hv hw
    · have e1 : leftL 10 arg S [x, y] b q = [twoF 10 x y] := by unfold leftL; simp [h0, isOne]
      have e2 : leftE 10 arg S [x, y] b = 0 := by unfold leftE; simp [h0]
      rw [e1, e2]
      obtain ⟨kf, cap, rfl, hE, hF⟩ := fns.f2 (by decide)
      have hone := fns.no (by decide)
      subst hone
      exact left_two10 st pc sk er wk b q arg bD w0 w L R sv cv cap kf x y wb wo wc hv hw hE (fun w' hR => hF w' (fun z hz => hR z (hR2 z hz)) x y hx hy (fun _ => h0)) h0
  · -- 11
    obtain ⟨x, y, rfl⟩ := len_two (hws.trans (by decide : _ = 2))
    obtain ⟨wb, wo, wc, rfl⟩ := slice1 (hv.rd hw) (n := 2) rfl (by omega)
    have hx := hu x (by simp)
    have hy := hu y (by simp)
    obtain ⟨kf, cap, rfl, hE, hF⟩ := fns.f2 (by decide)
    have hone := fns.no (by decide)
    subst hone
    exact left_two st pc sk er wk b q arg bD w0 w L R sv cv cap kf x y wb wo wc 11 hv hw hE (fun w' hR => hF w' (fun z hz => hR z (hR2 z hz)) x y hx hy (fun h => by omega)) (by decide) (by decide) (by decide) (by decide) (by decide) (by decide) (by decide) (by decide) (by decide) (by decide)
  · -- 12
    obtain ⟨x, y, rfl⟩ := len_two (hws.trans (by decide : _ = 2))
    obtain ⟨wb, wo, wc, rfl⟩ := slice1 (hv.rd hw) (n := 2) rfl (by omega)
    have hx := hu x (by simp)
    have hy := hu y (by simp)
    obtain ⟨kf, cap, rfl, hE, hF⟩ := fns.f2 (by decide)
    have hone := fns.no (by decide)
    subst hone
    exact left_two st pc sk er wk b q arg bD w0 w L R sv cv cap kf x y wb wo wc 12 hv hw hE (fun w' hR => hF w' (fun z hz => hR z (hR2 z hz)) x y hx hy (fun h => by omega)) (by decide) (by decide) (by decide) (by decide) (by decide) (by decide) (by decide) (by decide) (by decide) (by decide)
  · -- 13
    obtain ⟨x, y, rfl⟩ := len_two (hws.trans (by decide : _ = 2))
    obtain ⟨wb, wo, wc, rfl⟩ := slice1 (hv.rd hw) (n := 2) rfl (by omega)
    have hx := hu x (by simp)
    have hy := hu y (by simp)
    obtain ⟨kf, cap, rfl, hE, hF⟩ := fns.f2 (by decide)
    have hone := fns.no (by decide)
    subst hone
    exact left_two st pc sk er wk b q arg bD w0 w L R sv cv cap kf x y wb wo wc 13 hv hw hE (fun w' hR => hF w' (fun z hz => hR z (hR2 z hz)) x y hx hy (fun h => by omega)) (by decide) (by decide) (by decide) (by decide) (by decide) (by decide) (by decide) (by decide) (by decide) (by decide)
  · -- 14
    obtain ⟨x, y, rfl⟩ := len_two (hws.trans (by decide : _ = 2))
    obtain ⟨wb, wo, wc, rfl⟩ := slice1 (hv.rd hw) (n := 2) rfl (by omega)
    have hx := hu x (by simp)
    have hy := hu y (by simp)
    obtain ⟨kf, cap, rfl, hE, hF⟩ := fns.f2 (by decide)
    have hone := fns.no (by decide)
    subst hone
    exact left_two st pc sk er wk b q arg bD w0 w L R sv cv cap kf x y wb wo wc 14 hv hw hE (fun w' hR => hF w' (fun z hz => hR z (hR2 z hz)) x y hx hy (fun h => by omega)) (by decide) (by decide) (by decide) (by decide) (by decide) (by decide) (by decide) (by decide) (by decide) (by decide)
  · -- 15
    obtain ⟨x, y, rfl⟩ := len_two (hws.trans (by decide : _ = 2))
    obtain ⟨wb, wo, wc, rfl⟩ := slice1 (hv.rd hw) (n := 2) rfl (by omega)
    have hx := hu x (by simp)
    have hy := hu y (by simp)
    obtain ⟨kf, cap, rfl, hE, hF⟩ := fns.f2 (by decide)
    have hone := fns.no (by decide)
    subst hone
    exact left_two st pc sk er wk b q arg bD w0 w L R sv cv cap kf x y wb wo wc 15 hv hw hE (fun w' hR => hF w' (fun z hz => hR z (hR2 z hz)) x y hx hy (fun h => by omega)) (by decide) (by decide) (by decide) (by decide) (by decide) (by decide) (by decide) (by decide) (by decide) (by decide)
  · -- 16
    obtain ⟨x, y, rfl⟩ := len_two (hws.trans (by decide : _ = 2))
    obtain ⟨wb, wo, wc, rfl⟩ := slice1 (hv.rd hw) (n := 2) rfl (by omega)
    have hx := hu x (by simp)
    have hy := hu y (by simp)
    obtain ⟨kf, cap, rfl, hE, hF⟩ := fns.f2 (by decide)
    have hone := fns.no (by decide)
    subst hone
    exact left_two st pc sk er wk b q arg bD w0 w L R sv cv cap kf x y wb wo wc 16 hv hw hE (fun w' hR => hF w' (fun z hz => hR z (hR2 z hz)) x y hx hy (fun h => by omega)) (by decide) (by decide) (by decide) (by decide) (by decide) (by decide) (by decide) (by decide) (by decide) (by decide)
  · -- 17
    obtain ⟨x, y, rfl⟩ := len_two (hws.trans (by decide : _ = 2))
    obtain ⟨wb, wo, wc, rfl⟩ := slice1 (hv.rd hw) (n := 2) rfl (by omega)
    have hx := hu x (by simp)
    have hy := hu y (by simp)
    obtain ⟨kf, cap, rfl, hE, hF⟩ := fns.f2 (by decide)
    have hone := fns.no (by decide)
    subst hone
    exact left_two st pc sk er wk b q arg bD w0 w L R sv cv cap kf x y wb wo wc 17 hv hw hE (fun w' hR => hF w' (fun z hz => hR z (hR2 z hz)) x y hx hy (fun h => by omega)) (by decide) (by decide) (by decide) (by decide) (by decide) (by decide) (by decide) (by decide) (by decide) (by decide)
  · -- 18
    obtain ⟨x, y, rfl⟩ := len_two (hws.trans (by decide : _ = 2))
    obtain ⟨wb, wo, wc, rfl⟩ := slice1 (hv.rd hw) (n := 2) rfl (by omega)
    have hx := hu x (by simp)
    have hy := hu y (by simp)
    obtain ⟨kf, cap, rfl, hE, hF⟩ := fns.f2 (by decide)
    have hone := fns.no (by decide)
    subst hone
    exact left_two st pc sk er wk b q arg bD w0 w L R sv cv cap kf x y wb wo wc 18 hv hw hE (fun w' hR => hF w' (fun z hz => hR z (hR2 z hz)) x y hx hy (fun h => by omega)) (by decide) (by decide) (by decide) (by decide) (by decide) (by decide) (by decide) (by decide) (by decide) (by decide)
  · -- 19
    obtain ⟨x, rfl⟩ := List.length_eq_one_iff.1 (hws.trans (by decide : _ = 1))
    obtain ⟨wb, wo, wc, rfl⟩ := slice1 (hv.rd hw) (n := 1) rfl (by omega)
    have hx := hu x (by simp)
    obtain ⟨kf, rfl, hE, hF⟩ := fns.f1 (by decide)
    exact left_one st pc sk er wk b q arg bD w0 w L R sv cv two kf x wb wo wc 19 hv hw hE (fun w' _ => by simpa using hF w' x hx) (by decide) (by decide) (by decide) (by decide) (by decide) (by decide) (by decide) (by decide) (by decide) (by decide)
  · -- 21
    obtain ⟨x, rfl⟩ := List.length_eq_one_iff.1 (hws.trans (by decide : _ = 1))
    obtain ⟨wb, wo, wc, rfl⟩ := slice1 (hv.rd hw) (n := 1) rfl (by omega)
    have hx := hu x (by simp)
    exact left_zero st pc sk er wk b q arg bD w0 w L R sv cv _ two one hv
  · -- 24
    obtain ⟨x, rfl⟩ := List.length_eq_one_iff.1 (hws.trans (by decide : _ = 1))
    obtain ⟨wb, wo, wc, rfl⟩ := slice1 (hv.rd hw) (n := 1) rfl (by omega)
    have hx := hu x (by simp)
    exact left_load st pc sk er wk b q arg bD w0 w L R sv cv two one x wb wo wc hv hw
  · -- 25
    obtain ⟨x, y, rfl⟩ := len_two (hws.trans (by decide : _ = 2))
    obtain ⟨wb, wo, wc, rfl⟩ := slice1 (hv.rd hw) (n := 2) rfl (by omega)
    have hx := hu x (by simp)
    have hy := hu y (by simp)
    exact left_store st pc sk er wk b q arg bD w0 w L R sv cv two one x y wb wo wc hv hw
  · -- 26
    obtain ⟨x, y, rfl⟩ := len_two (hws.trans (by decide : _ = 2))
    obtain ⟨wb, wo, wc, rfl⟩ := slice1 (hv.rd hw) (n := 2) rfl (by omega)
    have hx := hu x (by simp)
    have hy := hu y (by simp)
    obtain ⟨kf, cap, rfl, hE, hF⟩ := fns.f2 (by decide)
    have hone := fns.no (by decide)
    subst hone
    exact left_two st pc sk er wk b q arg bD w0 w L R sv cv cap kf x y wb wo wc 26 hv hw hE (fun w' hR => hF w' (fun z hz => hR z (hR2 z hz)) x y hx hy (fun h => by omega)) (by decide) (by decide) (by decide) (by decide) (by decide) (by decide) (by decide) (by decide) (by decide) (by decide)
  · -- 27
    obtain ⟨x, y, rfl⟩ := len_two (hws.trans (by decide : _ = 2))
    obtain ⟨wb, wo, wc, rfl⟩ := slice1 (hv.rd hw) (n := 2) rfl (by omega)
    have hx := hu x (by simp)
    have hy := hu y (by simp)
    obtain ⟨kf, cap, rfl, hE, hF⟩ := fns.f2 (by decide)
    have hone := fns.no (by decide)
    subst hone
    exact left_two st pc sk er wk b q arg bD w0 w L R sv cv cap kf x y wb wo wc 27 hv hw hE (fun w' hR => hF w' (fun z hz => hR z (hR2 z hz)) x y hx hy (fun h => by omega)) (by decide) (by decide) (by decide) (by decide) (by decide) (by decide) (by decide) (by decide) (by decide) (by decide)
  · -- 28
    obtain ⟨x, y, rfl⟩ := len_two (hws.trans (by decide : _ = 2))
    obtain ⟨wb, wo, wc, rfl⟩ := slice1 (hv.rd hw) (n := 2) rfl (by omega)
    have hx := hu x (by simp)
    have hy := hu y (by simp)
    obtain ⟨kf, cap, rfl, hE, hF⟩ := fns.f2 (by decide)
    have hone := fns.no (by decide)
    subst hone
    exact left_two st pc sk er wk b q arg bD w0 w L R sv cv cap kf x y wb wo wc 28 hv hw hE (fun w' hR => hF w' (fun z hz => hR z (hR2 z hz)) x y hx hy (fun h => by omega)) (by decide) (by decide) (by decide) (by decide) (by decide) (by decide) (by decide) (by decide) (by decide) (by decide)
  · -- 29
    obtain ⟨x, y, rfl⟩ := len_two (hws.trans (by decide : _ = 2))
    obtain ⟨wb, wo, wc, rfl⟩ := slice1 (hv.rd hw) (n := 2) rfl (by omega)
    have hx := hu x (by simp)
    have hy := hu y (by simp)
    obtain ⟨kf, cap, rfl, hE, hF⟩ := fns.f2 (by decide)
    have hone := fns.no (by decide)
    subst hone
    exact left_two st pc sk er wk b q arg bD w0 w L R sv cv cap kf x y wb wo wc 29 hv hw hE (fun w' hR => hF w' (fun z hz => hR z (hR2 z hz)) x y hx hy (fun h => by omega)) (by decide) (by decide) (by decide) (by decide) (by decide) (by decide) (by decide) (by decide) (by decide) (by decide)
  · -- 30
    obtain ⟨x, y, rfl⟩ := len_two (hws.trans (by decide : _ = 2))
    obtain ⟨wb, wo, wc, rfl⟩ := slice1 (hv.rd hw) (n := 2) rfl (by omega)
    have hx := hu x (by simp)
    have hy := hu y (by simp)
    obtain ⟨kf, cap, rfl, hE, hF⟩ := fns.f2 (by decide)
    have hone := fns.no (by decide)
    subst hone
    exact left_two st pc sk er wk b q arg bD w0 w L R sv cv cap kf x y wb wo wc 30 hv hw hE (fun w' hR => hF w' (fun z hz => hR z (hR2 z hz)) x y hx hy (fun h => by omega)) (by decide) (by decide) (by decide) (by decide) (by decide) (by decide) (by decide) (by decide) (by decide) (by decide)
  · -- 31
    obtain ⟨x, y, rfl⟩ := len_two (hws.trans (by decide : _ = 2))
    obtain ⟨wb, wo, wc, rfl⟩ := slice1 (hv.rd hw) (n := 2) rfl (by omega)
    have hx := hu x (by simp)
    have hy := hu y (by simp)
    obtain ⟨kf, cap, rfl, hE, hF⟩ := fns.f2 (by decide)
    have hone := fns.no (by decide)
    subst hone
    exact left_two st pc sk er wk b q arg bD w0 w L R sv cv cap kf x y wb wo wc 31 hv hw hE (fun w' hR => hF w' (fun z hz => hR z (hR2 z hz)) x y hx hy (fun h => by omega)) (by decide) (by decide) (by decide) (by decide) (by decide) (by decide) (by decide) (by decide) (by decide) (by decide)
  · -- 32
    obtain ⟨x, y, rfl⟩ := len_two (hws.trans (by decide : _ = 2))
    obtain ⟨wb, wo, wc, rfl⟩ := slice1 (hv.rd hw) (n := 2) rfl (by omega)
    have hx := hu x (by simp)
    have hy := hu y (by simp)
    obtain ⟨kf, cap, rfl, hE, hF⟩ := fns.f2 (by decide)
    have hone := fns.no (by decide)
    subst hone
    exact left_two st pc sk er wk b q arg bD w0 w L R sv cv cap kf x y wb wo wc 32 hv hw hE (fun w' hR => hF w' (fun z hz => hR z (hR2 z hz)) x y hx hy (fun h => by omega)) (by decide) (by decide) (by decide) (by decide) (by decide) (by decide) (by decide) (by decide) (by decide) (by decide)
  · -- 33
    obtain ⟨x, y, rfl⟩ := len_two (hws.trans (by decide : _ = 2))
    obtain ⟨wb, wo, wc, rfl⟩ := slice1 (hv.rd hw) (n := 2) rfl (by omega)
    have hx := hu x (by simp)
    have hy := hu y (by simp)
    obtain ⟨kf, cap, rfl, hE, hF⟩ := fns.f2 (by decide)
    have hone := fns.no (by decide)
    subst hone
    exact left_two st pc sk er wk b q arg bD w0 w L R sv cv cap kf x y wb wo wc 33 hv hw hE (fun w' hR => hF w' (fun z hz => hR z (hR2 z hz)) x y hx hy (fun h => by omega)) (by decide) (by decide) (by decide) (by decide) (by decide) (by decide) (by decide) (by decide) (by decide) (by decide)
  · -- 34
    obtain ⟨x, rfl⟩ := List.length_eq_one_iff.1 (hws.trans (by decide : _ = 1))
    obtain ⟨wb, wo, wc, rfl⟩ := slice1 (hv.rd hw) (n := 1) rfl (by omega)
    have hx := hu x (by simp)
    obtain ⟨kf, rfl, hE, hF⟩ := fns.f1 (by decide)
    exact left_one st pc sk er wk b q arg bD w0 w L R sv cv two kf x wb wo wc 34 hv hw hE (fun w' _ => by simpa using hF w' x hx) (by decide) (by decide) (by decide) (by decide) (by decide) (by decide) (by decide) (by decide) (by decide) (by decide)
  · -- 35
    obtain ⟨x, rfl⟩ := List.length_eq_one_iff.1 (hws.trans (by decide : _ = 1))
    obtain ⟨wb, wo, wc, rfl⟩ := slice1 (hv.rd hw) (n := 1) rfl (by omega)
    have hx := hu x (by simp)
    obtain ⟨kf, rfl, hE, hF⟩ := fns.f1 (by decide)
    exact left_one st pc sk er wk b q arg bD w0 w L R sv cv two kf x wb wo wc 35 hv hw hE (fun w' _ => by simpa using hF w' x hx) (by decide) (by decide) (by decide) (by decide) (by decide) (by decide) (by decide) (by decide) (by decide) (by decide)
  · -- 36
    obtain ⟨x, rfl⟩ := List.length_eq_one_iff.1 (hws.trans (by decide : _ = 1))
    obtain ⟨wb, wo, wc, rfl⟩ := slice1 (hv.rd hw) (n := 1) rfl (by omega)
    have hx := hu x (by simp)
    obtain ⟨kf, rfl, hE, hF⟩ := fns.f1 (by decide)
    exact left_one st pc sk er wk b q arg bD w0 w L R sv cv two kf x wb wo wc 36 hv hw hE (fun w' _ => by simpa using hF w' x hx) (by decide) (by decide) (by decide) (by decide) (by decide) (by decide) (by decide) (by decide) (by decide) (by decide)
end Go.Proofs.YthpodinbbmgfoaaGreat
