/-
  The walk of the law CodeTells.
-/
import Derived.Test.YthpodinbbmgfoaaCdHead
set_option linter.unusedVariables false
namespace Go.Proofs.Cd
open Go Go.RowKit Go.Proofs.Nm
theorem good_put (l : List Inst) : goodB (if chk l then putB l else []) := by
  split
  · exact putB_good l
  · exact fun x hx => (List.not_mem_nil hx).elim
theorem good_get {b : List Nat} (h : goodB b) : ∀ x ∈ (if okB b then getL b else []), goodI x := by
  split
  · exact getN_good h _
  · exact fun x hx => (List.not_mem_nil hx).elim
end Go.Proofs.Cd
namespace Go.Proofs.Ythpodinbbmgfoaa
open Go.Proofs.Cd Go.Proofs.Nm Go.RowKit
set_option maxRecDepth 100000 in
set_option maxHeartbeats 8000000 in
theorem CodeTells_any (u v : Value) (l : List Inst) (b : List Nat) (x : Int) (w : World) (hrd : Rd w 2 u (cellsI l)) (hg : ∀ x ∈ l, goodI x) (hrb : Rd w 1 v (cellsB b)) (hb : goodB b) :
    Calls Try.prog 11 #[u, v, .int .i64 x] w fun e w' => e = .returned (.bool true) ∧ New w w' := by
  have hS := ((Rds.start w).add hrb).add hrd
  obtain ⟨ao, n, cap, rfl, h1, h2, h3, _, _⟩ := hrd
  obtain ⟨bo, m, cap2, rfl, k1, k2, k3, _, _⟩ := hrb
  rw [len_cellsI] at h1
  rw [cellsB_len, Nat.mul_one] at k1
  have HL : Hid (l.length = n) := Lib.hid (by omega)
  have HM : Hid (b.length = m) := Lib.hid k1
  have hn : n ≤ 9223372036854775807 := by unfold maxLen at h3; omega
  have hm : m ≤ 9223372036854775807 := by unfold maxLen at k3; omega
  clear h1 h2 h3 k1 k2 k3
  obtain ⟨eP, hEP⟩ : ∃ y : Int, (if chk l then (0 : Int) else 290) = y := ⟨_, rfl⟩
  obtain ⟨bP, hBP⟩ : ∃ y, (if chk l then putB l else []) = y := ⟨_, rfl⟩
  obtain ⟨eG, hEG⟩ : ∃ y, getE b = y := ⟨_, rfl⟩
  obtain ⟨gG, hGG⟩ : ∃ y, (if okB b then getL b else []) = y := ⟨_, rfl⟩
  obtain ⟨a1, hA1⟩ : ∃ y, (argsP x).1 = y := ⟨_, rfl⟩
  obtain ⟨a2, hA2⟩ : ∃ y, (argsP x).2 = y := ⟨_, rfl⟩
  obtain ⟨f1, hF1⟩ : ∃ y, fitsN x = y := ⟨_, rfl⟩
  obtain ⟨f2, hF2⟩ : ∃ y, fitsB x = y := ⟨_, rfl⟩
  obtain ⟨cB, hCB⟩ : ∃ y, chk l = y := ⟨_, rfl⟩
  have hbP : goodB bP := by rw [← hBP]; exact good_put l
  have hgG : ∀ x ∈ gG, goodI x := by rw [← hGG]; exact good_get hb
  have kP : ∀ w', Rd w' 2 (.slice ao n cap) (cellsI l) → Calls Try.prog 58 #[.slice ao n cap] w' fun e w2 => ∃ v, e = .returned (.tuple #[v, .int .i64 eP]) ∧ Rd w2 1 v (cellsB bP) ∧ New w' w2 := fun w' h => by
    have := Put_any _ l w' h hg
    unfold PutR at this
    rwa [hEP, hBP] at this
  have kP2 : ∀ w', Rd w' 2 (.slice ao n cap) (cellsI l) → Calls Try.prog 59 #[.slice ao n cap] w' fun e w2 => ∃ v, e = .returned (.tuple #[v, .int .i64 eP]) ∧ Rd w2 1 v (cellsB bP) ∧ New w' w2 := fun w' h => by
    have := RPut_any _ l w' h hg
    unfold PutR at this
    rwa [hEP, hBP] at this
  have kG : ∀ w', Rd w' 1 (.slice bo m cap2) (cellsB b) → Calls Try.prog 60 #[.slice bo m cap2] w' fun e w2 => ∃ v, e = .returned (.tuple #[v, .int .i64 eG]) ∧ Rd w2 2 v (cellsI gG) ∧ New w' w2 := fun w' h => by
    have := Get_any _ b w' h hb
    unfold GetR at this
    rwa [hEG, hGG] at this
  have kG2 : ∀ w', Rd w' 1 (.slice bo m cap2) (cellsB b) → Calls Try.prog 61 #[.slice bo m cap2] w' fun e w2 => ∃ v, e = .returned (.tuple #[v, .int .i64 eG]) ∧ Rd w2 2 v (cellsI gG) ∧ New w' w2 := fun w' h => by
    have := RGet_any _ b w' h hb
    unfold GetR at this
    rwa [hEG, hGG] at this
  have kA : ∀ w', Calls Try.prog 62 #[.int .i64 x] w' fun e w2 => e = .returned (.tuple #[.int .i64 a1, .int .i64 a2]) ∧ New w' w2 := fun w' => by
    have := Args_any x w'
    rwa [hA1, hA2] at this
  have kA2 : ∀ w', Calls Try.prog 63 #[.int .i64 x] w' fun e w2 => e = .returned (.tuple #[.int .i64 a1, .int .i64 a2]) ∧ New w' w2 := fun w' => by
    have := RArgs_any x w'
    rwa [hA1, hA2] at this
  have kF : ∀ w', Calls Try.prog 64 #[.int .i64 x] w' fun e w2 => e = .returned (.tuple #[.int .i64 f1, .bool f2]) ∧ New w' w2 := fun w' => by
    have := Fits_any x w'
    rwa [hF1, hF2] at this
  have kF2 : ∀ w', Calls Try.prog 65 #[.int .i64 x] w' fun e w2 => e = .returned (.tuple #[.int .i64 f1, .bool f2]) ∧ New w' w2 := fun w' => by
    have := RFits_any x w'
    rwa [hF1, hF2] at this
  have kC : ∀ w', Rd w' 2 (.slice ao n cap) (cellsI l) → Calls Try.prog 68 #[.slice ao n cap] w' fun e w2 => e = .returned (.bool cB) ∧ New w' w2 := fun w' h => by
    have := Check_any _ l w' h hg
    rwa [hCB] at this
  have kC2 : ∀ w', Rd w' 2 (.slice ao n cap) (cellsI l) → Calls Try.prog 69 #[.slice ao n cap] w' fun e w2 => e = .returned (.bool cB) ∧ New w' w2 := fun w' h => by
    have := RCheck_any _ l w' h hg
    rwa [hCB] at this
  have kB : ∀ u v w', Rd w' 1 u (cellsB bP) → Rd w' 1 v (cellsB bP) → Calls Try.prog 66 #[u, v] w' fun e w2 => e = .returned (.bool true) ∧ New w' w2 := fun u v w' h1 h2 => by
    have := Bytes_any u v bP bP w' h1 h2 hbP hbP
    rw [decide_eq_true rfl] at this
    exact this.mono fun e w2 ⟨q1, q2⟩ => ⟨q1, by rw [← q2]; exact Below.refl _ _⟩
  have kS : ∀ u v w', Rd w' 2 u (cellsI gG) → Rd w' 2 v (cellsI gG) → Calls Try.prog 67 #[u, v] w' fun e w2 => e = .returned (.bool true) ∧ New w' w2 := fun u v w' h1 h2 => by
    have := Same_any u v gG gG w' h1 h2 hgG hgG
    rwa [decide_eq_true rfl] at this
  clear hEP hBP hEG hGG hA1 hA2 hF1 hF2 hCB hbP hgG hg hb HL HM
  by_cases g1 : 200 < n
  · have g1i : (200 : Int) < n := by omega
    go_enter Try.func11, Try.ntmps11
    go_wp2_with (first
      | (go_at_call 57; (with_reducible refine (heads_any _).mono ?_); rintro e w1 ⟨rfl, hn1⟩; replace hS := hS.new hn1; clear hn1))
    go_ret
    exact ⟨rfl, hS.nw⟩
  · have g1i : ¬ (200 : Int) < n := by omega
    by_cases g2 : 2000 < m
    · have g2i : (2000 : Int) < m := by omega
      go_enter Try.func11, Try.ntmps11
      go_wp2_with (first
        | (go_at_call 57; (with_reducible refine (heads_any _).mono ?_); rintro e w1 ⟨rfl, hn1⟩; replace hS := hS.new hn1; clear hn1))
      go_ret
      exact ⟨rfl, hS.nw⟩
    · have g2i : ¬ (2000 : Int) < m := by omega
      go_enter Try.func11, Try.ntmps11
      go_wp2_with (first
        | (go_at_call 58; (with_reducible refine (kP _ (hS.rd (by first | exact Rds.z | exact Rds.s (Rds.z) | exact Rds.s (Rds.s (Rds.z)) | exact Rds.s (Rds.s (Rds.s (Rds.z))) | exact Rds.s (Rds.s (Rds.s (Rds.s (Rds.z)))) | exact Rds.s (Rds.s (Rds.s (Rds.s (Rds.s (Rds.z))))) | exact Rds.s (Rds.s (Rds.s (Rds.s (Rds.s (Rds.s (Rds.z)))))) | exact Rds.s (Rds.s (Rds.s (Rds.s (Rds.s (Rds.s (Rds.s (Rds.z))))))) | exact Rds.s (Rds.s (Rds.s (Rds.s (Rds.s (Rds.s (Rds.s (Rds.s (Rds.z))))))))))).mono ?_); rintro e w1 ⟨v1, rfl, hr1, hn1⟩; replace hS := (hS.new hn1).add hr1; clear hn1 hr1)
        | (go_at_call 59; (with_reducible refine (kP2 _ (hS.rd (by first | exact Rds.z | exact Rds.s (Rds.z) | exact Rds.s (Rds.s (Rds.z)) | exact Rds.s (Rds.s (Rds.s (Rds.z))) | exact Rds.s (Rds.s (Rds.s (Rds.s (Rds.z)))) | exact Rds.s (Rds.s (Rds.s (Rds.s (Rds.s (Rds.z))))) | exact Rds.s (Rds.s (Rds.s (Rds.s (Rds.s (Rds.s (Rds.z)))))) | exact Rds.s (Rds.s (Rds.s (Rds.s (Rds.s (Rds.s (Rds.s (Rds.z))))))) | exact Rds.s (Rds.s (Rds.s (Rds.s (Rds.s (Rds.s (Rds.s (Rds.s (Rds.z))))))))))).mono ?_); rintro e w1 ⟨v1, rfl, hr1, hn1⟩; replace hS := (hS.new hn1).add hr1; clear hn1 hr1)
        | (go_at_call 60; (with_reducible refine (kG _ (hS.rd (by first | exact Rds.z | exact Rds.s (Rds.z) | exact Rds.s (Rds.s (Rds.z)) | exact Rds.s (Rds.s (Rds.s (Rds.z))) | exact Rds.s (Rds.s (Rds.s (Rds.s (Rds.z)))) | exact Rds.s (Rds.s (Rds.s (Rds.s (Rds.s (Rds.z))))) | exact Rds.s (Rds.s (Rds.s (Rds.s (Rds.s (Rds.s (Rds.z)))))) | exact Rds.s (Rds.s (Rds.s (Rds.s (Rds.s (Rds.s (Rds.s (Rds.z))))))) | exact Rds.s (Rds.s (Rds.s (Rds.s (Rds.s (Rds.s (Rds.s (Rds.s (Rds.z))))))))))).mono ?_); rintro e w1 ⟨v1, rfl, hr1, hn1⟩; replace hS := (hS.new hn1).add hr1; clear hn1 hr1)
        | (go_at_call 61; (with_reducible refine (kG2 _ (hS.rd (by first | exact Rds.z | exact Rds.s (Rds.z) | exact Rds.s (Rds.s (Rds.z)) | exact Rds.s (Rds.s (Rds.s (Rds.z))) | exact Rds.s (Rds.s (Rds.s (Rds.s (Rds.z)))) | exact Rds.s (Rds.s (Rds.s (Rds.s (Rds.s (Rds.z))))) | exact Rds.s (Rds.s (Rds.s (Rds.s (Rds.s (Rds.s (Rds.z)))))) | exact Rds.s (Rds.s (Rds.s (Rds.s (Rds.s (Rds.s (Rds.s (Rds.z))))))) | exact Rds.s (Rds.s (Rds.s (Rds.s (Rds.s (Rds.s (Rds.s (Rds.s (Rds.z))))))))))).mono ?_); rintro e w1 ⟨v1, rfl, hr1, hn1⟩; replace hS := (hS.new hn1).add hr1; clear hn1 hr1)
        | (go_at_call 62; (with_reducible refine (kA _).mono ?_); rintro e w1 ⟨rfl, hn1⟩; replace hS := hS.new hn1; clear hn1)
        | (go_at_call 63; (with_reducible refine (kA2 _).mono ?_); rintro e w1 ⟨rfl, hn1⟩; replace hS := hS.new hn1; clear hn1)
        | (go_at_call 64; (with_reducible refine (kF _).mono ?_); rintro e w1 ⟨rfl, hn1⟩; replace hS := hS.new hn1; clear hn1)
        | (go_at_call 65; (with_reducible refine (kF2 _).mono ?_); rintro e w1 ⟨rfl, hn1⟩; replace hS := hS.new hn1; clear hn1)
        | (go_at_call 66; (with_reducible refine (kB _ _ _ (hS.rd (by first | exact Rds.z | exact Rds.s (Rds.z) | exact Rds.s (Rds.s (Rds.z)) | exact Rds.s (Rds.s (Rds.s (Rds.z))) | exact Rds.s (Rds.s (Rds.s (Rds.s (Rds.z)))) | exact Rds.s (Rds.s (Rds.s (Rds.s (Rds.s (Rds.z))))) | exact Rds.s (Rds.s (Rds.s (Rds.s (Rds.s (Rds.s (Rds.z)))))) | exact Rds.s (Rds.s (Rds.s (Rds.s (Rds.s (Rds.s (Rds.s (Rds.z))))))) | exact Rds.s (Rds.s (Rds.s (Rds.s (Rds.s (Rds.s (Rds.s (Rds.s (Rds.z)))))))))) (hS.rd (by first | exact Rds.z | exact Rds.s (Rds.z) | exact Rds.s (Rds.s (Rds.z)) | exact Rds.s (Rds.s (Rds.s (Rds.z))) | exact Rds.s (Rds.s (Rds.s (Rds.s (Rds.z)))) | exact Rds.s (Rds.s (Rds.s (Rds.s (Rds.s (Rds.z))))) | exact Rds.s (Rds.s (Rds.s (Rds.s (Rds.s (Rds.s (Rds.z)))))) | exact Rds.s (Rds.s (Rds.s (Rds.s (Rds.s (Rds.s (Rds.s (Rds.z))))))) | exact Rds.s (Rds.s (Rds.s (Rds.s (Rds.s (Rds.s (Rds.s (Rds.s (Rds.z))))))))))).mono ?_); rintro e w1 ⟨rfl, hn1⟩; replace hS := hS.new hn1; clear hn1)
        | (go_at_call 67; (with_reducible refine (kS _ _ _ (hS.rd (by first | exact Rds.z | exact Rds.s (Rds.z) | exact Rds.s (Rds.s (Rds.z)) | exact Rds.s (Rds.s (Rds.s (Rds.z))) | exact Rds.s (Rds.s (Rds.s (Rds.s (Rds.z)))) | exact Rds.s (Rds.s (Rds.s (Rds.s (Rds.s (Rds.z))))) | exact Rds.s (Rds.s (Rds.s (Rds.s (Rds.s (Rds.s (Rds.z)))))) | exact Rds.s (Rds.s (Rds.s (Rds.s (Rds.s (Rds.s (Rds.s (Rds.z))))))) | exact Rds.s (Rds.s (Rds.s (Rds.s (Rds.s (Rds.s (Rds.s (Rds.s (Rds.z)))))))))) (hS.rd (by first | exact Rds.z | exact Rds.s (Rds.z) | exact Rds.s (Rds.s (Rds.z)) | exact Rds.s (Rds.s (Rds.s (Rds.z))) | exact Rds.s (Rds.s (Rds.s (Rds.s (Rds.z)))) | exact Rds.s (Rds.s (Rds.s (Rds.s (Rds.s (Rds.z))))) | exact Rds.s (Rds.s (Rds.s (Rds.s (Rds.s (Rds.s (Rds.z)))))) | exact Rds.s (Rds.s (Rds.s (Rds.s (Rds.s (Rds.s (Rds.s (Rds.z))))))) | exact Rds.s (Rds.s (Rds.s (Rds.s (Rds.s (Rds.s (Rds.s (Rds.s (Rds.z))))))))))).mono ?_); rintro e w1 ⟨rfl, hn1⟩; replace hS := hS.new hn1; clear hn1)
        | (go_at_call 68; (with_reducible refine (kC _ (hS.rd (by first | exact Rds.z | exact Rds.s (Rds.z) | exact Rds.s (Rds.s (Rds.z)) | exact Rds.s (Rds.s (Rds.s (Rds.z))) | exact Rds.s (Rds.s (Rds.s (Rds.s (Rds.z)))) | exact Rds.s (Rds.s (Rds.s (Rds.s (Rds.s (Rds.z))))) | exact Rds.s (Rds.s (Rds.s (Rds.s (Rds.s (Rds.s (Rds.z)))))) | exact Rds.s (Rds.s (Rds.s (Rds.s (Rds.s (Rds.s (Rds.s (Rds.z))))))) | exact Rds.s (Rds.s (Rds.s (Rds.s (Rds.s (Rds.s (Rds.s (Rds.s (Rds.z))))))))))).mono ?_); rintro e w1 ⟨rfl, hn1⟩; replace hS := hS.new hn1; clear hn1)
        | (go_at_call 69; (with_reducible refine (kC2 _ (hS.rd (by first | exact Rds.z | exact Rds.s (Rds.z) | exact Rds.s (Rds.s (Rds.z)) | exact Rds.s (Rds.s (Rds.s (Rds.z))) | exact Rds.s (Rds.s (Rds.s (Rds.s (Rds.z)))) | exact Rds.s (Rds.s (Rds.s (Rds.s (Rds.s (Rds.z))))) | exact Rds.s (Rds.s (Rds.s (Rds.s (Rds.s (Rds.s (Rds.z)))))) | exact Rds.s (Rds.s (Rds.s (Rds.s (Rds.s (Rds.s (Rds.s (Rds.z))))))) | exact Rds.s (Rds.s (Rds.s (Rds.s (Rds.s (Rds.s (Rds.s (Rds.s (Rds.z))))))))))).mono ?_); rintro e w1 ⟨rfl, hn1⟩; replace hS := hS.new hn1; clear hn1)
        | (go_at_call 57; (with_reducible refine (heads_any _).mono ?_); rintro e w1 ⟨rfl, hn1⟩; replace hS := hS.new hn1; clear hn1))
      go_ret
      exact ⟨rfl, hS.nw⟩
end Go.Proofs.Ythpodinbbmgfoaa
