/-
  A deed's cells: the thread's seven, the pages' 144, and five more. No program in sight.
-/
import Derived.Test.YthpodinbbmgfoaaGreatMem
set_option linter.unusedVariables false
set_option linter.unusedSimpArgs false
namespace Go.Proofs.Ip
open Go Go.RowKit
def deed (T p X : Array Value) : Array Value := T ++ p ++ X
section
variable {T p X : Array Value}
theorem deed_size (hT : T.size = 7) (hp : p.size = 144) : (deed T p X).size = 151 + X.size := by unfold deed; simp [hT, hp]; omega
theorem deed_lo (hT : T.size = 7) {i : Nat} (hi : i < 7) : (deed T p X)[i]? = T[i]? := by
  unfold deed
  rw [Array.getElem?_append_left (by simp; omega), Array.getElem?_append_left (by omega)]
theorem deed_hi (hT : T.size = 7) (hp : p.size = 144) (i : Nat) : (deed T p X)[151 + i]? = X[i]? := by
  unfold deed
  rw [Array.getElem?_append_right (by simp; omega)]
  simp [hT, hp]
theorem deed_mid (hT : T.size = 7) (hp : p.size = 144) {i : Nat} (hi : i < 144) : (deed T p X)[7 + i]? = p[i]? := by
  unfold deed
  rw [Array.getElem?_append_left (by simp; omega), Array.getElem?_append_right (by omega), hT]
  simp
theorem deed_thread (hT : T.size = 7) : (deed T p X).extract 0 (0 + 7) = T := by
  apply Array.ext_getElem?
  intro i
  rw [Array.getElem?_extract]
  unfold deed
  simp only [Array.size_append]
  by_cases h : i < 7
  · rw [if_pos (by omega), Nat.zero_add, Array.getElem?_append_left (by simp; omega), Array.getElem?_append_left (by omega)]
  · rw [if_neg (by omega), Array.getElem?_eq_none (by omega)]
theorem deed_pages (hT : T.size = 7) (hp : p.size = 144) : (deed T p X).extract 7 (7 + 144) = p := by
  apply Array.ext_getElem?
  intro i
  rw [Array.getElem?_extract]
  have hs := deed_size (X := X) hT hp
  by_cases h : i < 144
  · rw [if_pos (by omega), deed_mid hT hp h]
  · rw [if_neg (by omega), Array.getElem?_eq_none (by omega)]
theorem deed_set_hi (hT : T.size = 7) (hp : p.size = 144) (i : Nat) (v : Value) : (deed T p X).setIfInBounds (151 + i) v = deed T p (X.setIfInBounds i v) := by
  unfold deed
  rw [Array.setIfInBounds_append_right (by simp; omega)]
  simp [hT, hp]
theorem deed_set_lo (hT : T.size = 7) {i : Nat} (hi : i < 7) (v : Value) : (deed T p X).setIfInBounds i v = deed (T.setIfInBounds i v) p X := by
  unfold deed
  rw [Array.setIfInBounds_append_left (by simp; omega), Array.setIfInBounds_append_left (by omega)]
theorem deed_put_thread (hT : T.size = 7) {T' : Array Value} (hT' : T'.size = 7) : splice (deed T p X) 0 T' = deed T' p X := by
  have hs : T'.size ≤ (deed T p X).size := by unfold deed; simp; omega
  apply Array.ext_getElem?
  intro i
  rw [get_splice _ _ _ (by omega), if_neg (by omega)]
  unfold deed
  by_cases h : i < 7
  · rw [if_pos (by omega), Nat.sub_zero, Array.getElem?_append_left (by simp; omega), Array.getElem?_append_left (by omega)]
  · rw [if_neg (by omega)]
    by_cases h2 : i < 7 + p.size
    · rw [Array.getElem?_append_left (by simp; omega), Array.getElem?_append_right (by omega), Array.getElem?_append_left (by simp; omega), Array.getElem?_append_right (by omega), hT, hT']
    · rw [Array.getElem?_append_right (by simp; omega), Array.getElem?_append_right (by simp; omega)]
      simp [hT, hT']
theorem deed_put_pages (hT : T.size = 7) (hp : p.size = 144) {q : Array Value} (hq : q.size = 144) : splice (deed T p X) 7 q = deed T q X := by
  have hs := deed_size (X := X) hT hp
  apply Array.ext_getElem?
  intro i
  rw [get_splice _ _ _ (by omega)]
  by_cases h : i < 7
  · rw [if_pos h, deed_lo hT h, deed_lo hT h]
  · rw [if_neg h]
    by_cases h2 : i < 7 + 144
    · obtain ⟨j, rfl⟩ : ∃ j, i = 7 + j := ⟨i - 7, by omega⟩
      rw [if_pos (by omega), deed_mid hT hq (by omega)]
      congr 1; omega
    · obtain ⟨j, rfl⟩ : ∃ j, i = 151 + j := ⟨i - 151, by omega⟩
      rw [if_neg (by omega), deed_hi hT hp, deed_hi hT hq]
end
end Go.Proofs.Ip
