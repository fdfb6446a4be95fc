/-
  Plain words for pages: sixteen of eight words each, as the program lays them: 144 cells. No program in sight.
-/
import Derived.Test.YthpodinbbmgfoaaGreatKit
set_option linter.unusedVariables false
set_option linter.unusedSimpArgs false
namespace Go.Proofs.Pg
open Go

/-- The cell of a row of pages at place i. -/
def cellPg (b : Nat → Bool) (q : Nat → Nat → Nat) (i : Nat) : Value := if i % 9 = 0 then .bool (b (i / 9)) else .int .u64 (q (i / 9) (i % 9 - 1))
def pg (b : Nat → Bool) (q : Nat → Nat → Nat) : Array Value := ((List.range 144).map (cellPg b q)).toArray
/-- One page. -/
def pg1 (b : Bool) (q : Nat → Nat) : Array Value := #[.bool b, .int .u64 (q 0), .int .u64 (q 1), .int .u64 (q 2), .int .u64 (q 3), .int .u64 (q 4), .int .u64 (q 5), .int .u64 (q 6), .int .u64 (q 7)]
def upd {α : Type} (f : Nat → α) (n : Nat) (v : α) : Nat → α := fun i => if i = n then v else f i
def updw (q : Nat → Nat → Nat) (n k v : Nat) : Nat → Nat → Nat := fun i j => if i = n ∧ j = k then v else q i j
def noBusy : Nat → Bool := fun _ => false
def noWords : Nat → Nat → Nat := fun _ _ => 0
def zeros8 : Nat → Nat := fun _ => 0

theorem size_pg (b : Nat → Bool) (q : Nat → Nat → Nat) : (pg b q).size = 144 := by simp [pg]
theorem size_pg1 (b : Bool) (q : Nat → Nat) : (pg1 b q).size = 9 := rfl
theorem get_pg (b : Nat → Bool) (q : Nat → Nat → Nat) (i : Nat) : (pg b q)[i]? = if i < 144 then some (cellPg b q i) else none := by
  unfold pg
  by_cases h : i < 144
  · rw [if_pos h]; simp [h]
  · rw [if_neg h]; simp; omega
theorem get_pg1 (b : Bool) (q : Nat → Nat) (j : Nat) : (pg1 b q)[j]? = if j < 9 then some (if j = 0 then .bool b else .int .u64 (q (j - 1))) else none := by
  by_cases h : j < 9
  · rw [if_pos h]
    match j, h with
    | 0, _ => rfl
    | 1, _ => rfl
    | 2, _ => rfl
    | 3, _ => rfl
    | 4, _ => rfl
    | 5, _ => rfl
    | 6, _ => rfl
    | 7, _ => rfl
    | 8, _ => rfl
  · rw [if_neg h, Array.getElem?_eq_none]; rw [size_pg1]; omega
theorem pg_congr {b b' : Nat → Bool} {q q' : Nat → Nat → Nat} (h1 : ∀ i, i < 16 → b i = b' i) (h2 : ∀ i k, i < 16 → k < 8 → q i k = q' i k) : pg b q = pg b' q' := by
  apply Array.ext_getElem?
  intro i
  rw [get_pg, get_pg]
  split
  · unfold cellPg
    rw [h1 (i / 9) (by omega)]
    by_cases h : i % 9 = 0
    · simp [h]
    · rw [if_neg h, if_neg h, h2 (i / 9) (i % 9 - 1) (by omega) (by omega)]
  · rfl
theorem extract_pg (b : Nat → Bool) (q : Nat → Nat → Nat) {i : Nat} (h : i < 16) : (pg b q).extract (i * 9) (i * 9 + 9) = pg1 (b i) (q i) := by
  apply Array.ext_getElem?
  intro j
  rw [get_pg1, Array.getElem?_extract, size_pg]
  by_cases hj : j < 9
  · rw [if_pos (by omega), if_pos hj, get_pg, if_pos (by omega)]
    unfold cellPg
    by_cases h0 : j = 0
    · subst h0; simp
    · rw [if_neg (by omega), if_neg h0, show (i * 9 + j) / 9 = i from by omega, show (i * 9 + j) % 9 - 1 = j - 1 from by omega]
  · rw [if_neg (by omega), if_neg hj]
theorem splice_pg (b : Nat → Bool) (q : Nat → Nat → Nat) {i : Nat} (h : i < 16) (b' : Bool) (q' : Nat → Nat) : splice (pg b q) (i * 9) (pg1 b' q') = pg (upd b i b') (upd q i q') := by
  apply Array.ext_getElem?
  intro j
  rw [get_splice _ _ _ (by rw [size_pg, size_pg1]; omega), get_pg, get_pg, get_pg1, size_pg1]
  unfold cellPg upd
  by_cases hi : j / 9 = i
  · have a1 : ¬ j < i * 9 := by omega
    have a2 : j < i * 9 + 9 := by omega
    have a3 : j < 144 := by omega
    have a4 : j - i * 9 < 9 := by omega
    by_cases h3 : j % 9 = 0
    · have a5 : j - i * 9 = 0 := by omega
      simp [a2, a3, h3, hi, a5]; omega
    · have a5 : ¬ j - i * 9 = 0 := by omega
      have a6 : j - i * 9 - 1 = j % 9 - 1 := by omega
      rw [if_neg a1, if_pos a2, if_pos a4, if_neg a5, if_pos a3, if_neg h3, if_pos hi, a6]
  · rw [if_neg hi, if_neg hi]
    by_cases h1 : j < i * 9
    · rw [if_pos h1]
    · have h2 : ¬ j < i * 9 + 9 := by omega
      rw [if_neg h1, if_neg h2]
theorem set_pg (b : Nat → Bool) (q : Nat → Nat → Nat) {i k : Nat} (h : i < 16) (hk : k < 8) (v : Nat) : (pg b q).setIfInBounds (i * 9 + 1 + k) (.int .u64 v) = pg b (updw q i k v) := by
  apply Array.ext_getElem?
  intro j
  rw [Array.getElem?_setIfInBounds, get_pg, get_pg, size_pg]
  unfold cellPg updw
  by_cases h1 : i * 9 + 1 + k = j
  · rw [if_pos h1, if_pos (by omega), if_pos (by omega), if_neg (by omega), if_pos ⟨by omega, by omega⟩]
  · rw [if_neg h1]
    by_cases h2 : j < 144
    · rw [if_pos h2, if_pos h2]
      by_cases h3 : j % 9 = 0
      · rw [if_pos h3, if_pos h3]
      · rw [if_neg h3, if_neg h3, if_neg (by omega)]
    · rw [if_neg h2, if_neg h2]
theorem one_pg (b : Nat → Bool) (q : Nat → Nat → Nat) : (pg b q).all (·.oneCell') = true := by
  rw [Array.all_eq_true_iff_forall_mem]
  intro v hv
  obtain ⟨i, hi, rfl⟩ := Array.mem_iff_getElem.1 hv
  have := get_pg b q i
  rw [Array.getElem?_eq_getElem hi, if_pos (by rw [size_pg] at hi; exact hi)] at this
  rw [Option.some.inj this]
  unfold cellPg; split <;> rfl
theorem one_pg1 (b : Bool) (q : Nat → Nat) : (pg1 b q).all (·.oneCell') = true := by simp [pg1, Value.oneCell']
/-- The whole row by value. -/
theorem extract_all (c : Array Value) {n : Nat} (h : c.size = n) : c.extract 0 (0 + n) = c := by subst h; simp
theorem splice_all (c d : Array Value) (h : c.size = d.size) : splice c 0 d = d := by
  apply Array.ext_getElem?
  intro i
  rw [get_splice _ _ _ (by omega), if_neg (by omega)]
  by_cases h2 : i < 0 + d.size
  · rw [if_pos h2]; rfl
  · rw [if_neg h2, Array.getElem?_eq_none (by omega), Array.getElem?_eq_none (by omega)]

/-- The first page that is not taken, or 16. -/
def ffFrom (b : Nat → Bool) : Nat → Nat → Nat
  | 0, i => i
  | n + 1, i => if b i then ffFrom b n (i + 1) else i
def ff (b : Nat → Bool) : Nat := ffFrom b 16 0
theorem ffFrom_spec (b : Nat → Bool) : ∀ n i, i ≤ ffFrom b n i ∧ ffFrom b n i ≤ i + n ∧ (∀ j, i ≤ j → j < ffFrom b n i → b j = true) ∧ (ffFrom b n i < i + n → b (ffFrom b n i) = false)
  | 0, i => ⟨Nat.le_refl _, Nat.le_refl _, fun j h1 h2 => by simp [ffFrom] at h2; omega, fun h => by simp [ffFrom] at h⟩
  | n + 1, i => by
    obtain ⟨h1, h2, h3, h4⟩ := ffFrom_spec b n (i + 1)
    unfold ffFrom
    by_cases h : b i = true
    · rw [if_pos h]
      refine ⟨by omega, by omega, ?_, ?_⟩
      · intro j g1 g2
        by_cases e : j = i
        · subst e; exact h
        · exact h3 j (by omega) g2
      · intro g; exact h4 (by omega)
    · rw [if_neg h]
      exact ⟨Nat.le_refl _, by omega, fun j g1 g2 => by omega, fun _ => by simpa using h⟩
theorem ff_le (b : Nat → Bool) : ff b ≤ 16 := by have := (ffFrom_spec b 16 0).2.1; unfold ff; omega
theorem ff_before {b : Nat → Bool} {j : Nat} (h : j < ff b) : b j = true := (ffFrom_spec b 16 0).2.2.1 j (by omega) h
theorem ff_at {b : Nat → Bool} (h : ff b < 16) : b (ff b) = false := (ffFrom_spec b 16 0).2.2.2 (by unfold ff at h; omega)
theorem ff_eq {b : Nat → Bool} {k : Nat} (h1 : k < 16) (h2 : b k = false) (h3 : ∀ j, j < k → b j = true) : ff b = k := by
  rcases Nat.lt_trichotomy (ff b) k with h | h | h
  · have := h3 _ h; rw [ff_at (b := b) (by omega)] at this; cases this
  · exact h
  · have := ff_before h; rw [h2] at this; cases this
theorem ff_none {b : Nat → Bool} (h3 : ∀ j, j < 16 → b j = true) : ff b = 16 := by
  have := ff_le b
  rcases Nat.lt_or_ge (ff b) 16 with h | h
  · have := h3 _ h; rw [ff_at h] at this; cases this
  · omega
def takeB (b : Nat → Bool) : Nat → Bool := if ff b = 16 then b else upd b (ff b) true
def takeQ (b : Nat → Bool) (q : Nat → Nat → Nat) : Nat → Nat → Nat := if ff b = 16 then q else upd q (ff b) zeros8
def takeN (b : Nat → Bool) : Int := if ff b = 16 then 0 else (ff b : Int)
def takeE (b : Nat → Bool) : Int := if ff b = 16 then 4 else 0
def freeOk (b : Nat → Bool) (n : Int) : Bool := decide (0 ≤ n) && decide (n < 16) && b n.toNat
def freeB (b : Nat → Bool) (n : Int) : Nat → Bool := if freeOk b n then upd b n.toNat false else b
def freeQ (b : Nat → Bool) (q : Nat → Nat → Nat) (n : Int) : Nat → Nat → Nat := if freeOk b n then upd q n.toNat zeros8 else q
def freeE (b : Nat → Bool) (n : Int) : Int := if n < 0 ∨ 16 ≤ n then 2 else if b n.toNat then 0 else 150
def okAt (b : Nat → Bool) (x : Nat) : Bool := decide (x < 128) && b (x / 8)
def loadV (b : Nat → Bool) (q : Nat → Nat → Nat) (x : Nat) : Nat := if okAt b x then q (x / 8) (x % 8) else 0
def loadE (b : Nat → Bool) (x : Nat) : Int := if okAt b x then 0 else 150
def storeQ (b : Nat → Bool) (q : Nat → Nat → Nat) (x v : Nat) : Nat → Nat → Nat := if okAt b x then updw q (x / 8) (x % 8) v else q
/-- How many of the first k are taken. -/
def cntTo (b : Nat → Bool) : Nat → Nat
  | 0 => 0
  | k + 1 => cntTo b k + (if b k then 1 else 0)
def cnt (b : Nat → Bool) : Nat := cntTo b 16
theorem cntTo_le (b : Nat → Bool) : ∀ k, cntTo b k ≤ k
  | 0 => Nat.le_refl _
  | k + 1 => by have := cntTo_le b k; unfold cntTo; split <;> omega
/-- Is a page's row of words all noughts? -/
def zero8 (q : Nat → Nat) : Bool := (List.range 8).all fun k => q k == 0
def bad1 (b : Nat → Bool) (q : Nat → Nat → Nat) (i : Nat) : Bool := !b i && !zero8 (q i)
/-- The first page that is left with a word, or 16. -/
def fb (b : Nat → Bool) (q : Nat → Nat → Nat) : Nat := ff fun i => !bad1 b q i
def chk (b : Nat → Bool) (q : Nat → Nat → Nat) : Bool := fb b q == 16
theorem chk_true {b : Nat → Bool} {q : Nat → Nat → Nat} (h : ∀ j, j < 16 → bad1 b q j = false) : chk b q = true := by
  unfold chk fb
  rw [ff_none fun j hj => by rw [h j hj]; rfl]; rfl
theorem chk_false {b : Nat → Bool} {q : Nat → Nat → Nat} {k : Nat} (hk : k < 16) (h : bad1 b q k = true) : chk b q = false := by
  unfold chk fb
  have hle := ff_le fun i => !bad1 b q i
  rcases Nat.lt_or_ge k (ff fun i => !bad1 b q i) with g | g
  · have e := ff_before (b := fun i => !bad1 b q i) g
    simp only [h] at e; cases e
  · rw [beq_eq_false_iff_ne]; omega
theorem chk_iff (b : Nat → Bool) (q : Nat → Nat → Nat) : chk b q = true ↔ ∀ j, j < 16 → bad1 b q j = false := by
  constructor
  · intro h j hj
    by_cases hb : bad1 b q j = true
    · rw [chk_false hj hb] at h; cases h
    · simpa using hb
  · exact chk_true
theorem zero8_iff (q : Nat → Nat) : zero8 q = true ↔ ∀ k, k < 8 → q k = 0 := by
  unfold zero8; simp
theorem zero8_not {q : Nat → Nat} {k : Nat} (hk : k < 8) (h : q k ≠ 0) : zero8 q = false := by
  by_cases hz : zero8 q = true
  · exact absurd ((zero8_iff q).1 hz k hk) h
  · simpa using hz
theorem bad1_none {b : Nat → Bool} {q : Nat → Nat → Nat} {k : Nat} (h : ∀ l, l < 8 → b k = true ∨ q k l = 0) : bad1 b q k = false := by
  unfold bad1
  by_cases hb : b k = true
  · rw [hb]; rfl
  · have : zero8 (q k) = true := (zero8_iff _).2 fun l hl => (h l hl).resolve_left hb
    rw [this]; simp
theorem get_busy (b : Nat → Bool) (q : Nat → Nat → Nat) {i : Nat} (h : i < 16) : (pg b q)[i * 9]? = some (.bool (b i)) := by
  rw [get_pg, if_pos (by omega)]; unfold cellPg; rw [if_pos (by omega), show i * 9 / 9 = i from by omega]
theorem get_word (b : Nat → Bool) (q : Nat → Nat → Nat) {i k : Nat} (h : i < 16) (hk : k < 8) : (pg b q)[i * 9 + 1 + k]? = some (.int .u64 (q i k)) := by
  rw [get_pg, if_pos (by omega)]; unfold cellPg; rw [if_neg (by omega), show (i * 9 + 1 + k) / 9 = i from by omega, show (i * 9 + 1 + k) % 9 - 1 = k from by omega]
def ffi (b : Nat → Bool) : Int := if ff b = 16 then -1 else (ff b : Int)
end Go.Proofs.Pg
