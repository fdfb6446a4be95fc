/-
  What a stream becomes as a part comes. No program in sight.
-/
import Derived.Test.YtpbeemgigpaacaaWiPlain2
set_option linter.unusedVariables false
set_option linter.unusedSimpArgs false
namespace Go.Proofs.Wi
def part (s : St) (seq : Nat) (data : List Nat) : Sp := (dif seq s.next, data.take 4096)
/-- What stands at each place from the next byte on, once the part came. -/
def gF (s : St) (seq : Nat) (data : List Nat) (k : Nat) : Option Nat :=
  if (k : Int) < room s then (cont (spans s) k).or (if cov (part s seq data) k then (part s seq data).2[((k : Int) - (part s seq data).1).toNat]? else none) else none
def allL (s : St) (seq : Nat) (data : List Nat) : List Sp :=
  spans s ++ (match within (part s seq data) 0 (room s) with
    | some x => fresh x x.1 (spans s)
    | none => [])
theorem chk_spans {s : St} (h : chk s = true) : Sep 0 (spans s) ∧ (∀ x ∈ spans s, x.1 + x.2.length ≤ room s) ∧ room s = 256 - s.bytes.length ∧ s.bytes.length ≤ 256 := by
  have hr : room s = 256 - s.bytes.length := by unfold room; rw [h, if_pos rfl]
  unfold chk at h
  by_cases hb : 256 < s.bytes.length
  · rw [if_pos hb] at h; cases h
  · rw [if_neg hb] at h
    have := (chkL_sep (Int.le_refl 0)).1 h
    exact ⟨this.1, by rw [hr]; exact this.2, hr, by omega⟩
theorem all_cont {s : St} (h : chk s = true) (seq : Nat) (data : List Nat) : (allL s seq data).Pairwise dis ∧ (∀ x ∈ allL s seq data, x.2 ≠ [] ∧ 0 ≤ x.1 ∧ x.1 + x.2.length ≤ room s) ∧ ∀ k, cont (allL s seq data) k = gF s seq data k := by
  obtain ⟨h1, h2, h3, h4⟩ := chk_spans h
  have hne : ∀ {a : Int} {l : List Sp}, Ord a l → ∀ x ∈ l, x.2 ≠ [] := fun {a l} ho x hx => by
    induction l generalizing a with
    | nil => cases hx
    | cons y r ih => exact (List.mem_cons.1 hx).elim (fun e => e ▸ ho.2.1) (ih ho.2.2)
  have hout : ∀ k : Nat, ¬ (k : Int) < room s → cont (spans s) k = none := fun k hk => cont_none fun x hx hc => by
    have := h2 x hx
    unfold cov at hc
    omega
  unfold allL
  cases hw : within (part s seq data) 0 (room s) with
  | none =>
    refine ⟨by rw [List.append_nil]; exact h1.ord.dis, fun x hx => ?_, fun k => ?_⟩
    · rw [List.append_nil] at hx
      exact ⟨hne h1.ord x hx, h1.ord.lo x hx, h2 x hx⟩
    · rw [List.append_nil]
      unfold gF
      by_cases hk : (k : Int) < room s
      · rw [if_pos hk, if_neg (fun hc => within_none hw k ⟨hc, by omega, hk⟩), Option.or_none]
      · rw [if_neg hk, hout k hk]
  | some x =>
    obtain ⟨w1, w2, w3, w4⟩ := within_some hw
    have fo := fresh_ord x (spans s) x.1 0 h1.ord
    have fd := fresh_dis x (spans s) x.1 0 h1.ord
    have fc := fresh_cont x (spans s) x.1 0 h1.ord
    refine ⟨List.pairwise_append.2 ⟨h1.ord.dis, fo.dis, fun y hy z hz => dis_symm (fd z hz y hy)⟩, fun y hy => ?_, fun k => ?_⟩
    · rcases List.mem_append.1 hy with hy | hy
      · exact ⟨hne h1.ord y hy, h1.ord.lo y hy, h2 y hy⟩
      · have n1 := hne fo y hy
        have n2 := fo.lo y hy
        refine ⟨n1, by omega, ?_⟩
        -- the last place of y is one of x
        have hyp := List.length_pos_iff.2 n1
        have hc : cov y (y.1 + y.2.length - 1).toNat := by unfold cov; omega
        have hs := cont_of_mem fo.dis hy hc
        obtain ⟨v, hv⟩ := cov_some hc
        rw [hv, fc] at hs
        by_cases hg : cov x (y.1 + y.2.length - 1).toNat ∧ x.1 ≤ ((y.1 + y.2.length - 1).toNat : Nat) ∧ cont (spans s) (y.1 + y.2.length - 1).toNat = none
        · have := hg.1
          unfold cov at this
          omega
        · rw [if_neg hg] at hs; cases hs
    · rw [cont_append, fc]
      unfold gF
      by_cases hk : (k : Int) < room s
      · rw [if_pos hk]
        have hcov : cov x k ↔ cov (part s seq data) k := by rw [within_cov hw k]; exact ⟨fun g => g.1, fun g => ⟨g, by omega, hk⟩⟩
        cases hcs : cont (spans s) k with
        | some v => rfl
        | none =>
          simp only [Option.none_or]
          by_cases hc : cov x k
          · rw [if_pos ⟨hc, by unfold cov at hc; omega, trivial⟩, if_pos (hcov.1 hc), within_get hw hc]
          · rw [if_neg (fun g => hc g.1), if_neg (fun g => hc (hcov.2 g))]
      · rw [if_neg hk, hout k hk]
        rw [if_neg (fun g => by have := (within_cov hw k).1 g.1; omega)]; rfl
/-- What of it comes out, and what stays. -/
structure Took (g : Nat → Option Nat) (b : List Nat) (rest : List Sp) : Prop where
  sep : Sep b.length rest
  get : ∀ k, k < b.length → g k = b[k]?
  stop : g b.length = none
  cont : ∀ k, cont rest k = if b.length ≤ k then g k else none
theorem Took.unique {g : Nat → Option Nat} {b b' : List Nat} {rest rest' : List Sp} (h : Took g b rest) (h' : Took g b' rest') : b = b' ∧ rest = rest' := by
  have hl : b.length = b'.length := by
    rcases Nat.lt_trichotomy b.length b'.length with e | e | e
    · have := h'.get _ e
      rw [h.stop, List.getElem?_eq_getElem e] at this; cases this
    · exact e
    · have := h.get _ e
      rw [h'.stop, List.getElem?_eq_getElem e] at this; cases this
  refine ⟨List.ext_getElem? fun i => ?_, sep_unique (a := b.length) (by omega) h.sep (hl ▸ h'.sep) fun k => ?_⟩
  · by_cases hi : i < b.length
    · rw [← h.get i hi, ← h'.get i (by omega)]
    · rw [List.getElem?_eq_none (by omega), List.getElem?_eq_none (by omega)]
  · rw [h.cont, h'.cont, hl]
/-- By sorting and merging. -/
theorem took_of_merge {s : St} (h : chk s = true) {seq : Nat} {data : List Nat} {srt : List Sp} (hp : srt.Perm (allL s seq data)) (hs : srt.Pairwise fun x y => x.1 ≤ y.1) :
    ∃ b rest, ((b ≠ [] ∧ merge [] srt = (0, b) :: rest) ∨ (b = [] ∧ merge [] srt = rest)) ∧ Took (gF s seq data) b rest := by
  obtain ⟨a1, a2, a3⟩ := all_cont h seq data
  have hd : srt.Pairwise dis := hp.symm.pairwise_iff (fun h => dis_symm h) |>.1 a1
  have ho : Ord 0 srt := ord_of_sorted hs hd fun x hx => by
    have := a2 x (hp.mem_iff.1 hx)
    exact ⟨this.1, this.2.1⟩
  obtain ⟨m1, m2⟩ := merge_sep (a := -1) (Int.le_refl _) srt [] trivial (fun _ h => (List.not_mem_nil h).elim) (by simpa using ho)
  have hg : ∀ k, cont (merge [] srt) k = gF s seq data k := fun k => by
    rw [m2 k, List.nil_append, cont_perm hp hd k, a3]
  obtain ⟨b, rest, e, h1, h2, h3, h4⟩ := head_split m1
  exact ⟨b, rest, e, h1, fun k hk => by rw [← hg]; exact h2 k hk, by rw [← hg]; exact h3, fun k => by rw [h4 k, hg]⟩
theorem gF_out {s : St} {seq : Nat} {data : List Nat} {k : Nat} (h : ¬ (k : Int) < room s) : gF s seq data k = none := by
  unfold gF; exact if_neg h
/-- By going through the places. -/
theorem took_of_runs {g : Nat → Option Nat} {r : Nat} (hg : ∀ k, r ≤ k → g k = none) {b : List Nat} (hb : ∀ k, k < b.length → g k = b[k]?) (hs : g b.length = none) {out : List Sp} (h : RunInv g b.length r out) : Took g b out :=
  ⟨h.sep, hb, hs, fun k => by
    rw [h.cont k]
    by_cases h1 : b.length ≤ k ∧ k < r
    · rw [if_pos h1, if_pos h1.1]
    · rw [if_neg h1]
      by_cases h2 : b.length ≤ k
      · rw [if_pos h2, hg k (by omega)]
      · rw [if_neg h2]⟩
/-- The stream behind it. -/
def outS (s : St) (b : List Nat) (rest : List Sp) : St := ⟨(s.next + b.length) % 4294967296, s.bytes ++ b, rest.map fun x => ((s.next + x.1.toNat) % 4294967296, x.2)⟩
end Go.Proofs.Wi
