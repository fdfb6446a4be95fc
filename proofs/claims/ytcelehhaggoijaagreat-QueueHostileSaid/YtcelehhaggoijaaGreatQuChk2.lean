/-
  A queue in memory; one that may be: Check.
-/
import Derived.Test.YtcelehhaggoijaaGreatQuChk
set_option linter.unusedVariables false
set_option linter.unusedSimpArgs false
namespace Go.Proofs.Qu
open Go Go.RowKit Go.Proofs.Nm
/-- A chain in memory: its head, its slice, its room, its descriptors. -/
structure Chn where
  h : Nat
  db : Nat
  d0 : Nat
  dn : Nat
  dc : Nat
  rm : Nat
  ds : List Nat
def Chn.v (c : Chn) : Value := .slice (some ⟨c.db, c.d0, none⟩) c.dn c.dc
def encC (c : Chn) : List Value := [.int .i64 (c.h : Nat), .slice (some ⟨c.db, c.d0, none⟩) c.dn c.dc, .int .i64 (c.rm : Nat)]
def cellsC (l : List Chn) : List Value := l.flatMap encC
theorem cellsC_len (l : List Chn) : (cellsC l).length = l.length * 3 := len_flat (en := encC) (fun _ => rfl) l
/-- A queue's free ones and chains, read. -/
structure InQ (R : List (Nat × Value × List Value)) (fv cv : Value) (free : List Nat) (chs : List Chn) : Prop where
  fr : (1, fv, intsI free) ∈ R
  ch : (3, cv, cellsC chs) ∈ R
  ds : ∀ c ∈ chs, (1, Value.slice (some ⟨c.db, c.d0, none⟩) c.dn c.dc, intsI c.ds) ∈ R
theorem InQ.mono {R R' : List (Nat × Value × List Value)} {fv cv : Value} {free : List Nat} {chs : List Chn} (h : InQ R fv cv free chs) (hs : ∀ x ∈ R, x ∈ R') : InQ R' fv cv free chs := ⟨hs _ h.fr, hs _ h.ch, fun c hc => hs _ (h.ds c hc)⟩
/-- Which queues may be. -/
structure OkQ (n : Nat) (free : List Nat) (chs : List Chn) : Prop where
  sz : okN n
  so : free.Pairwise (· ≤ ·)
  hd : ∀ c ∈ chs, c.ds[0]? = some c.h ∧ c.rm ≤ 2147483647
  all : (free ++ chs.flatMap (·.ds)).Perm (List.range n)
theorem sorted_eq : ∀ {l m : List Nat}, l.Pairwise (· ≤ ·) → m.Pairwise (· ≤ ·) → l.Perm m → l = m := by
  intro l
  induction l with
  | nil => intro m _ _ h; exact (List.nil_perm.1 h).symm ▸ rfl
  | cons x r ih =>
    intro m hl hm h
    cases m with
    | nil => exact absurd h.length_eq (by simp)
    | cons y s =>
      obtain ⟨a1, a2⟩ := List.pairwise_cons.1 hl
      obtain ⟨b1, b2⟩ := List.pairwise_cons.1 hm
      have e : x = y := by
        have h1 : x ≤ y := by
          rcases List.mem_cons.1 (h.mem_iff.2 (List.mem_cons_self (a := y) (l := s))) with e | e
          · omega
          · exact a1 y e
        have h2 : y ≤ x := by
          rcases List.mem_cons.1 (h.mem_iff.1 (List.mem_cons_self (a := x) (l := r))) with e | e
          · omega
          · exact b1 x e
        omega
      subst e
      rw [ih a2 b2 (List.Perm.cons_inv h)]
theorem OkQ.le {n : Nat} {free : List Nat} {chs : List Chn} (h : OkQ n free chs) : ∀ x ∈ free ++ chs.flatMap (·.ds), x < n := fun x hx => List.mem_range.1 (h.all.mem_iff.1 hx)
theorem OkQ.len {n : Nat} {free : List Nat} {chs : List Chn} (h : OkQ n free chs) : free.length + (chs.flatMap (·.ds)).length = n := by
  have := h.all.length_eq
  rw [List.length_append, List.length_range] at this
  exact this
end Go.Proofs.Qu
namespace Go.Proofs.YtcelehhaggoijaaGreat
open Go.Proofs.Qu Go.Proofs.Nm Go.RowKit Go.Proofs
theorem infoC3 : (Tryz.prog.info? 115).map (·.size) = some 3 := by kernel_rfl
theorem IClone_O {w0 w : World} {L : List (Nat × Array Value)} {R : List (Nat × Value × List Value)} {v : Value} {l : List Nat} (hv : Mem w0 w L R) (hm : (1, v, intsI l) ∈ R) (hl : l.length ≤ 1000) :
    Calls Tryz.prog 45 #[v] w fun e w' => ∃ a n c, e = .returned (.slice a n c) ∧ ∃ O, OwnL 1 (.slice a n c) (intsI l) O ∧ Mem w0 w' (O ++ L) R := by
  obtain ⟨a, n, c, rfl, g1, _, _, g4, _⟩ := id (hv.rd hm)
  rw [intsI_len, Nat.mul_one] at g1
  cases a with
  | none =>
    obtain ⟨rfl, rfl⟩ := g4 rfl
    obtain rfl : l = [] := List.length_eq_zero_iff.1 g1
    refine (IClone_nil w).mono ?_
    rintro e w' ⟨rfl, rfl⟩
    exact ⟨none, 0, 0, rfl, [], OwnL.nil 1, hv⟩
  | some ad =>
    refine (IClone_M hv hm (intsI_one _) (by omega)).mono ?_
    rintro e w' ⟨b, c3, z, rfl, hrow, hv1⟩
    exact ⟨some ⟨b, 0, none⟩, n, c3, rfl, [(b, z)], OwnL.row hrow, hv1⟩
end Go.Proofs.YtcelehhaggoijaaGreat
