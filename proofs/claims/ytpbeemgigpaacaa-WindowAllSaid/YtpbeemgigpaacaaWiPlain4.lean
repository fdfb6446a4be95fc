/-
  Streams as parts come again, in whatever order, and as they are read. No program in sight.
-/
import Derived.Test.YtpbeemgigpaacaaWiPlain3
set_option linter.unusedVariables false
set_option linter.unusedSimpArgs false
namespace Go.Proofs.Wi
theorem dif_eq {a b : Nat} {c : Int} (h : ((a : Int) - b - c) % 4294967296 = 0) (h1 : -2147483648 ≤ c) (h2 : c < 2147483648) : dif a b = c := by
  unfold dif; split <;> omega
theorem dif_mod (a b : Nat) : ((a : Int) - b - dif a b) % 4294967296 = 0 := by
  unfold dif; split <;> omega
theorem dif_rng (a b : Nat) : -2147483648 ≤ dif a b ∧ dif a b < 2147483648 := by
  unfold dif; split <;> omega
def shiftN (n : Nat) (l : List Sp) : List Sp := l.map fun x => (x.1 - (n : Int), x.2)
theorem shift_sep {n : Nat} : ∀ {l : List Sp} {a : Int}, Sep a l → Sep (a - (n : Int)) (shiftN n l) := by
  intro l
  induction l with
  | nil => intro a _; trivial
  | cons x r ih =>
    intro a h
    refine ⟨?_, h.2.1, ?_⟩
    · have := h.1
      show a - (n : Int) < x.1 - (n : Int)
      omega
    · have := ih h.2.2
      show Sep (x.1 - (n : Int) + x.2.length) (shiftN n r)
      rw [show x.1 - (n : Int) + (x.2.length : Int) = x.1 + x.2.length - (n : Int) from by omega]
      exact this
theorem shift_cont {n : Nat} (k : Nat) : ∀ (l : List Sp), cont (shiftN n l) k = cont l (k + n) := by
  intro l
  induction l with
  | nil => rfl
  | cons x r ih =>
    show cont ((x.1 - (n : Int), x.2) :: shiftN n r) k = cont (x :: r) (k + n)
    rw [cont_cons, cont_cons, ih]
    have hc : cov (x.1 - (n : Int), x.2) k ↔ cov x (k + n) := by unfold cov; simp only; omega
    have hi : ((k : Int) - (x.1 - (n : Int))).toNat = (((k + n : Nat) : Int) - x.1).toNat := by omega
    by_cases h : cov x (k + n)
    · rw [if_pos h, if_pos (hc.2 h)]
      simp only [hi]
    · rw [if_neg h, if_neg (fun g => h (hc.1 g))]
theorem took_in {g : Nat → Option Nat} {r : Nat} (hg : ∀ k, r ≤ k → g k = none) {b : List Nat} {rest : List Sp} (h : Took g b rest) : b.length ≤ r ∧ ∀ x ∈ rest, x.1 + x.2.length ≤ r := by
  refine ⟨?_, fun x hx => ?_⟩
  · rcases Nat.lt_or_ge r b.length with e | e
    · have := h.get r e
      rw [hg r (Nat.le_refl _), List.getElem?_eq_getElem e] at this; cases this
    · exact e
  · have h1 := h.sep.lo x hx
    have n1 : x.2 ≠ [] := by
      have : ∀ {l : List Sp} {a : Int}, Sep a l → ∀ x ∈ l, x.2 ≠ [] := by
        intro l
        induction l with
        | nil => intro a _ x hx; cases hx
        | cons y r ih => intro a ho x hx; exact (List.mem_cons.1 hx).elim (fun e => e ▸ ho.2.1) (ih ho.2.2 x)
      exact this h.sep x hx
    have hp := List.length_pos_iff.2 n1
    have hc : cov x (x.1 + x.2.length - 1).toNat := by unfold cov; omega
    have hs := cont_of_mem h.sep.ord.dis hx hc
    obtain ⟨v, hv⟩ := cov_some hc
    rw [hv, h.cont] at hs
    rcases Nat.lt_or_ge (x.1 + x.2.length - 1).toNat r with e | e
    · omega
    · rw [hg _ e] at hs
      split at hs <;> cases hs
theorem room_nn {s : St} (h : chk s = true) : 0 ≤ room s ∧ room s = 256 - s.bytes.length ∧ s.bytes.length ≤ 256 := by
  obtain ⟨_, _, h3, h4⟩ := chk_spans h
  exact ⟨by omega, h3, h4⟩
theorem gF_none {s : St} {seq : Nat} {data : List Nat} (h : chk s = true) : ∀ k, (room s).toNat ≤ k → gF s seq data k = none := fun k hk => gF_out (by have := room_nn h; omega)
/-- The stream that comes out may be; what stands there. -/
theorem out_ok {s : St} (hc : chk s = true) {seq : Nat} {data b : List Nat} {rest : List Sp} (h : Took (gF s seq data) b rest) :
    chk (outS s b rest) = true ∧ spans (outS s b rest) = shiftN b.length rest ∧ room (outS s b rest) = room s - b.length ∧ (∀ k, cont (spans (outS s b rest)) k = gF s seq data (k + b.length)) ∧ s.bytes.length + b.length ≤ 256 := by
  obtain ⟨r0, r1, r2⟩ := room_nn hc
  obtain ⟨t1, t2⟩ := took_in (gF_none hc) h
  have hsp : spans (outS s b rest) = shiftN b.length rest := by
    unfold spans outS shiftN
    simp only [List.map_map]
    apply List.map_congr_left
    intro x hx
    have g1 := h.sep.lo x hx
    have g2 := t2 x hx
    simp only [Function.comp]
    congr 1
    exact dif_eq (by omega) (by omega) (by omega)
  have hbl : (outS s b rest).bytes.length = s.bytes.length + b.length := by unfold outS; simp
  have hsep : Sep 0 (spans (outS s b rest)) := by
    rw [hsp]
    have := shift_sep (n := b.length) h.sep
    rwa [Int.sub_self] at this
  have hck : chk (outS s b rest) = true := by
    unfold chk
    rw [hbl, if_neg (by omega)]
    refine (chkL_sep (Int.le_refl 0)).2 ⟨hsep, fun x hx => ?_⟩
    rw [hsp] at hx
    obtain ⟨y, hy, rfl⟩ := List.mem_map.1 hx
    have := t2 y hy
    simp only
    omega
  refine ⟨hck, hsp, ?_, fun k => ?_, by omega⟩
  · have := (room_nn hck).2.1
    rw [hbl] at this
    omega
  · rw [hsp, shift_cont, h.cont, if_pos (by omega)]
/-- A part that brings nothing new. -/
theorem take_nothing {a : St} (hc : chk a = true) (hn : a.next < 4294967296) (hp : ∀ p ∈ a.ps, p.1 < 4294967296) {seq : Nat} {data b : List Nat} {rest : List Sp} (hg : ∀ k : Nat, (k : Int) < room a → cont (spans a) k = none → ¬ cov (part a seq data) k) (h : Took (gF a seq data) b rest) : b = [] ∧ outS a b rest = a := by
  obtain ⟨s1, s2, s3, s4⟩ := chk_spans hc
  have hgF : ∀ k, gF a seq data k = cont (spans a) k := fun k => by
    unfold gF
    by_cases hk : (k : Int) < room a
    · rw [if_pos hk]
      cases hcs : cont (spans a) k with
      | some v => rfl
      | none => rw [Option.none_or, if_neg (hg k hk hcs)]
    · rw [if_neg hk]
      refine (cont_none fun x hx hcv => ?_).symm
      have := s2 x hx
      unfold cov at hcv
      omega
  have ht : Took (gF a seq data) [] (spans a) := ⟨s1, fun k hk => absurd hk (Nat.not_lt_zero _), by rw [hgF]; exact s1.none (by simp), fun k => by rw [hgF]; exact (if_pos (Nat.zero_le _)).symm⟩
  obtain ⟨rfl, rfl⟩ := h.unique ht
  refine ⟨rfl, ?_⟩
  obtain ⟨nx, bs, ps⟩ := a
  unfold outS spans
  simp only [List.length_nil, Nat.add_zero, List.append_nil, List.map_map]
  have e : ps.map ((fun x : Sp => ((nx + x.1.toNat) % 4294967296, x.2)) ∘ fun p : Nat × List Nat => (dif p.1 nx, p.2)) = ps := by
    conv => rhs; rw [← List.map_id ps]
    apply List.map_congr_left
    intro p hp'
    have g1 := hp p hp'
    have g2 := s1.lo (dif p.1 nx, p.2) (List.mem_map.2 ⟨p, hp', rfl⟩)
    have g3 := dif_mod p.1 nx
    have g4 := dif_rng p.1 nx
    simp only [Function.comp, id]
    simp only at g1 g2 hn
    have : (nx + (dif p.1 nx).toNat) % 4294967296 = p.1 := by omega
    rw [this]
  rw [e, Nat.mod_eq_of_lt hn]
theorem out_lt (s : St) (b : List Nat) (rest : List Sp) : (outS s b rest).next < 4294967296 ∧ ∀ p ∈ (outS s b rest).ps, p.1 < 4294967296 := by
  refine ⟨Nat.mod_lt _ (by decide), fun p hp => ?_⟩
  obtain ⟨x, _, rfl⟩ := List.mem_map.1 hp
  exact Nat.mod_lt _ (by decide)
/-- What came comes to nothing when it comes again. -/
theorem once {s : St} (hc : chk s = true) {seq : Nat} {data other b b2 : List Nat} {rest rest2 : List Sp} (h : Took (gF s seq data) b rest) (ho : other.length ≤ data.length) (h2 : Took (gF (outS s b rest) seq other) b2 rest2) : b2 = [] ∧ outS (outS s b rest) b2 rest2 = outS s b rest := by
  obtain ⟨o1, o2, o3, o4, o5⟩ := out_ok hc h
  refine take_nothing o1 (out_lt s b rest).1 (out_lt s b rest).2 (fun k hk hn hcv => ?_) h2
  rw [o4] at hn
  have hrs := room_nn hc
  have hr : ((k + b.length : Nat) : Int) < room s := by omega
  have hcv2 : cov (part s seq data) (k + b.length) := by
    unfold cov part at hcv ⊢
    simp only [List.length_take] at hcv ⊢
    have d1 := dif_mod seq s.next
    have d2 := dif_rng seq s.next
    have d3 := dif_mod seq (outS s b rest).next
    have d4 := dif_rng seq (outS s b rest).next
    have d5 : (outS s b rest).next = (s.next + b.length) % 4294967296 := rfl
    omega
  unfold gF at hn
  rw [if_pos hr, if_pos hcv2] at hn
  obtain ⟨v, hv⟩ := cov_some hcv2
  rw [hv] at hn
  cases hcs : cont (spans s) (k + b.length) with
  | none => rw [hcs] at hn; cases hn
  | some u => rw [hcs] at hn; cases hn
/-- A stream agrees with all of one: so far p bytes came in order. -/
structure Agr (all : List Nat) (next : Nat) (s : St) (p : Nat) : Prop where
  ok : chk s = true
  pos : p ≤ all.length
  nxt : s.next = (next + p) % 4294967296
  ag : ∀ k v, cont (spans s) k = some v → all[p + k]? = some v
theorem Agr.start (all : List Nat) (next : Nat) (hn : next < 4294967296) : Agr all next ⟨next, [], []⟩ 0 :=
  ⟨rfl, Nat.zero_le _, (Nat.mod_eq_of_lt hn).symm, fun k v h => by cases h⟩
/-- Read. -/
theorem Agr.read {all : List Nat} {next p : Nat} {s : St} (h : Agr all next s p) (k : Nat) : Agr all next ⟨s.next, s.bytes.drop k, s.ps⟩ p := by
  obtain ⟨s1, s2, s3, s4⟩ := chk_spans h.ok
  refine ⟨?_, h.pos, h.nxt, h.ag⟩
  unfold chk
  simp only [List.length_drop]
  rw [if_neg (by omega)]
  refine (chkL_sep (Int.le_refl 0)).2 ⟨s1, fun x hx => ?_⟩
  have := s2 x hx
  omega
/-- Is a place there? -/
def Has (s : St) (p j : Nat) : Prop := j < p ∨ ∃ v, cont (spans s) (j - p) = some v
theorem Agr.take {all : List Nat} {next p : Nat} {s : St} (h : Agr all next s p) (hl : all.length ≤ 1000) {fr n : Nat} (hf : fr + n ≤ all.length) {b : List Nat} {rest : List Sp}
    (ht : Took (gF s ((next + fr) % 4294967296) ((all.drop fr).take n)) b rest) : Agr all next (outS s b rest) (p + b.length) ∧ b = (all.drop p).take b.length ∧ (∀ j, Has s p j → Has (outS s b rest) (p + b.length) j) ∧ ∀ j, fr ≤ j → j < fr + n → (j : Int) - p < room s → Has (outS s b rest) (p + b.length) j := by
  obtain ⟨o1, o2, o3, o4, o5⟩ := out_ok h.ok ht
  have hrm := room_nn h.ok
  have hd : dif ((next + fr) % 4294967296) s.next = (fr : Int) - p := by
    have := h.nxt
    have := h.pos
    exact dif_eq (by omega) (by omega) (by omega)
  have hln : ((all.drop fr).take n).length = n := by rw [List.length_take, List.length_drop]; omega
  have hpt : part s ((next + fr) % 4294967296) ((all.drop fr).take n) = ((fr : Int) - p, (all.drop fr).take n) := by
    unfold part
    rw [hd, List.take_of_length_le (by rw [hln]; omega)]
  have key : ∀ k v, gF s ((next + fr) % 4294967296) ((all.drop fr).take n) k = some v → all[p + k]? = some v := fun k v hk => by
    unfold gF at hk
    by_cases hr : (k : Int) < room s
    · rw [if_pos hr] at hk
      cases hcs : cont (spans s) k with
      | some u =>
        rw [hcs] at hk
        cases hk
        exact h.ag k _ hcs
      | none =>
        rw [hcs, Option.none_or, hpt] at hk
        by_cases hcv : cov ((fr : Int) - p, (all.drop fr).take n) k
        · rw [if_pos hcv] at hk
          unfold cov at hcv
          simp only [hln] at hcv
          simp only at hk
          rw [List.getElem?_take, if_pos (by omega), List.getElem?_drop] at hk
          rw [← hk]
          congr 1
          omega
        · rw [if_neg hcv] at hk; cases hk
    · rw [if_neg hr] at hk; cases hk
  have hbg : ∀ k, k < b.length → all[p + k]? = b[k]? := fun k hk => by
    have h1 := ht.get k hk
    rw [List.getElem?_eq_getElem hk] at h1 ⊢
    exact key k _ h1
  have hpl : p + b.length ≤ all.length := by
    rcases Nat.eq_zero_or_pos b.length with e | e
    · have := h.pos; omega
    · have := hbg (b.length - 1) (by omega)
      rw [List.getElem?_eq_getElem (by omega : b.length - 1 < b.length)] at this
      have := (List.getElem?_eq_some_iff.1 this).1
      omega
  refine ⟨⟨o1, hpl, ?_, fun k v hk => ?_⟩, ?_, fun j hj => ?_, fun j h1 h2 h3 => ?_⟩
  · have := h.nxt
    show (s.next + b.length) % 4294967296 = _
    omega
  · rw [o4] at hk
    have := key _ v hk
    rw [← this]
    congr 1
    omega
  · refine List.ext_getElem? fun i => ?_
    by_cases hi : i < b.length
    · rw [List.getElem?_take, if_pos hi, List.getElem?_drop, hbg i hi]
    · rw [List.getElem?_eq_none (by omega), List.getElem?_eq_none (by rw [List.length_take]; omega)]
  · rcases Nat.lt_or_ge j (p + b.length) with e | e
    · exact .inl e
    · refine .inr ?_
      rcases hj with hj | ⟨v, hv⟩
      · omega
      · refine ⟨v, ?_⟩
        rw [o4, show j - (p + b.length) + b.length = j - p from by omega]
        have hr : ((j - p : Nat) : Int) < room s := by
          rcases Int.lt_or_le ((j - p : Nat) : Int) (room s) with g | g
          · exact g
          · rw [cont_none (fun x hx hcv => by
              have := (chk_spans h.ok).2.1 x hx
              unfold cov at hcv
              omega)] at hv
            cases hv
        unfold gF
        rw [if_pos hr, hv]; rfl
  · rcases Nat.lt_or_ge j (p + b.length) with e | e
    · exact .inl e
    · refine .inr ?_
      rw [o4, show j - (p + b.length) + b.length = j - p from by omega]
      unfold gF
      rw [if_pos (by omega), hpt]
      have hcv : cov ((fr : Int) - p, (all.drop fr).take n) (j - p) := by unfold cov; simp only [hln]; omega
      rw [if_pos hcv]
      obtain ⟨v, hv⟩ := cov_some hcv
      rw [hv]
      cases cont (spans s) (j - p) with
      | none => exact ⟨v, rfl⟩
      | some u => exact ⟨u, rfl⟩
/-- All came. -/
theorem Agr.all {all : List Nat} {next p : Nat} {s : St} (h : Agr all next s p) (hh : ∀ j, j < all.length → Has s p j) : p = all.length ∧ s.ps = [] := by
  obtain ⟨s1, s2, s3, s4⟩ := chk_spans h.ok
  have hp : p = all.length := by
    rcases Nat.lt_or_ge p all.length with e | e
    · rcases hh p e with g | ⟨v, g⟩
      · omega
      · rw [Nat.sub_self, s1.none (by simp)] at g; cases g
    · have := h.pos; omega
  refine ⟨hp, ?_⟩
  have hsp : spans s = [] := by
    cases hs : spans s with
    | nil => rfl
    | cons x r =>
      exfalso
      have g1 := s1.lo x (by rw [hs]; simp)
      have n1 : x.2 ≠ [] := by rw [hs] at s1; exact s1.2.1
      have hpos := List.length_pos_iff.2 n1
      have hc : cov x (x.1).toNat := by unfold cov; omega
      obtain ⟨v, hv⟩ := cov_some hc
      have := cont_of_mem s1.ord.dis (show x ∈ spans s by rw [hs]; simp) hc
      rw [hv] at this
      have := h.ag _ _ this
      have := (List.getElem?_eq_some_iff.1 this).1
      omega
  exact List.map_eq_nil_iff.1 hsp
end Go.Proofs.Wi
