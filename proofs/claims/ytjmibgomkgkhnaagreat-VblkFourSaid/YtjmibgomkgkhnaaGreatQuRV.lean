import Derived.Test.YtjmibgomkgkhnaaGreatQuSame
set_option linter.unusedSimpArgs false
set_option linter.unusedVariables false
section
/-
 A ring's memory: what is read behind what was written. No program in sight.
-/
namespace Go.Proofs.Qu
open Go Go.RowKit Go.Proofs.Nm
theorem fromTo_leBq (n K : Nat) : ∀ k, k ≤ K → fromTo (leB n K) k = n % 256 ^ k := by
 intro k
 induction k with
 | zero => intro _; show 0 = _; rw [Nat.pow_zero, Nat.mod_one]
 | succ k ih =>
   intro hk
   show fromTo (leB n K) k + (leB n K).getD k 0 * 256 ^ k = _
   rw [ih (by omega), Nat.mod_pow_succ]
   have : (leB n K).getD k 0 = n / 256 ^ k % 256 := by
     unfold leB
     rw [List.getD_eq_getElem?_getD, List.getElem?_map, List.getElem?_range (by omega)]; rfl
   rw [this, Nat.mul_comm]
theorem get_putB {M D : List Nat} {q : Nat} (h : q + D.length ≤ M.length) (i : Nat) : (putB M q D)[i]? = if i < q then M[i]? else if i < q + D.length then D[i - q]? else M[i]? := by
 unfold putB
 have h1 : (M.take q).length = q := by rw [List.length_take]; omega
 have h2 : (M.take q ++ D).length = q + D.length := by rw [List.length_append, h1]
 by_cases c1 : i < q
 · rw [if_pos c1, List.getElem?_append_left (by omega), List.getElem?_append_left (by omega), List.getElem?_take, if_pos c1]
 · rw [if_neg c1]
   by_cases c2 : i < q + D.length
   · rw [if_pos c2, List.getElem?_append_left (by omega), List.getElem?_append_right (by omega), h1]
   · rw [if_neg c2, List.getElem?_append_right (by omega), h2, List.getElem?_drop, show q + D.length + (i - (q + D.length)) = i from by omega]
theorem get_getB (M : List Nat) (p k j : Nat) : (getB M p k)[j]? = if j < k then M[p + j]? else none := by
 unfold getB
 rw [List.getElem?_take]
 split
 · rw [List.getElem?_drop]
 · rfl
theorem getB_put_apart {M D : List Nat} {p q k : Nat} (h : q + D.length ≤ M.length) (ha : p + k ≤ q ∨ q + D.length ≤ p) : getB (putB M q D) p k = getB M p k := by
 apply List.ext_getElem?
 intro j
 rw [get_getB, get_getB]
 by_cases hj : j < k
 · rw [if_pos hj, if_pos hj, get_putB h]
   by_cases c1 : p + j < q
   · rw [if_pos c1]
   · rw [if_neg c1, if_neg (by omega)]
 · rw [if_neg hj, if_neg hj]
theorem getB_put_same {M D : List Nat} {p k : Nat} (hk : D.length = k) (h : p + D.length ≤ M.length) : getB (putB M p D) p k = D := by
 apply List.ext_getElem?
 intro j
 rw [get_getB]
 by_cases hj : j < k
 · rw [if_pos hj, get_putB h, if_neg (by omega), if_pos (by omega), Nat.add_sub_cancel_left]
 · rw [if_neg hj, List.getElem?_eq_none (by omega)]
theorem getN_put_apart {M : List Nat} {p q k a m : Nat} (h : q + m ≤ M.length) (ha : p + k ≤ q ∨ q + m ≤ p) : getN (putB M q (leB a m)) p k = getN M p k := by
 unfold getN
 rw [getB_put_apart (by rw [leB_len]; exact h) (by rw [leB_len]; exact ha)]
theorem getN_put_same {M : List Nat} {p k a : Nat} (hk : k ≤ 8) (h : p + k ≤ M.length) (ha : a < 256 ^ k) : getN (putB M p (leB a k)) p k = a := by
 unfold getN
 rw [getB_put_same (leB_len a k) (by rw [leB_len]; exact h)]
 unfold fromB
 rw [leB_len, Nat.min_eq_right hk, fromTo_leBq a k k (Nat.le_refl _), Nat.mod_eq_of_lt ha]
theorem putN_len {M : List Nat} {p k a : Nat} (h : p + k ≤ M.length) : (putB M p (leB a k)).length = M.length := putB_len (by rw [leB_len]; exact h)
theorem setD_len {M : List Nat} {p a l f x : Nat} (h : p + 16 ≤ M.length) : (setD M p a l f x).length = M.length := by
 have e1 := putN_len (M := M) (p := p) (k := 8) (a := a) (by omega)
 have e2 := putN_len (M := putB M p (leB a 8)) (p := p + 8) (k := 4) (a := l) (by omega)
 have e3 := putN_len (M := putB (putB M p (leB a 8)) (p + 8) (leB l 4)) (p := p + 8 + 4) (k := 2) (a := f) (by omega)
 have e4 := putN_len (M := putB (putB (putB M p (leB a 8)) (p + 8) (leB l 4)) (p + 8 + 4) (leB f 2)) (p := p + 8 + 4 + 2) (k := 2) (a := x) (by omega)
 unfold setD
 omega
theorem setD_apart {M : List Nat} {p a l f x q k : Nat} (h : p + 16 ≤ M.length) (ha : q + k ≤ p ∨ p + 16 ≤ q) : getN (setD M p a l f x) q k = getN M q k := by
 have e1 := putN_len (M := M) (p := p) (k := 8) (a := a) (by omega)
 have e2 := putN_len (M := putB M p (leB a 8)) (p := p + 8) (k := 4) (a := l) (by omega)
 have e3 := putN_len (M := putB (putB M p (leB a 8)) (p + 8) (leB l 4)) (p := p + 8 + 4) (k := 2) (a := f) (by omega)
 unfold setD
 rw [getN_put_apart (by omega) (by omega), getN_put_apart (by omega) (by omega), getN_put_apart (by omega) (by omega), getN_put_apart (by omega) (by omega)]
theorem setD_at {M : List Nat} {base i a l f x : Nat} (h : base + 16 * i + 16 ≤ M.length) (ha : a < 18446744073709551616) (hl : l < 4294967296) (hf : f < 65536) (hx : x < 65536) : DescAt (setD M (base + 16 * i) a l f x) base i a l f x := by
 obtain ⟨p, hp⟩ : ∃ p, base + 16 * i = p := ⟨_, rfl⟩
 unfold DescAt
 rw [hp] at h ⊢
 have e1 := putN_len (M := M) (p := p) (k := 8) (a := a) (by omega)
 have e2 := putN_len (M := putB M p (leB a 8)) (p := p + 8) (k := 4) (a := l) (by omega)
 have e3 := putN_len (M := putB (putB M p (leB a 8)) (p + 8) (leB l 4)) (p := p + 8 + 4) (k := 2) (a := f) (by omega)
 unfold setD
 refine ⟨?_, ?_, ?_, ?_⟩
 · rw [getN_put_apart (by omega) (by omega), getN_put_apart (by omega) (by omega), getN_put_apart (by omega) (by omega), getN_put_same (by decide) (by omega) (by simpa using ha)]
 · rw [getN_put_apart (by omega) (by omega), getN_put_apart (by omega) (by omega), getN_put_same (by decide) (by omega) (by simpa using hl)]
 · rw [getN_put_apart (by omega) (by omega), getN_put_same (by decide) (by omega) (by simpa using hf)]
 · rw [getN_put_same (by decide) (by omega) (by simpa using hx)]
theorem setD_other {M : List Nat} {base i j a l f x a' l' f' x' : Nat} (h : base + 16 * i + 16 ≤ M.length) (hij : i ≠ j) (hd : DescAt M base j a' l' f' x') : DescAt (setD M (base + 16 * i) a l f x) base j a' l' f' x' := by
 unfold DescAt at *
 rw [setD_apart h (by omega), setD_apart h (by omega), setD_apart h (by omega), setD_apart h (by omega)]
 exact hd
theorem ptD_get {l : List Pt} {k : Nat} (h : k < l.length) : ptD l k = l[k] := by
 unfold ptD
 rw [List.getD_eq_getElem?_getD, List.getElem?_eq_getElem h]; rfl
structure LayOk (M : List Nat) (base n : Nat) (ds : List Nat) (l : List Pt) : Prop where
 nd : ds.Nodup
 lt : ∀ d ∈ ds, d < n
 n16 : n ≤ 16
 room : base + 16 * n ≤ M.length
 len : ds.length = l.length
 pts : ∀ p ∈ l, p.1 < 1000000 ∧ p.2.1 < 1000000
theorem LayOk.dk {M : List Nat} {base n : Nat} {ds : List Nat} {l : List Pt} (h : LayOk M base n ds l) {k : Nat} (hk : k < ds.length) : ds.getD k 0 < n := by
 rw [List.getD_eq_getElem?_getD, List.getElem?_eq_getElem hk]
 exact h.lt _ (List.getElem_mem hk)
theorem LayOk.ne {M : List Nat} {base n : Nat} {ds : List Nat} {l : List Pt} (h : LayOk M base n ds l) {j k : Nat} (hk : k < ds.length) (hj : j < k) : ds.getD k 0 ≠ ds.getD j 0 := by
 rw [List.getD_eq_getElem?_getD, List.getElem?_eq_getElem hk, List.getD_eq_getElem?_getD, List.getElem?_eq_getElem (by omega : j < ds.length)]
 intro e
 have := (List.getElem_inj h.nd).1 e
 omega
theorem layM_len {M : List Nat} {base n : Nat} {ds : List Nat} {l : List Pt} (h : LayOk M base n ds l) : ∀ k, k ≤ ds.length → (layM M base ds l k).length = M.length := by
 intro k
 induction k with
 | zero => intro _; rfl
 | succ k ih =>
   intro hk
   have h1 := ih (by omega)
   have h2 := h.dk (k := k) (by omega)
   have h3 := h.room
   show (setD _ _ _ _ _ _).length = _
   rw [setD_len (by omega)]; exact h1
theorem flP_lt (k i : Nat) (w : Bool) : flP k i w < 65536 := by unfold flP; split <;> split <;> decide
theorem nxP_lt {M : List Nat} {base n : Nat} {ds : List Nat} {l : List Pt} (h : LayOk M base n ds l) (k : Nat) : nxP ds k < 65536 := by
 unfold nxP
 by_cases hk : k + 1 < ds.length
 · have := h.dk hk; have := h.n16; omega
 · rw [List.getD_eq_getElem?_getD, List.getElem?_eq_none (by omega)]; decide
theorem layM_desc {M : List Nat} {base n : Nat} {ds : List Nat} {l : List Pt} (h : LayOk M base n ds l) : ∀ k, k ≤ ds.length → ∀ j, j < k → DescAt (layM M base ds l k) base (ds.getD j 0) (ptD l j).1 (ptD l j).2.1 (flP ds.length j (ptD l j).2.2) (nxP ds j) := by
 intro k
 induction k with
 | zero => intro _ j hj; omega
 | succ k ih =>
   intro hk j hj
   have h1 := layM_len h k (by omega)
   have h2 := h.dk (k := k) (by omega)
   have h3 := h.room
   show DescAt (setD (layM M base ds l k) (base + 16 * ds.getD k 0) (ptD l k).1 (ptD l k).2.1 (flP ds.length k (ptD l k).2.2) (nxP ds k)) base _ _ _ _ _
   rcases Nat.lt_succ_iff_lt_or_eq.1 hj with hj | rfl
   · exact setD_other (by omega) (h.ne (by omega) hj) (ih (by omega) j hj)
   · have hp := h.pts (ptD l j) (by rw [ptD_get (by rw [← h.len]; omega)]; exact List.getElem_mem _)
     exact setD_at (by omega) (by omega) (by omega) (flP_lt _ _ _) (nxP_lt h j)
theorem layM_apart {M : List Nat} {base n : Nat} {ds : List Nat} {l : List Pt} (h : LayOk M base n ds l) {q m : Nat} (hq : q + m ≤ base ∨ base + 16 * n ≤ q) : ∀ k, k ≤ ds.length → getN (layM M base ds l k) q m = getN M q m := by
 intro k
 induction k with
 | zero => intro _; rfl
 | succ k ih =>
   intro hk
   have h1 := layM_len h k (by omega)
   have h2 := h.dk (k := k) (by omega)
   have h3 := h.room
   show getN (setD _ _ _ _ _ _) q m = _
   rw [setD_apart (by omega) (by omega)]
   exact ih (by omega)
theorem offer_bnd {n i : Nat} (hn : okN n) : 16 * n + 4 ≤ 16 * n + (4 + 2 * (i % n)) ∧ 16 * n + (4 + 2 * (i % n)) + 2 ≤ 16 * n + 4 + 2 * n ∧ 16 * n + 4 + 2 * n ≤ backN n ∧ backN n + 4 + 8 * n = sizeN n := by
 have h1 := hn.size
 have h2 := Nat.mod_lt i (show 0 < n by have := hn.le; omega)
 generalize i % n = r at *
 omega
theorem offerM_len {M : List Nat} {base n i first : Nat} (hn : okN n) (hb : base + sizeN n ≤ M.length) : (offerM M base n i first).length = M.length := by
 have h := offer_bnd (i := i) hn
 unfold offerM
 have e1 := putN_len (M := M) (p := base + (16 * n + (4 + 2 * (i % n)))) (k := 2) (a := first) (by omega)
 rw [putN_len (by omega)]; exact e1
theorem offerM_idx {M : List Nat} {base n i first : Nat} (hn : okN n) (hb : base + sizeN n ≤ M.length) : getN (offerM M base n i first) (base + (16 * n + 2)) 2 = (i + 1) % 65536 := by
 have h := offer_bnd (i := i) hn
 unfold offerM
 have e1 := putN_len (M := M) (p := base + (16 * n + (4 + 2 * (i % n)))) (k := 2) (a := first) (by omega)
 rw [show base + (16 * n + 2) = base + 16 * n + 2 from by omega, getN_put_same (by decide) (by omega) (show (i + 1) % 65536 < 256 ^ 2 from Nat.mod_lt _ (by decide))]
theorem offerM_at {M : List Nat} {base n i first : Nat} (hn : okN n) (hb : base + sizeN n ≤ M.length) (hf : first < 65536) : getN (offerM M base n i first) (base + (16 * n + (4 + 2 * (i % n)))) 2 = first := by
 have h := offer_bnd (i := i) hn
 unfold offerM
 have e1 := putN_len (M := M) (p := base + (16 * n + (4 + 2 * (i % n)))) (k := 2) (a := first) (by omega)
 rw [getN_put_apart (by omega) (by omega), getN_put_same (by decide) (by omega) hf]
theorem offerM_apart {M : List Nat} {base n i first q m : Nat} (hn : okN n) (hb : base + sizeN n ≤ M.length) (hq : q + m ≤ base + 16 * n ∨ base + backN n ≤ q) : getN (offerM M base n i first) q m = getN M q m := by
 have h := offer_bnd (i := i) hn
 unfold offerM
 have e1 := putN_len (M := M) (p := base + (16 * n + (4 + 2 * (i % n)))) (k := 2) (a := first) (by omega)
 rw [getN_put_apart (by omega) (by omega), getN_put_apart (by omega) (by omega)]
theorem offerM_desc {M : List Nat} {base n i first j a l f x : Nat} (hn : okN n) (hb : base + sizeN n ≤ M.length) (hj : j < n) (hd : DescAt M base j a l f x) : DescAt (offerM M base n i first) base j a l f x := by
 unfold DescAt at *
 rw [offerM_apart hn hb (by omega), offerM_apart hn hb (by omega), offerM_apart hn hb (by omega), offerM_apart hn hb (by omega)]
 exact hd
structure AddOk (mn : Nat) (M : List Nat) (base n : Nat) (free : List Nat) (l : List Pt) : Prop where
 ok : okN n
 room : base + sizeN n ≤ M.length
 nd : free.Nodup
 lt : ∀ d ∈ free, d < n
 pos : 0 < l.length
 le : l.length ≤ free.length
 pts : ∀ p ∈ l, 0 < p.2.1 ∧ p.1 + p.2.1 ≤ mn
 mn6 : mn ≤ 100000
section
variable {mn : Nat} {M : List Nat} {base n av : Nat} {free : List Nat} {l : List Pt} (h : AddOk mn M base n free l)
include h
theorem AddOk.lay : LayOk M base n (free.take l.length) l :=
 ⟨(List.take_sublist _ _).nodup h.nd, fun d hd => h.lt d (List.mem_of_mem_take hd), h.ok.le.2, by have := h.room; have := offer_bnd (i := 0) h.ok; omega, by rw [List.length_take]; have := h.le; omega,
   fun p hp => by have := h.pts p hp; have := h.mn6; omega⟩
theorem AddOk.tl : (free.take l.length).length = l.length := by rw [List.length_take]; have := h.le; omega
theorem AddOk.room2 : base + sizeN n ≤ (layM M base (free.take l.length) l l.length).length := by
 rw [layM_len h.lay _ (by rw [h.tl]; exact Nat.le_refl _)]; exact h.room
theorem addM_len : (addM M base n av free l).length = M.length := by
 unfold addM
 rw [offerM_len h.ok h.room2, layM_len h.lay _ (by rw [h.tl]; exact Nat.le_refl _)]
theorem AddOk.hd : (free.take l.length).getD 0 0 = free.getD 0 0 ∧ free.getD 0 0 < n := by
 have h1 := h.pos
 have h2 := h.le
 have e : (free.take l.length).getD 0 0 = free.getD 0 0 := by
   rw [List.getD_eq_getElem?_getD, List.getElem?_take, if_pos h1, ← List.getD_eq_getElem?_getD]
 refine ⟨e, ?_⟩
 rw [List.getD_eq_getElem?_getD, List.getElem?_eq_getElem (by omega)]
 exact h.lt _ (List.getElem_mem _)
theorem addM_idx : getN (addM M base n av free l) (base + (16 * n + 2)) 2 = (av + 1) % 65536 := offerM_idx h.ok h.room2
theorem addM_at : getN (addM M base n av free l) (base + (16 * n + (4 + 2 * (av % n)))) 2 = free.getD 0 0 := offerM_at h.ok h.room2 (by have := h.hd.2; have := h.ok.le; omega)
end
theorem OkQ.nd {n : Nat} {free : List Nat} {chs : List Chn} (h : OkQ n free chs) : free.Nodup := by
 have := h.all.nodup_iff.2 List.nodup_range
 rw [List.nodup_append] at this
 exact this.1
theorem OkQ.add {n k : Nat} {free : List Nat} {chs : List Chn} (h : OkQ n free chs) {c : Chn} (h1 : c.h = free.getD 0 0) (h2 : c.ds = free.take k) (hk : 0 < k) (hk2 : k ≤ free.length) (h3 : c.rm ≤ 2147483647) : OkQ n (free.drop k) (chs ++ [c]) := by
 refine ⟨h.sz, h.so.sublist (List.drop_sublist _ _), fun x hx => ?_, ?_⟩
 · rcases List.mem_append.1 hx with hx | hx
   · exact h.hd x hx
   · rw [List.mem_singleton.1 hx]
     refine ⟨?_, h3⟩
     rw [h2, h1, List.getElem?_take, if_pos hk, List.getElem?_eq_getElem (by omega), List.getD_eq_getElem?_getD, List.getElem?_eq_getElem (by omega)]; rfl
 · rw [List.flatMap_append]
   simp only [List.flatMap_cons, List.flatMap_nil, List.append_nil]
   rw [h2]
   refine List.Perm.trans ?_ h.all
   have e : free = free.take k ++ free.drop k := (List.take_append_drop k free).symm
   conv => rhs; rw [e]
   rw [← List.append_assoc]
   refine (List.perm_append_comm (l₁ := free.drop k ++ chs.flatMap (·.ds)) (l₂ := free.take k)).trans ?_
   rw [List.append_assoc]
theorem OkQ.poll {n at_ : Nat} {free free' : List Nat} {chs : List Chn} (h : OkQ n free chs) {c : Chn} (hc : chs[at_]? = some c) (hp : free'.Perm (free ++ c.ds)) (hs : free'.Pairwise (· ≤ ·)) : OkQ n free' (chs.eraseIdx at_) := by
 refine ⟨h.sz, hs, fun x hx => h.hd x ((List.eraseIdx_sublist chs at_).subset hx), ?_⟩
 obtain ⟨h1, h2⟩ := List.getElem?_eq_some_iff.1 hc
 refine List.Perm.trans ?_ h.all
 refine (hp.append_right _).trans ?_
 rw [List.append_assoc]
 refine List.Perm.append_left _ ?_
 rw [List.eraseIdx_eq_take_drop_succ]
 conv => rhs; rw [← List.take_append_drop at_ chs, List.drop_eq_getElem_cons h1, h2]
 rw [List.flatMap_append, List.flatMap_append, List.flatMap_cons, ← List.append_assoc, ← List.append_assoc]
 exact List.perm_append_comm.append_right _
end Go.Proofs.Qu
end

section
/-
 The layer's head: each call at its numbers.
-/
namespace Go.Proofs.Qu
open Go Go.RowKit Go.Proofs.Nm
theorem OkQ.new {n : Nat} (hn : okN n) : OkQ n (List.range n) [] :=
 ⟨hn, (List.pairwise_lt_range (n := n)).imp fun h => Nat.le_of_lt h, fun c hc => (List.not_mem_nil hc).elim, by simp⟩
def HL : List Pt := [(150, 4, false), (160, 8, true)]
def HM0 : List Nat := List.replicate 200 0
def HM1 : List Nat := putB HM0 0 (List.replicate (sizeN 4) 0)
def HM2 : List Nat := addM HM1 0 4 0 (List.range 4) HL
def HM3 : List Nat := returnM HM2 0 4 0 0 5
structure Drv (R : List (Nat × Value × List Value)) (mn vb vc : Nat) (fv cv : Value) (M : List Nat) (n : Nat) (free : List Nat) (chs : List Chn) : Prop where
 m : InM R vb 0 mn vc M
 q : InQ R fv cv free chs
 ok : OkQ n free chs
theorem Drv.mono {R R' : List (Nat × Value × List Value)} {mn vb vc : Nat} {fv cv : Value} {M : List Nat} {n : Nat} {free : List Nat} {chs : List Chn} (h : Drv R mn vb vc fv cv M n free chs) (hs : ∀ x ∈ R, x ∈ R') : Drv R' mn vb vc fv cv M n free chs := ⟨h.m.mono hs, h.q.mono hs, h.ok⟩
end Go.Proofs.Qu
namespace Go.Proofs.YtjmibgomkgkhnaaGreat
open Go.Proofs.Qu Go.Proofs.Nm Go.RowKit Go.Proofs
theorem New_D {w0 w : World} {L : List (Nat × Array Value)} {R : List (Nat × Value × List Value)} {mb mo mn mc : Nat} {M : List Nat} (hv : Mem w0 w L R) (hm : InM R mb mo mn mc M) (base n : Nat) (hn : okN n) (hb : base + sizeN n ≤ mn) :
   Calls Tryz.prog 26 #[(.agg #[(.slice (some ⟨mb, mo, none⟩) mn mc)]), .int .i64 base, .int .i64 n] w fun e w' => ∃ vb vc fa fc R', e = .returned (.tuple #[.agg #[.slice (some ⟨vb, 0, none⟩) mn vc], .agg #[.int .i64 base, .int .i64 n, .slice fa n fc, .int .u16 0, .int .u16 0, .slice none 0 0], .int .i64 0]) ∧ Mem w0 w' L R' ∧ Drv R' mn vb vc (.slice fa n fc) (.slice none 0 0) (putB M base (List.replicate (sizeN n) 0)) n (List.range n) [] ∧ ∀ x ∈ R, x ∈ R' := by
 refine (New_M hv hm base n hn hb).mono ?_
 rintro e w' ⟨b, c, fv, R', rfl, hv1, hi, hf, hs⟩
 obtain ⟨fa, fn, fc, rfl, g, _⟩ := id (hv1.rd hf)
 rw [intsI_len, List.length_range, Nat.mul_one] at g
 subst g
 have hv2 := hv1.fresh (Below.refl _ _) (FR.nil _ _ 3)
 exact ⟨b, c, fa, fc, _, rfl, hv2, ⟨hi.mono fun x hx => Mem.s hx, ⟨Mem.s hf, Mem.z, fun c hc => (List.not_mem_nil hc).elim⟩, OkQ.new hn⟩, fun x hx => Mem.s (hs x hx)⟩
theorem Add_D {w0 w : World} {L : List (Nat × Array Value)} {R : List (Nat × Value × List Value)} {mn vb vc base n av la : Nat} {fv cv : Value} {M : List Nat} {free : List Nat} {chs : List Chn} (hv : Mem w0 w L R) (hd : Drv R mn vb vc fv cv M n free chs) (hb : base + sizeN n ≤ mn) {lv : Value} {l : List Pt} (hl : (3, lv, cellsPt l) ∈ R) (h1 : 0 < l.length) (hfl : l.length ≤ free.length) (hlie : ∀ p ∈ l, 0 < p.2.1 ∧ p.1 + p.2.1 ≤ mn) (hav : av < 65536) :
   Calls Tryz.prog 38 #[(.agg #[(.slice (some ⟨vb, 0, none⟩) mn vc)]), .agg #[.int .i64 base, .int .i64 n, fv, .int .u16 av, .int .u16 la, cv], lv] w fun e w' => ∃ vb' vc' fa fc ca cc c R', e = .returned (.tuple #[.agg #[.slice (some ⟨vb', 0, none⟩) mn vc'], .agg #[.int .i64 base, .int .i64 n, .slice fa (free.length - l.length) fc, .int .u16 ((av + 1) % 65536 : Nat), .int .u16 la, .slice ca (chs.length + 1) cc], .int .i64 (free.getD 0 0 : Nat), .int .i64 0]) ∧ Mem w0 w' L R' ∧ Drv R' mn vb' vc' (.slice fa (free.length - l.length) fc) (.slice ca (chs.length + 1) cc) (addM M base n av free l) n (free.drop l.length) (chs ++ [c]) ∧ c.h = free.getD 0 0 ∧ c.ds = free.take l.length ∧ c.rm = roomP l l.length ∧ ∀ x ∈ R, x ∈ R' := by
 have hm8 := hd.m.most
 have hrm := roomP_le l 8192 (fun p hp => by have := hlie p hp; omega) l.length (Nat.le_refl _)
 have hfn : free.length ≤ 16 := by have := hd.ok.len; have := hd.ok.sz.le; omega
 have hrm2 : l.length * 8192 ≤ 16 * 8192 := Nat.mul_le_mul_right _ (by omega)
 refine (Add_ok hv hd.m hd.q hd.ok hb hl h1 hfl hlie hav).mono ?_
 rintro e w' ⟨b, c, fv', cv', ch, R', rfl, hv1, hi, hq, e1, e2, e3, hs⟩
 obtain ⟨fa, fn, fc, rfl, g, _⟩ := id (hv1.rd hq.fr)
 rw [intsI_len, List.length_drop, Nat.mul_one] at g
 subst g
 obtain ⟨ca, cn, cc, rfl, g, _⟩ := id (hv1.rd hq.ch)
 rw [cellsC_len, List.length_append] at g
 have hcn : cn = chs.length + 1 := by simp only [List.length_singleton] at g; omega
 subst hcn
 exact ⟨b, c, fa, fc, ca, cc, ch, R', rfl, hv1, ⟨hi, hq, hd.ok.add e1 e2 h1 hfl (by omega)⟩, e1, e2, e3, hs⟩
theorem Poll_D {w0 w : World} {L : List (Nat × Array Value)} {R : List (Nat × Value × List Value)} {mn vb vc base n av la : Nat} {fv cv : Value} {M : List Nat} {free : List Nat} {chs : List Chn} (hv : Mem w0 w L R) (hd : Drv R mn vb vc fv cv M n free chs) (hb : base + sizeN n ≤ mn) {us ah : Nat} (hus : getN M (base + (backN n + 2)) 2 = us) (hah : (us + 65536 - la) % 65536 = ah) (hla : la < 65536) (hah0 : ah ≠ 0) (hahc : ah ≤ chs.length) {id_ len_ : Nat} (hid : getN M (base + (backN n + (4 + 8 * (la % n)))) 4 = id_) (hlen_ : getN M (base + (backN n + (4 + 8 * (la % n))) + 4) 4 = len_)
   {at_ : Nat} {c : Chn} (hix : idxF (fun c => c.h == id_) chs = (at_ : Int)) (hc : chs[at_]? = some c) (hrm : len_ ≤ c.rm) :
   Calls Tryz.prog 32 #[(.agg #[(.slice (some ⟨vb, 0, none⟩) mn vc)]), .agg #[.int .i64 base, .int .i64 n, fv, .int .u16 av, .int .u16 la, cv]] w fun e w' => ∃ fa fc ca cc free' R', e = .returned (.tuple #[.agg #[.int .i64 base, .int .i64 n, .slice fa (free.length + c.ds.length) fc, .int .u16 av, .int .u16 ((la + 1) % 65536 : Nat), .slice ca (chs.length - 1) cc], .int .i64 id_, .int .i64 len_, .int .i64 0]) ∧ Mem w0 w' L R' ∧ Drv R' mn vb vc (.slice fa (free.length + c.ds.length) fc) (.slice ca (chs.length - 1) cc) M n free' (chs.eraseIdx at_) ∧ free'.Perm (free ++ c.ds) ∧ free'.Pairwise (· ≤ ·) ∧ ∀ x ∈ R, x ∈ R' := by
 have hat := (List.getElem?_eq_some_iff.1 hc).1
 refine (Poll_ok hv hd.m hd.q hd.ok hb hus hah hla hah0 hahc hid hlen_ hix hc hrm).mono ?_
 rintro e w' ⟨fv', cv', free', R', rfl, hv1, hq, hp, hs, hr⟩
 obtain ⟨fa, fn, fc, rfl, g, _⟩ := id (hv1.rd hq.fr)
 rw [intsI_len, Nat.mul_one, hp.length_eq, List.length_append] at g
 subst g
 obtain ⟨ca, cn, cc, rfl, g, _⟩ := id (hv1.rd hq.ch)
 rw [cellsC_len, List.length_eraseIdx, if_pos hat] at g
 have hcn : cn = chs.length - 1 := by omega
 subst hcn
 exact ⟨fa, fc, ca, cc, free', R', rfl, hv1, ⟨hd.m.mono hr, hq, hd.ok.poll hc hp hs⟩, hp, hs, hr⟩
theorem wl_mkz {ops : Array Oper} {rest : List Oper} {a : Act} {w : World} {Q : Exit → Act → World → Prop} {dst : Option Tmp} {ty : TypeId} {pos : String} {after : Array Edge} {g : Option (Nat × Bool)} {x y : Operand} (hgd : Region.wanted (⟨dst, .makeSlice 24 x y, ty, pos, after, g⟩ : Oper) (yielded ops a.tmps) = true) (n : Nat) (hx : a.eval x = .int .i64 n) (hy : a.eval y = .int .i64 n) (hn : n ≤ 100000)
   (hk : ∀ b w', MadeAt w w' b (zerosR n) → wpList Tryz.prog ops Q rest (a.put dst (.slice (some ⟨b, 0, none⟩) n n)) w') : wpList Tryz.prog ops Q (⟨dst, .makeSlice 24 x y, ty, pos, after, g⟩ :: rest) a w := by
 refine wpList_want hgd fun K hK => ?_
 have h := run_mkz w n hn
 unfold Oper.wp
 simp [execOp, hx, hy, h, Result.andThen]
 exact hK _ _ (hk _ _ ⟨rfl, made_alloc w _ _⟩)
end Go.Proofs.YtjmibgomkgkhnaaGreat
end

section
/-
 What a ring's return leaves in memory, in plain numbers.
-/
namespace Go.Proofs.Qu
open Go Go.RowKit Go.Proofs.Nm
section
variable {M : List Nat} {base n i id len : Nat} (hn : okN n) (hb : base + sizeN n ≤ M.length)
include hn hb
theorem returnM_room : base + (backN n + (4 + 8 * (i % n))) + 8 ≤ M.length ∧ base + backN n + 2 + 2 ≤ base + (backN n + (4 + 8 * (i % n))) := by
 have h := offer_bnd (i := i) hn
 have h2 := Nat.mod_lt i (show 0 < n by have := hn.le; omega)
 generalize i % n = r at *
 omega
theorem returnM_len : (returnM M base n i id len).length = M.length := by
 have h := returnM_room (i := i) hn hb
 unfold returnM
 generalize base + (backN n + (4 + 8 * (i % n))) = p at *
 have e1 := putN_len (M := M) (p := p) (k := 4) (a := id) (by omega)
 have e2 := putN_len (M := putB M p (leB id 4)) (p := p + 4) (k := 4) (a := len) (by omega)
 rw [putN_len (by omega)]; omega
theorem returnM_idx : getN (returnM M base n i id len) (base + (backN n + 2)) 2 = (i + 1) % 65536 := by
 have h := returnM_room (i := i) hn hb
 unfold returnM
 generalize base + (backN n + (4 + 8 * (i % n))) = p at *
 have e1 := putN_len (M := M) (p := p) (k := 4) (a := id) (by omega)
 have e2 := putN_len (M := putB M p (leB id 4)) (p := p + 4) (k := 4) (a := len) (by omega)
 rw [show base + (backN n + 2) = base + backN n + 2 from by omega, getN_put_same (by decide) (by omega) (show (i + 1) % 65536 < 256 ^ 2 from Nat.mod_lt _ (by decide))]
theorem returnM_id (hi : id < 4294967296) : getN (returnM M base n i id len) (base + (backN n + (4 + 8 * (i % n)))) 4 = id := by
 have h := returnM_room (i := i) hn hb
 unfold returnM
 generalize base + (backN n + (4 + 8 * (i % n))) = p at *
 have e1 := putN_len (M := M) (p := p) (k := 4) (a := id) (by omega)
 have e2 := putN_len (M := putB M p (leB id 4)) (p := p + 4) (k := 4) (a := len) (by omega)
 rw [getN_put_apart (by omega) (by omega), getN_put_apart (by omega) (by omega), getN_put_same (by decide) (by omega) (by simpa using hi)]
theorem returnM_ln (hi : len < 4294967296) : getN (returnM M base n i id len) (base + (backN n + (4 + 8 * (i % n))) + 4) 4 = len := by
 have h := returnM_room (i := i) hn hb
 unfold returnM
 generalize base + (backN n + (4 + 8 * (i % n))) = p at *
 have e1 := putN_len (M := M) (p := p) (k := 4) (a := id) (by omega)
 have e2 := putN_len (M := putB M p (leB id 4)) (p := p + 4) (k := 4) (a := len) (by omega)
 rw [getN_put_apart (by omega) (by omega), getN_put_same (by decide) (by omega) (by simpa using hi)]
end
end Go.Proofs.Qu
end
