import Derived.Test.YtjmibgomkgkhnaaGreatQuRV
import Derived.Test.YtjmibgomkgkhnaaGreatVrMem
set_option linter.unusedSimpArgs false
set_option linter.unusedVariables false
section
/-
 A ring of four and the buffers beside it: what stands still while memory is written elsewhere. No program in sight.
-/
namespace Go.Proofs.Qu
open Go Go.RowKit Go.Proofs.Nm
def Frame (M M' : List Nat) (lo hi : Nat) : Prop := ∀ q m, q + m ≤ lo ∨ hi ≤ q → getB M' q m = getB M q m
theorem frame_put {M D : List Nat} {q : Nat} (h : q + D.length ≤ M.length) : Frame M (putB M q D) q (q + D.length) := fun p m hp => getB_apart h hp
theorem frame_putN {M : List Nat} {q a k : Nat} (h : q + k ≤ M.length) : Frame M (putB M q (leB a k)) q (q + k) := fun p m hp => getB_apart (by rw [leB_len]; exact h) (by rw [leB_len]; exact hp)
theorem Frame.trans {M M' M2 : List Nat} {lo hi lo' hi' : Nat} (h : Frame M M' lo hi) (h' : Frame M' M2 lo' hi') {l u : Nat} (h1 : l ≤ lo) (h2 : l ≤ lo') (h3 : hi ≤ u) (h4 : hi' ≤ u) : Frame M M2 l u := fun p m hp => by
 rw [h' p m (by omega), h p m (by omega)]
theorem Frame.getN {M M' : List Nat} {lo hi q m : Nat} (h : Frame M M' lo hi) (hq : q + m ≤ lo ∨ hi ≤ q) : getN M' q m = getN M q m := by
 unfold Qu.getN
 rw [h q m hq]
theorem Frame.chain {M M' : List Nat} {lo hi mn base n r : Nat} {p : Pt} (h : Frame M M' lo hi) (hq : base + 16 * r + 16 ≤ lo ∨ hi ≤ base + 16 * r) (hc : ChainAt mn M base n r [p]) : ChainAt mn M' base n r [p] := by
 obtain ⟨h1, f, x, hd, h2⟩ := hc
 refine ⟨h1, f, x, ?_, h2.1, h2.2.1, h2.2.2.1, h2.2.2.2.1, fun hne => absurd rfl hne⟩
 unfold DescAt at *
 rw [h.getN (by omega), h.getN (by omega), h.getN (by omega), h.getN (by omega)]
 exact hd
theorem frame_setD {M : List Nat} {p a l f x : Nat} (h : p + 16 ≤ M.length) : Frame M (setD M p a l f x) p (p + 16) := by
 have e1 := putN_len (M := M) (p := p) (k := 8) (a := a) (by omega)
 have e2 := putN_len (M := putB M p (leB a 8)) (p := p + 8) (k := 4) (a := l) (by omega)
 have e3 := putN_len (M := putB (putB M p (leB a 8)) (p + 8) (leB l 4)) (p := p + 8 + 4) (k := 2) (a := f) (by omega)
 unfold setD
 have f1 := frame_putN (M := M) (q := p) (a := a) (k := 8) (by omega)
 have f2 := frame_putN (M := putB M p (leB a 8)) (q := p + 8) (a := l) (k := 4) (by omega)
 have f3 := frame_putN (M := putB (putB M p (leB a 8)) (p + 8) (leB l 4)) (q := p + 8 + 4) (a := f) (k := 2) (by omega)
 have f4 := frame_putN (M := putB (putB (putB M p (leB a 8)) (p + 8) (leB l 4)) (p + 8 + 4) (leB f 2)) (q := p + 8 + 4 + 2) (a := x) (k := 2) (by omega)
 exact ((f1.trans f2 (l := p) (u := p + 16) (by omega) (by omega) (by omega) (by omega)).trans f3 (l := p) (u := p + 16) (by omega) (by omega) (by omega) (by omega)).trans f4 (by omega) (by omega) (by omega) (by omega)
theorem backN4 : backN 4 = 76 := rfl
theorem sizeN4 : sizeN 4 = 112 := rfl
theorem ret_frame {M : List Nat} {base i id len : Nat} (h : base + 112 ≤ M.length) : Frame M (returnM M base 4 i id len) (base + 76) (base + 112) := by
 have h2 := Nat.mod_lt i (show 0 < 4 by decide)
 unfold returnM
 rw [backN4]
 generalize i % 4 = r at *
 obtain ⟨p, hp⟩ : ∃ p, base + (76 + (4 + 8 * r)) = p := ⟨_, rfl⟩
 rw [hp]
 have e1 := putN_len (M := M) (p := p) (k := 4) (a := id) (by omega)
 have e2 := putN_len (M := putB M p (leB id 4)) (p := p + 4) (k := 4) (a := len) (by omega)
 have f1 := frame_putN (M := M) (q := p) (a := id) (k := 4) (by omega)
 have f2 := frame_putN (M := putB M p (leB id 4)) (q := p + 4) (a := len) (k := 4) (by omega)
 have f3 := frame_putN (M := putB (putB M p (leB id 4)) (p + 4) (leB len 4)) (q := base + 76 + 2) (a := (i + 1) % 65536) (k := 2) (by omega)
 exact (f1.trans f2 (l := base + 76) (u := base + 112) (by omega) (by omega) (by omega) (by omega)).trans f3 (by omega) (by omega) (by omega) (by omega)
theorem ret_other {M : List Nat} {base i id len s : Nat} (h : base + 112 ≤ M.length) (hs : s < 4) (hne : i % 4 ≠ s) {k : Nat} (hk : k = 0 ∨ k = 4) : getN (returnM M base 4 i id len) (base + (backN 4 + (4 + 8 * s)) + k) 4 = getN M (base + (backN 4 + (4 + 8 * s)) + k) 4 := by
 have h2 := Nat.mod_lt i (show 0 < 4 by decide)
 unfold returnM
 rw [backN4]
 generalize i % 4 = r at *
 have e1 := putN_len (M := M) (p := base + (76 + (4 + 8 * r))) (k := 4) (a := id) (by omega)
 have e2 := putN_len (M := putB M (base + (76 + (4 + 8 * r))) (leB id 4)) (p := base + (76 + (4 + 8 * r)) + 4) (k := 4) (a := len) (by omega)
 rw [getN_put_apart (by omega) (by omega), getN_put_apart (by omega) (by omega), getN_put_apart (by omega) (by omega)]
section
variable {mn : Nat} {M : List Nat} {base av : Nat} {free : List Nat} {p : Pt} (h : AddOk mn M base 4 free [p])
include h
theorem add1_eq : ∃ a l f x, addM M base 4 av free [p] = putB (putB (setD M (base + 16 * free.getD 0 0) a l f x) (base + (16 * 4 + (4 + 2 * (av % 4)))) (leB (free.getD 0 0) 2)) (base + 16 * 4 + 2) (leB ((av + 1) % 65536) 2) := by
 have e := h.hd.1
 refine ⟨p.1, p.2.1, flP 1 0 p.2.2, nxP (free.take 1) 0, ?_⟩
 have e1 : (free.take 1).length = 1 := by have h2 := h.le; rw [List.length_take]; simp at h2; omega
 unfold addM offerM
 show putB (putB (setD M (base + 16 * (free.take 1).getD 0 0) (ptD [p] 0).1 (ptD [p] 0).2.1 (flP (free.take 1).length 0 (ptD [p] 0).2.2) (nxP (free.take 1) 0)) _ _) _ _ = _
 rw [show (free.take 1).getD 0 0 = free.getD 0 0 from e, e1]
 rfl
theorem add_room : base + 112 ≤ M.length := h.room
theorem add_frame : Frame M (addM M base 4 av free [p]) base (base + 76) := by
 obtain ⟨a, l, f, x, e⟩ := add1_eq (av := av) h
 have h0 := h.hd.2
 have h1 := add_room h
 have h2 := Nat.mod_lt av (show 0 < 4 by decide)
 rw [e]
 generalize av % 4 = r at *
 generalize free.getD 0 0 = d at *
 have f1 := frame_setD (M := M) (p := base + 16 * d) (a := a) (l := l) (f := f) (x := x) (by omega)
 have l1 := setD_len (M := M) (p := base + 16 * d) (a := a) (l := l) (f := f) (x := x) (by omega)
 have f2 := frame_putN (M := setD M (base + 16 * d) a l f x) (q := base + (16 * 4 + (4 + 2 * r))) (a := d) (k := 2) (by omega)
 have l2 := putN_len (M := setD M (base + 16 * d) a l f x) (p := base + (16 * 4 + (4 + 2 * r))) (k := 2) (a := d) (by omega)
 have f3 := frame_putN (M := putB (setD M (base + 16 * d) a l f x) (base + (16 * 4 + (4 + 2 * r))) (leB d 2)) (q := base + 16 * 4 + 2) (a := (av + 1) % 65536) (k := 2) (by omega)
 exact (f1.trans f2 (l := base) (u := base + 76) (by omega) (by omega) (by omega) (by omega)).trans f3 (by omega) (by omega) (by omega) (by omega)
theorem add_desc {r : Nat} {q : Pt} (hr : r ≠ free.getD 0 0) (hc : ChainAt mn M base 4 r [q]) : ChainAt mn (addM M base 4 av free [p]) base 4 r [q] := by
 obtain ⟨a, l, f, x, e⟩ := add1_eq (av := av) h
 have h0 := h.hd.2
 have h1 := add_room h
 have hr4 := hc.1
 have h2 := Nat.mod_lt av (show 0 < 4 by decide)
 rw [e]
 generalize av % 4 = s at *
 generalize free.getD 0 0 = d at *
 have f1 := frame_setD (M := M) (p := base + 16 * d) (a := a) (l := l) (f := f) (x := x) (by omega)
 have l1 := setD_len (M := M) (p := base + 16 * d) (a := a) (l := l) (f := f) (x := x) (by omega)
 have f2 := frame_putN (M := setD M (base + 16 * d) a l f x) (q := base + (16 * 4 + (4 + 2 * s))) (a := d) (k := 2) (by omega)
 have l2 := putN_len (M := setD M (base + 16 * d) a l f x) (p := base + (16 * 4 + (4 + 2 * s))) (k := 2) (a := d) (by omega)
 have f3 := frame_putN (M := putB (setD M (base + 16 * d) a l f x) (base + (16 * 4 + (4 + 2 * s))) (leB d 2)) (q := base + 16 * 4 + 2) (a := (av + 1) % 65536) (k := 2) (by omega)
 exact f3.chain (by omega) (f2.chain (by omega) (f1.chain (by omega) hc))
theorem add_slot {s : Nat} (hs : s < 4) (hne : av % 4 ≠ s) : getN (addM M base 4 av free [p]) (base + (16 * 4 + (4 + 2 * s))) 2 = getN M (base + (16 * 4 + (4 + 2 * s))) 2 := by
 obtain ⟨a, l, f, x, e⟩ := add1_eq (av := av) h
 have h0 := h.hd.2
 have h1 := add_room h
 have h2 := Nat.mod_lt av (show 0 < 4 by decide)
 rw [e]
 generalize av % 4 = r at *
 generalize free.getD 0 0 = d at *
 have f1 := frame_setD (M := M) (p := base + 16 * d) (a := a) (l := l) (f := f) (x := x) (by omega)
 have l1 := setD_len (M := M) (p := base + 16 * d) (a := a) (l := l) (f := f) (x := x) (by omega)
 have f2 := frame_putN (M := setD M (base + 16 * d) a l f x) (q := base + (16 * 4 + (4 + 2 * r))) (a := d) (k := 2) (by omega)
 have l2 := putN_len (M := setD M (base + 16 * d) a l f x) (p := base + (16 * 4 + (4 + 2 * r))) (k := 2) (a := d) (by omega)
 have f3 := frame_putN (M := putB (setD M (base + 16 * d) a l f x) (base + (16 * 4 + (4 + 2 * r))) (leB d 2)) (q := base + 16 * 4 + 2) (a := (av + 1) % 65536) (k := 2) (by omega)
 rw [f3.getN (by omega), f2.getN (by omega), f1.getN (by omega)]
end
end Go.Proofs.Qu
end

section
/-
 A card behind two rings: what stands in memory while frames come and go. No program in sight.
-/
namespace Go.Proofs.Qu
open Go Go.RowKit Go.Proofs.Nm
structure MRx (M : List Nat) (a j k : Nat) (D : Nat → List Nat) : Prop where
 len : M.length = 1900
 ai : getN M (0 + (16 * 4 + 2)) 2 = a + 4 + j
 ui : getN M (0 + (backN 4 + 2)) 2 = a + k
 sl : ∀ s, s < 4 → getN M (0 + (16 * 4 + (4 + 2 * s))) 2 = s
 ch : ∀ r, r < 4 → ChainAt 1900 M 0 4 r [(300 + 192 * r, 192, true)]
 id : ∀ i, j ≤ i → i < k → getN M (0 + (backN 4 + (4 + 8 * ((a + i) % 4)))) 4 = (a + i) % 4 ∧ getN M (0 + (backN 4 + (4 + 8 * ((a + i) % 4))) + 4) 4 = (D i).length ∧ getB M (300 + 192 * ((a + i) % 4)) (D i).length = D i
structure MTx (M : List Nat) (a f k : Nat) (D : Nat → List Nat) : Prop where
 len : M.length = 1900
 ai : getN M (120 + (16 * 4 + 2)) 2 = a + k
 ui : getN M (120 + (backN 4 + 2)) 2 = a + f
 pd : ∀ i, f ≤ i → i < k → getN M (120 + (16 * 4 + (4 + 2 * ((a + i) % 4)))) 2 = i ∧ ChainAt 1900 M 120 4 i [(1068 + 192 * i, (D i).length, false)] ∧ getB M (1068 + 192 * i) (D i).length = D i
theorem MRx.keep {M M' : List Nat} {a j k lo hi : Nat} {D : Nat → List Nat} (h : MRx M a j k D) (hf : Frame M M' lo hi) (hl : M'.length = M.length) (hq : 112 ≤ lo ∧ hi ≤ 300 ∨ 1068 ≤ lo) (hD : ∀ i, j ≤ i → i < k → (D i).length ≤ 192) : MRx M' a j k D := by
 refine ⟨by rw [hl]; exact h.len, ?_, ?_, fun s hs => ?_, fun r hr => ?_, fun i h1 h2 => ?_⟩
 · rw [hf.getN (by omega)]; exact h.ai
 · rw [hf.getN (by rw [backN4]; omega)]; exact h.ui
 · rw [hf.getN (by omega)]; exact h.sl s hs
 · exact hf.chain (by omega) (h.ch r hr)
 · obtain ⟨g1, g2, g3⟩ := h.id i h1 h2
   have h3 := hD i h1 h2
   have hm := Nat.mod_lt (a + i) (show 0 < 4 by decide)
   generalize (a + i) % 4 = r at *
   rw [hf.getN (by rw [backN4]; omega), hf.getN (by rw [backN4]; omega), hf _ _ (by omega)]
   exact ⟨g1, g2, g3⟩
theorem MTx.keep {M M' : List Nat} {a f k lo hi : Nat} {D : Nat → List Nat} (h : MTx M a f k D) (hf : Frame M M' lo hi) (hl : M'.length = M.length) (hq : hi ≤ 120 ∨ 232 ≤ lo ∧ hi ≤ 1068) (hk : k ≤ 4) : MTx M' a f k D := by
 refine ⟨by rw [hl]; exact h.len, ?_, ?_, fun i h1 h2 => ?_⟩
 · rw [hf.getN (by omega)]; exact h.ai
 · rw [hf.getN (by rw [backN4]; omega)]; exact h.ui
 · obtain ⟨g1, g2, g3⟩ := h.pd i h1 h2
   have hm := Nat.mod_lt (a + i) (show 0 < 4 by decide)
   generalize (a + i) % 4 = r at *
   rw [hf.getN (by omega), hf _ _ (by omega)]
   exact ⟨g1, hf.chain (by omega) g2, g3⟩
theorem MRx.bring {M : List Nat} {a j k h : Nat} {D : Nat → List Nat} (H : MRx M a j k D) (hjk : j ≤ k) (hk : k < 4 + j) (hh : (a + k) % 4 = h) (hD : ∀ i, j ≤ i → i ≤ k → (D i).length ≤ 192) (ha : a + k < 60000) :
   MRx (returnM (putB M (300 + 192 * h) (D k)) 0 4 (a + k) h (D k).length) a j (k + 1) D := by
 have hm := Nat.mod_lt (a + k) (show 0 < 4 by decide)
 have hDk := hD k hjk (Nat.le_refl _)
 have hl0 := H.len
 have hl := putB_len (M := M) (D := D k) (p := 300 + 192 * h) (by omega)
 have f1 := frame_put (M := M) (D := D k) (q := 300 + 192 * h) (by omega)
 have f2 := ret_frame (M := putB M (300 + 192 * h) (D k)) (base := 0) (i := a + k) (id := h) (len := (D k).length) (by omega)
 have hl2 := returnM_len (M := putB M (300 + 192 * h) (D k)) (base := 0) (n := 4) (i := a + k) (id := h) (len := (D k).length) ok4 (by rw [sizeN4]; omega)
 refine ⟨by omega, ?_, ?_, fun s hs => ?_, fun r hr => ?_, fun i h1 h2 => ?_⟩
 · rw [f2.getN (by omega), f1.getN (by omega)]; exact H.ai
 · rw [returnM_idx ok4 (by rw [sizeN4]; omega)]; omega
 · rw [f2.getN (by omega), f1.getN (by omega)]; exact H.sl s hs
 · exact f2.chain (by omega) (f1.chain (by omega) (H.ch r hr))
 · rcases Nat.lt_or_ge i k with h3 | h3
   · obtain ⟨g1, g2, g3⟩ := H.id i h1 h3
     have hne : (a + k) % 4 ≠ (a + i) % 4 := by omega
     have hmi := Nat.mod_lt (a + i) (show 0 < 4 by decide)
     have hDi := hD i h1 (by omega)
     have e1 := ret_other (M := putB M (300 + 192 * h) (D k)) (base := 0) (i := a + k) (id := h) (len := (D k).length) (s := (a + i) % 4) (by omega) hmi hne (k := 0) (.inl rfl)
     have e2 := ret_other (M := putB M (300 + 192 * h) (D k)) (base := 0) (i := a + k) (id := h) (len := (D k).length) (s := (a + i) % 4) (by omega) hmi hne (k := 4) (.inr rfl)
     rw [Nat.add_zero] at e1
     rw [hh] at hne
     generalize (a + i) % 4 = r at *
     rw [e1, e2, f2 _ _ (by omega), f1.getN (by rw [backN4]; omega), f1.getN (by rw [backN4]; omega), f1 _ _ (by omega)]
     exact ⟨g1, g2, g3⟩
   · obtain rfl : i = k := by omega
     have e1 := returnM_id (M := putB M (300 + 192 * h) (D i)) (base := 0) (n := 4) (i := a + i) (id := h) (len := (D i).length) ok4 (by rw [sizeN4]; omega) (by omega)
     have e2 := returnM_ln (M := putB M (300 + 192 * h) (D i)) (base := 0) (n := 4) (i := a + i) (id := h) (len := (D i).length) ok4 (by rw [sizeN4]; omega) (by omega)
     rw [e1, e2, hh, f2 _ _ (by omega), getB_put_same rfl (by omega)]
     exact ⟨rfl, rfl, rfl⟩
theorem MRx.take {M : List Nat} {a j k h av : Nat} {D : Nat → List Nat} (H : MRx M a j k D) (hh : (a + j) % 4 = h) (hav : av = a + 4 + j) (hD : ∀ i, j ≤ i → i < k → (D i).length ≤ 192) (ha : a + j < 60000) :
   MRx (addM M 0 4 av [h] [(300 + 192 * h, 192, true)]) a (j + 1) k D := by
 have hm := Nat.mod_lt (a + j) (show 0 < 4 by decide)
 have hl0 := H.len
 have hA : AddOk 1900 M 0 4 [h] [(300 + 192 * h, 192, true)] := ⟨ok4, by rw [sizeN4]; omega, (by simp), fun d hd => by rw [List.mem_singleton.1 hd]; omega, Nat.zero_lt_one, Nat.le_refl _, fun p hp => by
   rw [List.mem_singleton.1 hp]; show 0 < 192 ∧ 300 + 192 * h + 192 ≤ 1900; omega, by decide⟩
 have hl := addM_len (av := av) hA
 have f1 := add_frame (av := av) hA
 have hav4 : av % 4 = h := by omega
 refine ⟨by omega, ?_, ?_, fun s hs => ?_, fun r hr => ?_, fun i h1 h2 => ?_⟩
 · rw [addM_idx hA]; omega
 · rw [f1.getN (by rw [backN4]; omega)]; exact H.ui
 · by_cases hsh : h = s
   · have := addM_at (av := av) hA
     rw [hav4] at this
     rw [← hsh, this]; rfl
   · rw [add_slot hA hs (by omega)]; exact H.sl s hs
 · by_cases hrh : r = h
   · rw [hrh]; exact addM_chain hA
   · exact add_desc hA hrh (H.ch r hr)
 · obtain ⟨g1, g2, g3⟩ := H.id i (by omega) h2
   have hDi := hD i (by omega) h2
   have hmi := Nat.mod_lt (a + i) (show 0 < 4 by decide)
   generalize (a + i) % 4 = r at *
   rw [f1.getN (by rw [backN4]; omega), f1.getN (by rw [backN4]; omega), f1 _ _ (by omega)]
   exact ⟨g1, g2, g3⟩
theorem bring_tx {M D : List Nat} {a f k h i id len : Nat} {E : Nat → List Nat} (H : MTx M a f k E) (hk : k ≤ 4) (hh : h < 4) (hD : D.length ≤ 192) : MTx (returnM (putB M (300 + 192 * h) D) 0 4 i id len) a f k E := by
 have hl0 := H.len
 have hl := putB_len (M := M) (D := D) (p := 300 + 192 * h) (by omega)
 have f1 := frame_put (M := M) (D := D) (q := 300 + 192 * h) (by omega)
 have f2 := ret_frame (M := putB M (300 + 192 * h) D) (base := 0) (i := i) (id := id) (len := len) (by omega)
 have hl2 := returnM_len (M := putB M (300 + 192 * h) D) (base := 0) (n := 4) (i := i) (id := id) (len := len) ok4 (by rw [sizeN4]; omega)
 exact (H.keep f1 hl (by omega) hk).keep f2 hl2 (by omega) hk
theorem take_tx {M : List Nat} {a f k h av : Nat} {E : Nat → List Nat} (H : MTx M a f k E) (hk : k ≤ 4) (hh : h < 4) : MTx (addM M 0 4 av [h] [(300 + 192 * h, 192, true)]) a f k E := by
 have hl0 := H.len
 have hA : AddOk 1900 M 0 4 [h] [(300 + 192 * h, 192, true)] := ⟨ok4, by rw [sizeN4]; omega, (by simp), fun d hd => by rw [List.mem_singleton.1 hd]; omega, Nat.zero_lt_one, Nat.le_refl _, fun p hp => by
   rw [List.mem_singleton.1 hp]; show 0 < 192 ∧ 300 + 192 * h + 192 ≤ 1900; omega, by decide⟩
 exact H.keep (add_frame (av := av) hA) (addM_len (av := av) hA) (by omega) hk
theorem AddTx {M : List Nat} {free : List Nat} {p : Pt} (hl : M.length = 1900) (hnd : free.Nodup) (hlt : ∀ d ∈ free, d < 4) (h1 : 1 ≤ free.length) (hp : 0 < p.2.1 ∧ p.1 + p.2.1 ≤ 1900) : AddOk 1900 M 120 4 free [p] :=
 ⟨ok4, by rw [sizeN4]; omega, hnd, hlt, Nat.zero_lt_one, h1, fun q hq => by rw [List.mem_singleton.1 hq]; exact hp, by decide⟩
theorem MTx.send {M : List Nat} {a f k av : Nat} {free : List Nat} {D : Nat → List Nat} (H : MTx M a f k D) (hfk : f ≤ k) (hk : k < 4) (hav : av = a + k) (hnd : free.Nodup) (hlt : ∀ d ∈ free, d < 4) (h1 : 1 ≤ free.length) (hh : free.getD 0 0 = k) (hD : ∀ i, f ≤ i → i ≤ k → 0 < (D i).length ∧ (D i).length ≤ 192) (ha : a + k < 60000) :
   MTx (addM (putB M (1068 + 192 * k) (D k)) 120 4 av free [(1068 + 192 * k, (D k).length, false)]) a f (k + 1) D := by
 have hDk := hD k hfk (Nat.le_refl _)
 have hl0 := H.len
 have hl := putB_len (M := M) (D := D k) (p := 1068 + 192 * k) (by omega)
 have f1 := frame_put (M := M) (D := D k) (q := 1068 + 192 * k) (by omega)
 have hA := AddTx (M := putB M (1068 + 192 * k) (D k)) (free := free) (p := (1068 + 192 * k, (D k).length, false)) (by omega) hnd hlt h1 ⟨hDk.1, by show 1068 + 192 * k + (D k).length ≤ 1900; omega⟩
 have hl2 := addM_len (av := av) hA
 have f2 := add_frame (av := av) hA
 refine ⟨by omega, ?_, ?_, fun i g1 g2 => ?_⟩
 · rw [addM_idx hA]; omega
 · rw [f2.getN (by rw [backN4]; omega), f1.getN (by rw [backN4]; omega)]; exact H.ui
 · rcases Nat.lt_or_ge i k with h3 | h3
   · obtain ⟨g4, g5, g6⟩ := H.pd i g1 h3
     have hDi := hD i g1 (by omega)
     have hmi := Nat.mod_lt (a + i) (show 0 < 4 by decide)
     rw [add_slot hA hmi (by omega)]
     generalize (a + i) % 4 = r at *
     refine ⟨?_, add_desc hA (by rw [hh]; omega) (f1.chain (by omega) g5), ?_⟩
     · rw [f1.getN (by omega)]; exact g4
     · rw [f2 _ _ (by omega), f1 _ _ (by omega)]; exact g6
   · obtain rfl : i = k := by omega
     have e1 := addM_at (av := av) hA
     have e2 := addM_chain (av := av) hA
     rw [hh] at e1 e2
     rw [show (a + i) % 4 = av % 4 from by rw [hav], e1, f2 _ _ (by omega), getB_put_same rfl (by omega)]
     exact ⟨rfl, e2, rfl⟩
theorem send_rx {M D : List Nat} {a j k t av : Nat} {free : List Nat} {E : Nat → List Nat} (H : MRx M a j k E) (hE : ∀ i, j ≤ i → i < k → (E i).length ≤ 192) (ht : t < 4) (hD : 0 < D.length ∧ D.length ≤ 192) (hnd : free.Nodup) (hlt : ∀ d ∈ free, d < 4) (h1 : 1 ≤ free.length) :
   MRx (addM (putB M (1068 + 192 * t) D) 120 4 av free [(1068 + 192 * t, D.length, false)]) a j k E := by
 have hl0 := H.len
 have hl := putB_len (M := M) (D := D) (p := 1068 + 192 * t) (by omega)
 have f1 := frame_put (M := M) (D := D) (q := 1068 + 192 * t) (by omega)
 have hA := AddTx (M := putB M (1068 + 192 * t) D) (free := free) (p := (1068 + 192 * t, D.length, false)) (by omega) hnd hlt h1 ⟨hD.1, by show 1068 + 192 * t + D.length ≤ 1900; omega⟩
 exact (H.keep f1 hl (by omega) hE).keep (add_frame (av := av) hA) (addM_len (av := av) hA) (by omega) hE
theorem MTx.fetch {M : List Nat} {a f k us : Nat} {D : Nat → List Nat} (H : MTx M a f k D) (hf : f < k) (hk : k ≤ 4) (hus : us = a + f) (hD : ∀ i, f ≤ i → i < k → (D i).length ≤ 192) (ha : a + k < 60000) :
   MTx (returnM M 120 4 us f 0) a (f + 1) k D ∧ getN (returnM M 120 4 us f 0) (120 + (backN 4 + (4 + 8 * ((a + f) % 4)))) 4 = f ∧ getN (returnM M 120 4 us f 0) (120 + (backN 4 + (4 + 8 * ((a + f) % 4))) + 4) 4 = 0 := by
 have hl0 := H.len
 have f2 := ret_frame (M := M) (base := 120) (i := us) (id := f) (len := 0) (by omega)
 have hl2 := returnM_len (M := M) (base := 120) (n := 4) (i := us) (id := f) (len := 0) ok4 (by rw [sizeN4]; omega)
 refine ⟨⟨by omega, ?_, ?_, fun i g1 g2 => ?_⟩, ?_, ?_⟩
 · rw [f2.getN (by omega)]; exact H.ai
 · rw [returnM_idx ok4 (by rw [sizeN4]; omega)]; omega
 · obtain ⟨g4, g5, g6⟩ := H.pd i (by omega) g2
   have hDi := hD i (by omega) g2
   have hmi := Nat.mod_lt (a + i) (show 0 < 4 by decide)
   generalize (a + i) % 4 = r at *
   rw [f2.getN (by omega), f2 _ _ (by omega)]
   exact ⟨g4, f2.chain (by omega) g5, g6⟩
 · rw [← hus]; exact returnM_id ok4 (by rw [sizeN4]; omega) (by omega)
 · rw [← hus]; exact returnM_ln ok4 (by rw [sizeN4]; omega) (by omega)
theorem fetch_rx {M : List Nat} {a j k us f : Nat} {E : Nat → List Nat} (H : MRx M a j k E) (hE : ∀ i, j ≤ i → i < k → (E i).length ≤ 192) : MRx (returnM M 120 4 us f 0) a j k E := by
 have hl0 := H.len
 have f2 := ret_frame (M := M) (base := 120) (i := us) (id := f) (len := 0) (by omega)
 have hl2 := returnM_len (M := M) (base := 120) (n := 4) (i := us) (id := f) (len := 0) ok4 (by rw [sizeN4]; omega)
 exact H.keep f2 hl2 (by omega) hE
theorem MRx.next {M : List Nat} {a m : Nat} {D E : Nat → List Nat} (H : MRx M a m m D) : MRx M (a + m) 0 0 E := ⟨H.len, by rw [H.ai]; omega, by rw [H.ui]; omega, H.sl, H.ch, fun i _ h => by omega⟩
theorem MTx.next {M : List Nat} {a m : Nat} {D E : Nat → List Nat} (H : MTx M a m m D) : MTx M (a + m) 0 0 E := ⟨H.len, by rw [H.ai]; omega, by rw [H.ui]; omega, fun i _ h => by omega⟩
theorem MRx.any {M : List Nat} {a m : Nat} {D E : Nat → List Nat} (H : MRx M a m m D) : MRx M a m m E := ⟨H.len, H.ai, H.ui, H.sl, H.ch, fun i h h' => by omega⟩
theorem MTx.any {M : List Nat} {a m : Nat} {D E : Nat → List Nat} (H : MTx M a m m D) : MTx M a m m E := ⟨H.len, H.ai, H.ui, fun i h h' => by omega⟩
end Go.Proofs.Qu
end
