/-
  The reference's Take: its two arrays, in plain words.
-/
import Derived.Test.YtpbeemgigpaacaaWiHead
import Derived.Test.YtpbeemgigpaacaaAnyD
set_option linter.unusedVariables false
set_option linter.unusedSimpArgs false
namespace Go.Proofs.Wi
open Go Go.RowKit
/-- have, b: what stands at each place. -/
def rowH (g : List (Option Nat)) : Array Value := (g.map fun o => Value.bool o.isSome).toArray
def rowB (g : List (Option Nat)) : Array Value := (g.map fun o => Value.int .u8 ((o.getD 0 : Nat) : Int)).toArray
theorem rowH_set (g : List (Option Nat)) (i v : Nat) : (rowH g).setIfInBounds i (.bool true) = rowH (g.set i (some v)) := by
  unfold rowH
  rw [List.setIfInBounds_toArray, List.map_set]; rfl
theorem rowB_set (g : List (Option Nat)) (i v : Nat) : (rowB g).setIfInBounds i (.int .u8 (v : Nat)) = rowB (g.set i (some v)) := by
  unfold rowB
  rw [List.setIfInBounds_toArray, List.map_set]; rfl
theorem rowH_size (g : List (Option Nat)) : (rowH g).size = g.length := by simp [rowH]
theorem rowB_size (g : List (Option Nat)) : (rowB g).size = g.length := by simp [rowB]
theorem rowH_get (g : List (Option Nat)) {i : Nat} {o : Option Nat} (h : g[i]? = some o) : (rowH g)[i]? = some (.bool o.isSome) := by
  unfold rowH
  rw [List.getElem?_toArray, List.getElem?_map, h]; rfl
theorem rowB_get (g : List (Option Nat)) {i v : Nat} (h : g[i]? = some (some v)) : (rowB g)[i]? = some (.int .u8 (v : Nat)) := by
  unfold rowB
  rw [List.getElem?_toArray, List.getElem?_map, h]; rfl
/-- g holds what f says, at each of its 256 places. -/
def Holds (g : List (Option Nat)) (f : Nat → Option Nat) : Prop := g.length = 256 ∧ ∀ j, j < 256 → g[j]? = some (f j)
theorem Holds.start : Holds (List.replicate 256 none) (fun _ => none) := ⟨List.length_replicate, fun j hj => by rw [List.getElem?_replicate, if_pos hj]⟩
theorem Holds.congr {g : List (Option Nat)} {f f' : Nat → Option Nat} (h : Holds g f) (he : ∀ j, j < 256 → f j = f' j) : Holds g f' := ⟨h.1, fun j hj => by rw [h.2 j hj, he j hj]⟩
theorem Holds.set {g : List (Option Nat)} {f : Nat → Option Nat} (h : Holds g f) (i v : Nat) : Holds (g.set i (some v)) (fun j => if j = i then some v else f j) := by
  refine ⟨by rw [List.length_set]; exact h.1, fun j hj => ?_⟩
  show (g.set i (some v))[j]? = some (if j = i then some v else f j)
  rw [List.getElem?_set]
  by_cases hji : j = i
  · subst hji
    rw [if_pos rfl, if_pos (by rw [h.1]; exact hj), if_pos rfl]
  · rw [if_neg (fun e => hji e.symm), if_neg hji, h.2 j hj]
/-- Inside a piece: its first k bytes are there. -/
def inP (f : Nat → Option Nat) (fr k : Nat) (d : List Nat) (j : Nat) : Option Nat := if fr ≤ j ∧ j < fr + k then d[j - fr]? else f j
theorem inP_zero (f : Nat → Option Nat) (fr : Nat) (d : List Nat) (j : Nat) : inP f fr 0 d j = f j := if_neg (by omega)
theorem inP_step (f : Nat → Option Nat) (fr k : Nat) (d : List Nat) {v : Nat} (hv : d[k]? = some v) (j : Nat) : (if j = fr + k then some v else inP f fr k d j) = inP f fr (k + 1) d j := by
  unfold inP
  by_cases h : j = fr + k
  · subst h
    rw [if_pos rfl, if_pos (by omega), show fr + k - fr = k from by omega, hv]
  · rw [if_neg h]
    by_cases h1 : fr ≤ j ∧ j < fr + k
    · rw [if_pos h1, if_pos (by omega)]
    · rw [if_neg h1, if_neg (by omega)]
theorem inP_all {l : List Sp} {x : Sp} (hd : (l ++ [x]).Pairwise dis) {fr : Nat} (hfr : x.1 = (fr : Int)) (j : Nat) : inP (cont l) fr x.2.length x.2 j = cont (l ++ [x]) j := by
  rw [cont_append]
  unfold inP
  have hc : cov x j ↔ fr ≤ j ∧ j < fr + x.2.length := by unfold cov; omega
  have hone : cont [x] j = if cov x j then x.2[((j : Int) - x.1).toNat]? else none := rfl
  by_cases h : fr ≤ j ∧ j < fr + x.2.length
  · rw [if_pos h, cont_none (fun y hy hy2 => not_both ((List.pairwise_append.1 hd).2.2 y hy x (List.mem_singleton.2 rfl)) hy2 (hc.2 h)), Option.none_or, hone, if_pos (hc.2 h)]
    congr 1
    omega
  · rw [if_neg h, hone, if_neg (fun g => h (hc.1 g)), Option.or_none]
/-- Of the part that came, the first k bytes. -/
def inD (f : Nat → Option Nat) (r dd : Int) (k : Nat) (d : List Nat) (j : Nat) : Option Nat := (f j).or (if (j : Int) < r ∧ dd ≤ j ∧ (j : Int) < dd + k then d[((j : Int) - dd).toNat]? else none)
theorem inD_zero (f : Nat → Option Nat) (r dd : Int) (d : List Nat) (j : Nat) : inD f r dd 0 d j = f j := by
  unfold inD
  rw [if_neg (by omega), Option.or_none]
theorem inD_skip (f : Nat → Option Nat) (r dd : Int) (k : Nat) (d : List Nat) (h : dd + k < 0 ∨ r ≤ dd + k) (j : Nat) : inD f r dd k d j = inD f r dd (k + 1) d j := by
  unfold inD
  have : ((j : Int) < r ∧ dd ≤ j ∧ (j : Int) < dd + k) ↔ ((j : Int) < r ∧ dd ≤ j ∧ (j : Int) < dd + ((k + 1 : Nat) : Int)) := by omega
  simp only [this]
theorem inD_had (f : Nat → Option Nat) (r dd : Int) (k a : Nat) (d : List Nat) (ha : dd + k = (a : Int)) (hh : (inD f r dd k d a).isSome = true) (j : Nat) : inD f r dd k d j = inD f r dd (k + 1) d j := by
  by_cases hj : j = a
  · subst hj
    unfold inD at hh ⊢
    rw [if_neg (by omega), Option.or_none] at hh
    obtain ⟨v, hv⟩ := Option.isSome_iff_exists.1 hh
    rw [hv]; rfl
  · unfold inD
    have : ((j : Int) < r ∧ dd ≤ j ∧ (j : Int) < dd + k) ↔ ((j : Int) < r ∧ dd ≤ j ∧ (j : Int) < dd + ((k + 1 : Nat) : Int)) := by omega
    simp only [this]
theorem inD_new (f : Nat → Option Nat) (r dd : Int) (k a v : Nat) (d : List Nat) (ha : dd + k = (a : Int)) (har : (a : Int) < r) (hv : d[k]? = some v) (hh : inD f r dd k d a = none) (j : Nat) : (if j = a then some v else inD f r dd k d j) = inD f r dd (k + 1) d j := by
  by_cases hj : j = a
  · subst hj
    rw [if_pos rfl]
    unfold inD at hh ⊢
    rw [if_neg (by omega), Option.or_none] at hh
    rw [hh, if_pos (by omega), show ((j : Int) - dd).toNat = k from by omega, hv]; rfl
  · rw [if_neg hj]
    unfold inD
    have : ((j : Int) < r ∧ dd ≤ j ∧ (j : Int) < dd + k) ↔ ((j : Int) < r ∧ dd ≤ j ∧ (j : Int) < dd + ((k + 1 : Nat) : Int)) := by omega
    simp only [this]
theorem inD_all {s : St} (hc : chk s = true) {seq : Nat} {data : List Nat} (hd : data.length ≤ 4096) (j : Nat) : inD (cont (spans s)) (room s) (dif seq s.next) data.length data j = gF s seq data j := by
  unfold gF inD part
  rw [List.take_of_length_le hd]
  have hcv : cov (dif seq s.next, data) j ↔ dif seq s.next ≤ j ∧ (j : Int) < dif seq s.next + data.length := Iff.rfl
  by_cases hj : (j : Int) < room s
  · rw [if_pos hj]
    by_cases h : cov (dif seq s.next, data) j
    · rw [if_pos h, if_pos ⟨hj, (hcv.1 h).1, (hcv.1 h).2⟩]
    · rw [if_neg h, if_neg (fun g => h (hcv.2 ⟨g.2.1, g.2.2⟩))]
  · rw [if_neg hj, if_neg (fun g => hj g.1), Option.or_none]
    exact cont_none fun x hx hcx => by
      have := (chk_spans hc).2.1 x hx
      unfold cov at hcx
      omega
/-- The bytes at the first n places. -/
def valsB (g : List (Option Nat)) (n : Nat) : List Nat := (g.take n).map fun o => o.getD 0
theorem valsB_get {g : List (Option Nat)} {f : Nat → Option Nat} (h : Holds g f) {n : Nat} (hn : n ≤ 256) (hs : ∀ j, j < n → (f j).isSome = true) : (valsB g n).length = n ∧ ∀ j, j < n → f j = (valsB g n)[j]? := by
  have hl : (valsB g n).length = n := by unfold valsB; rw [List.length_map, List.length_take, h.1]; omega
  refine ⟨hl, fun j hj => ?_⟩
  obtain ⟨v, hv⟩ := Option.isSome_iff_exists.1 (hs j hj)
  unfold valsB
  rw [List.getElem?_map, List.getElem?_take, if_pos hj, h.2 j (by omega), hv]; rfl
theorem valsB_cells {g : List (Option Nat)} {n : Nat} : cellsB (valsB g n) = (rowB g).toList.take n := by
  unfold valsB cellsB rowB
  rw [List.map_map, List.map_take]; rfl
theorem runs_none {g : Nat → Option Nat} {k : Nat} {out : List Sp} (h : g k = none) : runsStep g k out = out := by unfold runsStep; rw [h]
theorem runs_new {g : Nat → Option Nat} {k v : Nat} {out : List Sp} (h : g k = some v) (hp : g (k - 1) = none) : runsStep g k out = out ++ [((k : Int), [v])] := by unfold runsStep; rw [h]; simp only [hp]; rfl
theorem runs_more {g : Nat → Option Nat} {k v : Nat} {p : List Sp} {z : Sp} (h : g k = some v) (hp : (g (k - 1)).isSome = true) : runsStep g k (p ++ [z]) = p ++ [(z.1, z.2 ++ [v])] := by
  unfold runsStep
  rw [h]
  simp only [hp, if_true, List.dropLast_concat, cont_last]
end Go.Proofs.Wi
namespace Go
open Go.RowKit Go.Proofs.Wi
/-- b[:n] of an array. -/
theorem Any.q_slicearr {P : Program} {a : Act} {dst : Option Tmp} {ty T e : TypeId} {pos : String} {after : Array Edge} {g : Option (Nat × Bool)} {x xh : Operand} {C : World → Prop} {K : Act → Prop} {ad : Addr} {N n : Nat} {kh : IntKind} (hx : a.eval x = .pointer (some ad)) (ht : P.underlying T = some (.array N e)) (hi0 : (P.info? e).map (·.size) = some 1) (hh : a.eval xh = .int kh (n : Nat)) (hn : n ≤ N) (hN : 0 < N)
    (hk : K (a.put dst (.slice (some ad) n N))) : Oper.quiet P ⟨dst, .slice T x none (some xh) none, ty, pos, after, g⟩ a C K := by
  have he : P.elem T = e := by unfold Program.elem; rw [ht]
  have hl : P.arrayLen T = N := by unfold Program.arrayLen; rw [ht]
  have ht2 : P.underlying T = some (.array (P.arrayLen T) (P.elem T)) := by rw [he, hl]; exact ht
  obtain ⟨i, hi1, hi2⟩ := Option.map_eq_some_iff.1 hi0
  refine ⟨_, fun w hw => ?_, hk⟩
  have hsz : (sizeOf e).run P w = .ok 1 w := by
    unfold sizeOf
    simp [run_typeInfo w hi1, hi2]
  have hr := run_sliceAt_array_h (P := P) w T ad ht2 kh (n : Int) (by omega) (by rw [hl]; omega)
  have hs : slicedAt ad 0 (n : Int).toNat N 1 = .slice (some ad) n N := by
    unfold slicedAt
    rw [if_neg (by omega), Int.toNat_natCast, Nat.sub_zero, Nat.sub_zero, Nat.zero_mul]
    rfl
  rw [he, hsz, hl] at hr
  simp only [Result.andThen_ok, hs] at hr
  unfold Oper.quietAt execOp
  simp only [Sem.run_bind, hx, hh, Option.map_some, Option.map_none, hr, Result.andThen_ok, Sem.run_pure]
  exact ⟨rfl, rfl⟩
end Go
namespace Go.Proofs.Wi
open Go Go.RowKit
theorem AppRow.nul (B : Nat) : AppRow (.slice (some ⟨B, 0, none⟩) 0 0) 1 [] (B, #[]) := ⟨0, 0, rfl, rfl, Nat.le_refl _, Nat.zero_le _, rfl, rfl⟩
theorem AppRow.one (B : Nat) (v : Value) : AppRow (.slice (some ⟨B, 0, none⟩) 1 1) 1 [v] (B, #[v]) := ⟨1, 1, rfl, rfl, Nat.le_refl _, by unfold maxLen; omega, rfl, rfl⟩
theorem AppRow.arr (b : Nat) (r : Array Value) (h : r.size = 256) : AppRow (.slice (some ⟨b, 0, none⟩) 256 256) 1 r.toList (b, r) :=
  ⟨256, 256, rfl, by simpa using h, Nat.le_refl _, by unfold maxLen; omega, by simpa using h, List.take_of_length_le (by simp; omega)⟩
theorem cellsP_set (p : List PcV) (q : Nat) (zv u : Value) (zd d : List Nat) : (cellsP (p ++ [(q, zv, zd)])).set (p.length * 2 + 1) u = cellsP (p ++ [(q, u, d)]) := by
  rw [cellsP_snoc, cellsP_snoc, List.set_append_right _ _ (by rw [cellsP_len]; omega), cellsP_len, Nat.add_sub_cancel_left]
  rfl
theorem app_lastP {v : Value} {p : List PcV} {zx : Nat} {zv : Value} {zd : List Nat} {x0 : Nat × Array Value} (h : AppRow v 2 (cellsP (p ++ [(zx, zv, zd)])) x0) : (∃ cap, v = .slice (some ⟨x0.1, 0, none⟩) (p.length + 1) cap) ∧ p.length * 2 + 2 ≤ x0.2.size ∧ x0.2[p.length * 2 + 1]? = some zv := by
  obtain ⟨n, cap, rfl, g1, g2, g3, g4, g5⟩ := h
  rw [cellsP_len, List.length_append] at g1
  simp only [List.length_cons, List.length_nil] at g1
  have hn : n = p.length + 1 := by omega
  subst hn
  refine ⟨⟨cap, rfl⟩, by rw [g4]; omega, ?_⟩
  have h1 : (x0.2.toList.take ((p.length + 1) * 2))[p.length * 2 + 1]? = some zv := by
    rw [g5, cellsP_snoc, List.getElem?_append_right (by rw [cellsP_len]; omega), cellsP_len, show p.length * 2 + 1 - p.length * 2 = 1 from by omega]
    rfl
  rw [List.getElem?_take, if_pos (by omega), Array.getElem?_toList] at h1
  exact h1
/-- The pieces so far: where they lie. -/
def OutP (next : Nat) (R : List (Nat × Value × List Value)) (pv : Value) (Z : List SpV) (O : List (Nat × Array Value)) : Prop :=
  (Z = [] ∧ pv = .slice none 0 0 ∧ O = []) ∨ ∃ Zi z x0 xd, Z = Zi ++ [z] ∧ AppRow pv 2 (cellsP (Z.map (pcOf next))) x0 ∧ AppRow z.2.1 1 (cellsB z.2.2) xd ∧ O = [x0, xd] ∧ AllS R Zi
theorem cellsP_map_snoc (next : Nat) (Zi : List SpV) (z : SpV) : cellsP ((Zi ++ [z]).map (pcOf next)) = cellsP (Zi.map (pcOf next) ++ [pcOf next z]) := by rw [List.map_append]; rfl
end Go.Proofs.Wi
