/-
  Timers taken out of a slice of the call's own: Clone, IndexFunc, DeleteFunc.
-/
import Derived.Test.YtfblognifnnadaaWhAll
import Derived.Lib.SliceRun
set_option linter.unusedVariables false
set_option linter.unusedSimpArgs false
namespace Go.Proofs.Wh
open Go Go.RowKit
theorem cellsT_app (A B : List Tm) : cellsT (A ++ B) = cellsT A ++ cellsT B := by unfold cellsT; exact List.flatMap_append
theorem cellsT_get (M : List Tm) (t : Nat) : (cellsT M)[t]? = (M[t / 2]?).bind fun x => (encT x)[t % 2]? := by
  have h := get_flat (k := 2) (en := encT) (fun _ => rfl) M (t / 2) (t % 2) (Nat.mod_lt _ (by omega))
  rw [Nat.div_add_mod' t 2] at h
  exact h
/-- What stands at the head of a row. -/
structure TRow (z : Array Value) (M : List Tm) (cap : Nat) : Prop where
  size : z.size = cap * 2
  le : M.length ≤ cap
  cells : z.toList.take (M.length * 2) = cellsT M
theorem TRow.of {b n cap : Nat} {z : Array Value} {M : List Tm} (h : AppRow (.slice (some ⟨b, 0, none⟩) n cap) 2 (cellsT M) (b, z)) : TRow z M cap ∧ M.length = n ∧ cap ≤ maxLen := by
  obtain ⟨n', cap', e, g1, g2, g3, g4, g5⟩ := h
  cases e
  rw [cellsT_len] at g1
  have : M.length = n := by omega
  exact ⟨⟨g4, by omega, by rw [this]; exact g5⟩, this, g3⟩
theorem TRow.row {b cap : Nat} {z : Array Value} {M : List Tm} (h : TRow z M cap) (hc : cap ≤ maxLen) : AppRow (.slice (some ⟨b, 0, none⟩) M.length cap) 2 (cellsT M) (b, z) :=
  ⟨M.length, cap, rfl, by rw [cellsT_len], h.le, hc, h.size, h.cells⟩
theorem TRow.get {z : Array Value} {M : List Tm} {cap k : Nat} {x : Tm} (h : TRow z M cap) (hk : M[k]? = some x) : k * 2 + 2 ≤ z.size ∧ z.extract (k * 2) (k * 2 + 2) = #[.int .u64 (x.1 : Nat), .int .i64 x.2] := by
  obtain ⟨hk1, hk2⟩ := List.getElem?_eq_some_iff.1 hk
  have := h.le
  have hs := h.size
  refine ⟨by omega, ?_⟩
  have hp := cellsT_part M k hk1
  rw [hk2] at hp
  apply Array.toList_inj.1
  rw [Array.toList_extract, List.extract_eq_take_drop, show k * 2 + 2 - k * 2 = 2 from by omega, ← hp, ← h.cells]
  rw [List.drop_take, List.take_take]
  congr 1
  omega
theorem TRow.set {z : Array Value} {M : List Tm} {cap i : Nat} (h : TRow z M cap) (x : Tm) (hi : i < M.length) : TRow (splice z (i * 2) #[.int .u64 (x.1 : Nat), .int .i64 x.2]) (M.set i x) cap := by
  have hle := h.le
  have hs := h.size
  have hsz : (splice z (i * 2) #[.int .u64 (x.1 : Nat), .int .i64 x.2]).size = z.size := size_splice _ _ _ (by simp; omega)
  refine ⟨hsz.trans hs, by rw [List.length_set]; exact hle, ?_⟩
  rw [List.length_set]
  apply List.ext_getElem?
  intro t
  rw [cellsT_get, List.getElem?_take]
  by_cases ht : t < M.length * 2
  · rw [if_pos ht, Array.getElem?_toList, get_splice _ _ _ (by simp; omega), List.getElem?_set]
    have hz : z[t]? = (M[t / 2]?).bind fun x => (encT x)[t % 2]? := by
      rw [← cellsT_get, ← h.cells, List.getElem?_take, if_pos ht, Array.getElem?_toList]
    simp only [List.size_toArray, List.length_cons, List.length_nil, Nat.zero_add, Nat.reduceAdd]
    by_cases h1 : t < i * 2
    · rw [if_pos h1, if_neg (by omega), hz]
    · rw [if_neg h1]
      by_cases h2 : t < i * 2 + 2
      · rw [if_pos h2, if_pos (by omega), if_pos (by omega)]
        have e : t % 2 = t - i * 2 := by omega
        rw [e]
        simp only [encT, Option.bind_some, List.getElem?_toArray]
      · rw [if_neg h2, if_neg (by omega), hz]
  · rw [if_neg ht, List.getElem?_eq_none (by rw [List.length_set]; omega)]; rfl
theorem TRow.take {z : Array Value} {M : List Tm} {cap : Nat} (h : TRow z M cap) (i : Nat) (hi : i ≤ M.length) : TRow z (M.take i) cap := by
  have hle := h.le
  refine ⟨h.size, by rw [List.length_take]; omega, ?_⟩
  have e : cellsT (M.take i) = (cellsT M).take (i * 2) := by
    have h1 : cellsT M = cellsT (M.take i) ++ cellsT (M.drop i) := by rw [← cellsT_app, List.take_append_drop]
    have h2 : (cellsT (M.take i)).length = i * 2 := by rw [cellsT_len, List.length_take]; omega
    rw [h1, List.take_append_of_le_length (Nat.le_of_eq h2.symm), List.take_of_length_le (Nat.le_of_eq h2)]
  rw [e, ← h.cells, List.length_take, List.take_take, Nat.min_eq_left hi, Nat.min_eq_left (by omega)]
/-- The row's head stays. -/
theorem TRow.head {z z' : Array Value} {M : List Tm} {cap : Nat} (h : TRow z M cap) (hs : z'.size = z.size) (hc : z'.toList.take (M.length * 2) = z.toList.take (M.length * 2)) : TRow z' M cap :=
  ⟨hs.trans h.size, h.le, hc.trans h.cells⟩
/-- How far the taking out came: what is kept so far, what is ahead. -/
structure DL (p : Tm → Bool) (l : List Tm) (i j : Nat) (M : List Tm) : Prop where
  len : M.length = l.length
  kept : M.take i = (l.take j).filter fun t => !p t
  rest : M.drop j = l.drop j
  lt : i < j
  le : j ≤ l.length
theorem DL.start {p : Tm → Bool} {l : List Tm} {k : Nat} (hk : l.findIdx? p = some k) : DL p l k (k + 1) l := by
  obtain ⟨h1, h2, h3⟩ := List.findIdx?_eq_some_iff_getElem.1 hk
  refine ⟨rfl, ?_, rfl, by omega, h1⟩
  rw [List.take_succ_eq_append_getElem h1, List.filter_append]
  have e : (l.take k).filter (fun t => !p t) = l.take k := by
    rw [List.filter_eq_self]
    intro t ht
    obtain ⟨j, hj, rfl⟩ := List.mem_take_iff_getElem.1 ht
    have := h3 j (by omega)
    simpa using this
  rw [e]
  simp [h2]
theorem DL.at {p : Tm → Bool} {l : List Tm} {i j : Nat} {M : List Tm} (h : DL p l i j M) {x : Tm} (hx : l[j]? = some x) : M[j]? = some x := by
  have := congrArg (fun y : List Tm => y[0]?) h.rest
  simp only [List.getElem?_drop, Nat.add_zero] at this
  rw [this]; exact hx
theorem DL.skip {p : Tm → Bool} {l : List Tm} {i j : Nat} {M : List Tm} (h : DL p l i j M) {x : Tm} (hx : l[j]? = some x) (hp : p x = true) : DL p l i (j + 1) M := by
  obtain ⟨h1, h2⟩ := List.getElem?_eq_some_iff.1 hx
  refine ⟨h.len, ?_, ?_, by have := h.lt; omega, h1⟩
  · rw [h.kept, List.take_succ_eq_append_getElem h1, List.filter_append, h2]
    simp [hp]
  · rw [← List.drop_drop, ← List.drop_drop, h.rest]
theorem DL.keep {p : Tm → Bool} {l : List Tm} {i j : Nat} {M : List Tm} (h : DL p l i j M) {x : Tm} (hx : l[j]? = some x) (hp : p x = false) : DL p l (i + 1) (j + 1) (M.set i x) := by
  obtain ⟨h1, h2⟩ := List.getElem?_eq_some_iff.1 hx
  have hlt := h.lt
  have hlen := h.len
  refine ⟨by rw [List.length_set, h.len], ?_, ?_, by omega, h1⟩
  · rw [List.take_succ_eq_append_getElem h1, List.filter_append, h2, ← h.kept, List.take_succ_eq_append_getElem (by rw [List.length_set]; omega), List.take_set_of_le (Nat.le_refl _)]
    simp [hp]
  · rw [List.drop_set_of_lt (by omega), ← List.drop_drop, ← List.drop_drop, h.rest]
theorem DL.done {p : Tm → Bool} {l : List Tm} {i : Nat} {M : List Tm} (h : DL p l i l.length M) : M.take i = l.filter fun t => !p t := by
  rw [h.kept, List.take_length]
/-- What IndexFunc answers. -/
def idxV (p : Tm → Bool) (l : List Tm) : Int := match l.findIdx? p with | none => -1 | some k => (k : Int)
theorem idxV_some {p : Tm → Bool} {l : List Tm} {k : Nat} {x : Tm} (hx : l[k]? = some x) (hp : p x = true) (h : ∀ j, j < k → ∀ y, l[j]? = some y → p y = false) : idxV p l = (k : Int) := by
  obtain ⟨h1, h2⟩ := List.getElem?_eq_some_iff.1 hx
  have e : l.findIdx? p = some k := List.findIdx?_eq_some_iff_getElem.2 ⟨h1, by rw [h2]; exact hp, fun j hj => by
    have := h j hj l[j] (List.getElem?_eq_getElem (by omega))
    simp [this]⟩
  unfold idxV; rw [e]
theorem idxV_none {p : Tm → Bool} {l : List Tm} (h : ∀ j, j < l.length → ∀ y, l[j]? = some y → p y = false) : idxV p l = -1 := by
  have e : l.findIdx? p = none := by
    rw [List.findIdx?_eq_none_iff]
    intro x hx
    obtain ⟨j, hj, rfl⟩ := List.mem_iff_getElem.1 hx
    exact h j hj _ (List.getElem?_eq_getElem hj)
  unfold idxV; rw [e]
theorem filter_none {p : Tm → Bool} {l : List Tm} (h : l.findIdx? p = none) : (l.filter fun t => !p t) = l := by
  rw [List.findIdx?_eq_none_iff] at h
  rw [List.filter_eq_self]
  intro t ht
  rw [h t ht]; rfl
end Go.Proofs.Wh
namespace Go
open Go.RowKit
section
variable {P : Program} {ops : Array Oper} {rest : List Oper} {a : Act} {w : World} {Q : Exit → Act → World → Prop}
variable {dst : Option Tmp} {ty T t e : TypeId} {pos : String} {after : Array Edge} {g : Option (Nat × Bool)} {x xl xh : Operand} {k : Nat}
/-- s[l:], the value as it is. -/
theorem wl_sliceVl (hgd : Region.wanted (⟨dst, .slice T x (some xl) none none, ty, pos, after, g⟩ : Oper) (yielded ops a.tmps) = true) {ao : Option Addr} {n cap : Nat} (hx : a.eval x = .slice ao n cap) (ht : P.underlying T = some (.slice e)) (hi0 : (P.info? e).map (·.size) = some k)
    (l : Nat) {kl : IntKind} (hl : a.eval xl = .int kl (l : Nat)) (h0 : l ≤ n) {v : Value} (hv : sliced ao l n cap k = v) (hk : wpList P ops Q rest (a.put dst v) w) : wpList P ops Q (⟨dst, .slice T x (some xl) none none, ty, pos, after, g⟩ :: rest) a w := by
  subst hv
  refine wpList_want hgd fun K hK => ?_
  have hr := run_part (w := w) (ao := ao) (n := n) (cap := cap) ht hi0 (some (.int kl (l : Nat))) none none l n cap (bounds_l h0)
  unfold Oper.wp execOp
  simp only [Sem.run_bind, hx, hl, Option.map_some, Option.map_none, hr, Result.andThen_ok, Sem.run_pure]
  exact hK _ _ hk
/-- s[:h], the value as it is. -/
theorem wl_sliceVh (hgd : Region.wanted (⟨dst, .slice T x none (some xh) none, ty, pos, after, g⟩ : Oper) (yielded ops a.tmps) = true) {ao : Option Addr} {n cap : Nat} (hx : a.eval x = .slice ao n cap) (ht : P.underlying T = some (.slice e)) (hi0 : (P.info? e).map (·.size) = some k)
    (h : Nat) {kh : IntKind} (hh : a.eval xh = .int kh (h : Nat)) (h0 : h ≤ cap) {v : Value} (hv : sliced ao 0 h cap k = v) (hk : wpList P ops Q rest (a.put dst v) w) : wpList P ops Q (⟨dst, .slice T x none (some xh) none, ty, pos, after, g⟩ :: rest) a w := by
  subst hv
  refine wpList_want hgd fun K hK => ?_
  have hr := run_part (w := w) (ao := ao) (n := n) (cap := cap) ht hi0 none (some (.int kh (h : Nat))) none 0 h cap (bounds_h h0)
  unfold Oper.wp execOp
  simp only [Sem.run_bind, hx, hh, Option.map_some, Option.map_none, hr, Result.andThen_ok, Sem.run_pure]
  exact hK _ _ hk
theorem at_clear (h : wpList P ops Q (⟨dst, .call { callee := .builtin .clear, args := #[x], argTypes := #[t] }, ty, pos, after, g⟩ :: rest) a w) : wpList P ops Q (⟨dst, .call { callee := .builtin .clear, args := #[x], argTypes := #[t] }, ty, pos, after, g⟩ :: rest) a w := h
theorem size_flatten_rep (z : Array Value) : ∀ n : Nat, (Builtin.zeroCells z n).size = n * z.size := size_zeroCells z
/-- clear(s), s in a row of the call's own. -/
theorem wl_clear (hgd : Region.wanted (⟨dst, .call { callee := .builtin .clear, args := #[x], argTypes := #[t] }, ty, pos, after, g⟩ : Oper) (yielded ops a.tmps) = true) {b o n cap : Nat} (hx : a.eval x = .slice (some ⟨b, o, none⟩) n cap) (hn : 0 < n) (ht : P.underlying t = some (.slice e)) {z : Value} (hz : (zeroValue e).run P w = .ok z w)
    (h1 : ∀ v ∈ z.cells.toList, v.oneCell' = true) {c : Array Value} (hr : w.rowD b = c) (hs : w.soft b = true) (ho : o + n * z.cells.size ≤ c.size)
    (hk : ∀ w' c', Wrote w w' b c' → c'.size = c.size → c'.toList.take o = c.toList.take o → wpList P ops Q rest (a.put dst (.tuple #[])) w') : wpList P ops Q (⟨dst, .call { callee := .builtin .clear, args := #[x], argTypes := #[t] }, ty, pos, after, g⟩ :: rest) a w := by
  refine wpList_want hgd fun K hK => ?_
  have hlen : (Builtin.zeroCells z.cells n).toList.length = n * z.cells.size := by rw [Array.length_toList, size_zeroCells]
  obtain ⟨tt, htt⟩ := soft_heap hs
  have hst := run_storeCells_cells (P := P) b o (Builtin.zeroCells z.cells n).toList 0 w
    (fun j hj => by rw [Nat.add_zero, cell_rowD, hr, Array.getElem?_eq_getElem (by omega)]; rfl)
    (fun j hj => frozen_of_row w b _ _ tt htt)
    (fun v hv => by
      unfold Builtin.zeroCells at hv
      simp at hv
      obtain ⟨q, hq, rfl⟩ := hv
      have h0 : 0 < z.cells.size := by
        rcases Nat.eq_zero_or_pos z.cells.size with h | h
        · rw [h] at hq; simp at hq
        · exact h
      rw [getElem!_pos z.cells _ (Nat.mod_lt _ h0)]
      exact h1 _ (by simp))
  rw [Nat.add_zero, setCells_row _ w b o hs (by rw [hr]; omega), hr] at hst
  have hc : ∀ ty, (Builtin.clear_ #[t] ty #[.slice (some ⟨b, o, none⟩) n cap]).run P w = .ok (.tuple #[]) (w.setRow b (splice c o (Builtin.zeroCells z.cells n).toList.toArray)) := fun ty => by
    cases n with
    | zero => omega
    | succ n => simp [Builtin.clear_, run_underlying ht, hz, hst, Result.andThen]
  have hsz := size_splice c o (Builtin.zeroCells z.cells n).toList.toArray (by rw [List.size_toArray, hlen]; exact ho)
  have hW := wrote_setRow (c := splice c o (Builtin.zeroCells z.cells n).toList.toArray) hs
  unfold Oper.wp execOp
  simp only [resolve, invoke, builtin, Sem.run_bind, Sem.run_pure, Result.andThen_ok, List.map_toArray, List.map_cons, List.map_nil, hx, hc]
  refine hK _ _ (hk _ _ hW hsz ?_)
  apply List.ext_getElem?
  intro i
  rw [List.getElem?_take, List.getElem?_take]
  by_cases hi : i < o
  · rw [if_pos hi, if_pos hi, Array.getElem?_toList, Array.getElem?_toList, get_splice _ _ _ (by rw [List.size_toArray, hlen]; exact ho), if_pos hi]
  · rw [if_neg hi, if_neg hi]
end
end Go
namespace Go.Proofs.Ytfblognifnnadaa
open Go.Proofs.Wh Go.RowKit Go.Proofs
set_option maxRecDepth 100000 in
set_option maxHeartbeats 4000000 in
theorem IndexFunc_any (ao : Option Addr) (n cap : Nat) (l : List Tm) (p : Tm → Bool) (g : Nat) (cb : Array Value) (hE : Enters Try.prog g) (hlen : l.length ≤ 1000) (w : World) (hr : Rd w 2 (.slice ao n cap) (cellsT l)) (hf : (∀ w1, Below w.heap.size w w1 → ∀ (y1 : Nat) (y2 : Int), Calls Try.prog g (#[.agg #[.int .u64 (y1 : Nat), .int .i64 y2]] ++ cb) w1 fun e w2 => e = .returned (.bool (p (y1, y2))) ∧ New w1 w2)) :
    Calls Try.prog 104 #[.slice ao n cap, .func (.func g) #[] cb] w fun e w' => e = .returned (.int .i64 (idxV p l)) ∧ New w w' := by
  have hv := (Mem.nil w).old hr
  have HLN := Lib.hid (len_rdT hr)
  have HL1 := Lib.hid hlen
  have HE := Lib.hid hE
  have HF := Lib.hid hf
  obtain ⟨r, hrr⟩ : ∃ r, idxV p l = r := ⟨_, rfl⟩
  rw [hrr]
  have HR := Lib.hid hrr
  clear hr hlen hE hf hrr
  go_enter Try.func104, Try.ntmps104
  go_wp2
  go_loopw [8] (fun kv wr => ∃ k : Nat, k ≤ n ∧ kv = .int .i64 (k : Nat) ∧ Mem w wr [] [(2, .slice ao n cap, cellsT l)] ∧ Hid (∀ j, j < k → ∀ y, l[j]? = some y → p y = false)) (fun kv _ => n - (intOf kv).toNat)
  case atStart => exact ⟨0, Nat.zero_le _, rfl, hv, Lib.hid (fun _ h => (Nat.not_lt_zero _ h).elim)⟩
  case round =>
    clear hv
    obtain ⟨k, hk0, rfl, hv, HP⟩ := hrel
    by_cases hk : k < n
    · have c1 : (k : Int) < (n : Int) := by omega
      have hkl : k < l.length := by rw [HLN.out]; exact hk
      obtain ⟨⟨x1, x2⟩, hx⟩ : ∃ x, l[k] = x := ⟨_, rfl⟩
      have HX : Hid (l[k]? = some (x1, x2)) := Lib.hid (by rw [List.getElem?_eq_getElem hkl, hx])
      have HK : Hid (((cellsT l).drop (k * 2)).take 2 = [.int .u64 (x1 : Nat), .int .i64 x2]) := Lib.hid (by rw [cellsT_part l k hkl, hx])
      have hkb : (k : Int) ≤ 5000 := by have := HL1.out; have := HLN.out; omega
      obtain ⟨sb, so, _, _, e, hq8⟩ := (hv.rd Mem.z).some (by rw [cellsT_len]; omega)
      clear hq8
      cases e
      have HKN := Lib.hid hk
      clear hkl hx hk0 hk
      cases hp : p (x1, x2) with
      | true =>
        have HC : Hid (∀ w1, Below w.heap.size w w1 → Calls Try.prog g ([Value.agg #[.int .u64 (x1 : Nat), .int .i64 x2]].toArray ++ cb) w1 fun e w2 => e = .returned (.bool true) ∧ New w1 w2) := Lib.hid (fun w1 h => by have := HF.out w1 h x1 x2; rw [hp] at this; exact this)
        have HO : Hid ((k : Int) = r) := Lib.hid (by rw [← HR.out]; exact (idxV_some HX.out hp HP.out).symm)
        clear hp
        go_wp2_with (first
          | ((with_reducible refine at_load (T := 63) ?_); refine wl_rdv rfl (hv.rd Mem.z) (k * 2) rfl 2 _ Try.underlying63 rfl infoTm (by decide) #[.int .u64 (x1 : Nat), .int .i64 x2] HK.out rfl ?_)
          | ((with_reducible refine at_call ?_); refine wl_callv rfl HE.out rfl [.agg #[.int .u64 (x1 : Nat), .int .i64 x2]] rfl (HC.out _ (hv.below)) ?_; rintro e w1 ⟨rfl, hn1⟩; refine ⟨_, rfl, ?_⟩; replace hv := hv.new hn1; clear hn1))
        go_ret
        exact ⟨congrArg (fun b => Ending.returned (.int .i64 b)) HO.out, hv.below⟩
      | false =>
        have HC : Hid (∀ w1, Below w.heap.size w w1 → Calls Try.prog g ([Value.agg #[.int .u64 (x1 : Nat), .int .i64 x2]].toArray ++ cb) w1 fun e w2 => e = .returned (.bool false) ∧ New w1 w2) := Lib.hid (fun w1 h => by have := HF.out w1 h x1 x2; rw [hp] at this; exact this)
        have HP2 : Hid (∀ j, j < k + 1 → ∀ y, l[j]? = some y → p y = false) := Lib.hid (fun j hj y hy => by
          rcases Nat.lt_succ_iff_lt_or_eq.1 hj with hj | rfl
          · exact HP.out j hj y hy
          · rw [HX.out] at hy; cases hy; exact hp)
        clear hp
        go_wp2_with (first
          | ((with_reducible refine at_load (T := 63) ?_); refine wl_rdv rfl (hv.rd Mem.z) (k * 2) rfl 2 _ Try.underlying63 rfl infoTm (by decide) #[.int .u64 (x1 : Nat), .int .i64 x2] HK.out rfl ?_)
          | ((with_reducible refine at_call ?_); refine wl_callv rfl HE.out rfl [.agg #[.int .u64 (x1 : Nat), .int .i64 x2]] rfl (HC.out _ (hv.below)) ?_; rintro e w1 ⟨rfl, hn1⟩; refine ⟨_, rfl, ?_⟩; replace hv := hv.new hn1; clear hn1))
        have hkn := HKN.out
        go_roundw
        case rel => exact ⟨k + 1, by omega, by go_num, hv, HP2⟩
        case measure => simp [intOf]; omega
    · have c1 : ¬ (k : Int) < (n : Int) := by omega
      have HO : Hid (-1 = r) := Lib.hid (by rw [← HR.out]; exact (idxV_none fun j hj y hy => HP.out j (by rw [HLN.out] at hj; omega) y hy).symm)
      clear hk hk0
      go_wp2
      go_ret
      exact ⟨congrArg (fun b => Ending.returned (.int .i64 b)) HO.out, hv.below⟩
set_option maxRecDepth 100000 in
set_option maxHeartbeats 4000000 in
theorem DeleteFunc_any (b n cap : Nat) (z0 : Array Value) (l : List Tm) (p : Tm → Bool) (g : Nat) (cb : Array Value) (hE : Enters Try.prog g) (hlen : l.length ≤ 1000) (w0 w : World) (L : List (Nat × Array Value)) (R : List (Nat × Value × List Value)) (hv0 : Mem w0 w ((b, z0) :: L) R) (hrow : AppRow (.slice (some ⟨b, 0, none⟩) n cap) 2 (cellsT l) (b, z0)) (hf : (∀ w1, Vars w0 w1 L → ∀ (y1 : Nat) (y2 : Int), Calls Try.prog g (#[.agg #[.int .u64 (y1 : Nat), .int .i64 y2]] ++ cb) w1 fun e w2 => e = .returned (.bool (p (y1, y2))) ∧ New w1 w2)) :
    Calls Try.prog 60 #[.slice (some ⟨b, 0, none⟩) n cap, .func (.func g) #[] cb] w fun e w' => ∃ v z', e = .returned v ∧ AppRow v 2 (cellsT (l.filter fun t => !p t)) (b, z') ∧ Mem w0 w' ((b, z') :: L) R := by
  have hv := hv0
  have HROW := Lib.hid hrow
  obtain ⟨hT0, hn0, hc0⟩ := TRow.of hrow
  have HT0 := Lib.hid hT0
  have HLN := Lib.hid hn0
  have HCM := Lib.hid hc0
  have HNC : Hid (n ≤ cap) := Lib.hid (by have := hT0.le; omega)
  have HLE := Lib.hid hlen
  have HE := Lib.hid hE
  have HF := Lib.hid hf
  have hn5 : (n : Int) ≤ 1000 := by omega
  clear hv0 hrow hT0 hn0 hc0 hlen hE hf
  cases hfi : l.findIdx? p with
  | none =>
    have hix : idxV p l = -1 := by unfold idxV; rw [hfi]
    have HFL := Lib.hid (filter_none hfi)
    clear hfi
    go_enter Try.func60, Try.ntmps60
    go_wp2_with (first
      | (go_at_call 104; (with_reducible refine (IndexFunc_any (some ⟨b, 0, none⟩) n cap l p g cb HE.out HLE.out _ (HROW.out.rd (hv.vars.row (List.Mem.head _)) (hv.vars.sft (List.Mem.head _))) (fun w1 hb => HF.out w1 (hv.vars.drop.new hb))).mono ?_); rw [hix]; rintro e w1 ⟨rfl, hn1⟩; replace hv := hv.new hn1; clear hn1))
    go_ret
    exact ⟨_, z0, rfl, by rw [HFL.out]; exact HROW.out, hv⟩
  | some k0 =>
    have hix : idxV p l = (k0 : Int) := by unfold idxV; rw [hfi]
    have HD := Lib.hid (DL.start hfi)
    have hk0 : k0 < n := by have := HD.out.le; have := HLN.out; omega
    have y1 : ((k0 : Int) == -1) = false := by rw [beq_eq_false_iff_ne]; omega
    have HK0 := Lib.hid hk0
    have hk5 : (k0 : Int) ≤ 1000 := by omega
    clear hfi hk0
    go_enter Try.func60, Try.ntmps60
    go_wp2_with (first
      | (go_at_call 104; (with_reducible refine (IndexFunc_any (some ⟨b, 0, none⟩) n cap l p g cb HE.out HLE.out _ (HROW.out.rd (hv.vars.row (List.Mem.head _)) (hv.vars.sft (List.Mem.head _))) (fun w1 hb => HF.out w1 (hv.vars.drop.new hb))).mono ?_); rw [hix]; rintro e w1 ⟨rfl, hn1⟩; replace hv := hv.new hn1; clear hn1))
    go_loopw [5, 6] (fun iv jv wr => ∃ (i j : Nat) (M : List Tm) (z : Array Value), iv = .int .i64 (i : Nat) ∧ jv = .int .i64 (j : Nat) ∧ Hid (DL p l i j M) ∧ Hid (TRow z M cap) ∧ Mem w0 wr ((b, z) :: L) R) (fun _ jv _ => n - (intOf jv).toNat)
    case atStart => exact ⟨k0, k0 + 1, l, z0, rfl, by go_num, HD, HT0, hv⟩
    case round =>
      clear hv HD hix
      obtain ⟨i, j, M, z, rfl, rfl, HD, HT, hv⟩ := hrel
      have hij : i < j := HD.out.lt
      have hjn : j ≤ n := by have := HD.out.le; have := HLN.out; omega
      by_cases hj : j < n
      · have c1 : (j : Int) < (n : Int) := by omega
        have hjl : j < l.length := by rw [HLN.out]; exact hj
        obtain ⟨⟨x1, x2⟩, hx⟩ : ∃ x, l[j] = x := ⟨_, rfl⟩
        have HX : Hid (l[j]? = some (x1, x2)) := Lib.hid (by rw [List.getElem?_eq_getElem hjl, hx])
        have HG := Lib.hid (HT.out.get (HD.out.at HX.out))
        have HJN := Lib.hid hj
        have hj5 : (j : Int) ≤ 1000 := by omega
        have hi5 : (i : Int) ≤ 1000 := by omega
        have hin : (i : Int) < (n : Int) := by omega
        clear hx hjl hj hjn
        cases hp : p (x1, x2) with
        | true =>
          have HC : Hid (∀ w1, Vars w0 w1 L → Calls Try.prog g ([Value.agg #[.int .u64 (x1 : Nat), .int .i64 x2]].toArray ++ cb) w1 fun e w2 => e = .returned (.bool true) ∧ New w1 w2) := Lib.hid (fun w1 h => by have := HF.out w1 h x1 x2; rw [hp] at this; exact this)
          have HD2 := Lib.hid (HD.out.skip HX.out hp)
          clear hp hij
          go_wp2_with (first
            | ((with_reducible refine at_load (T := 63) ?_); refine wl_ldp rfl b (j * 2) rfl z (hv.vars.row (List.Mem.head _)) 2 _ Try.underlying63 rfl infoTm (by decide) HG.out.1 #[.int .u64 (x1 : Nat), .int .i64 x2] HG.out.2 ?_)
            | ((with_reducible refine at_alloc (T := 63) (dst := some 7) ?_); refine wl_newb rfl #[.int .u64 0, .int .i64 0] 63 (fun _ => rfl) ?_; intro b7 w2 hm2; replace hv := hv.madeAt hm2; clear hm2)
            | ((with_reducible refine at_store (T := 63) ?_); refine wl_stv rfl b7 rfl _ rfl _ (hv.vars.row (by first | exact .head _ | exact .tail _ (.head _) | exact .tail _ (.tail _ (.head _)) | exact .tail _ (.tail _ (.tail _ (.head _))) | exact .tail _ (.tail _ (.tail _ (.tail _ (.head _)))) | exact .tail _ (.tail _ (.tail _ (.tail _ (.tail _ (.head _))))) | exact .tail _ (.tail _ (.tail _ (.tail _ (.tail _ (.tail _ (.head _)))))) | exact .tail _ (.tail _ (.tail _ (.tail _ (.tail _ (.tail _ (.tail _ (.head _))))))))) (hv.vars.sft (by first | exact .head _ | exact .tail _ (.head _) | exact .tail _ (.tail _ (.head _)) | exact .tail _ (.tail _ (.tail _ (.head _))) | exact .tail _ (.tail _ (.tail _ (.tail _ (.head _)))) | exact .tail _ (.tail _ (.tail _ (.tail _ (.tail _ (.head _))))) | exact .tail _ (.tail _ (.tail _ (.tail _ (.tail _ (.tail _ (.head _)))))) | exact .tail _ (.tail _ (.tail _ (.tail _ (.tail _ (.tail _ (.tail _ (.head _))))))))) 2 infoTm rfl rfl (by simp [Value.oneCell']) ?_; intro w2 hw2; (first | (replace hv := hv.set 0 rfl hw2) | (replace hv := hv.set 1 rfl hw2) | (replace hv := hv.set 2 rfl hw2) | (replace hv := hv.set 3 rfl hw2)); clear hw2; simp only [List.set] at hv)
            | ((with_reducible refine at_load (T := 63) ?_); refine wl_ldv rfl b7 rfl _ (hv.vars.row (by first | exact .head _ | exact .tail _ (.head _) | exact .tail _ (.tail _ (.head _)) | exact .tail _ (.tail _ (.tail _ (.head _))) | exact .tail _ (.tail _ (.tail _ (.tail _ (.head _)))) | exact .tail _ (.tail _ (.tail _ (.tail _ (.tail _ (.head _))))) | exact .tail _ (.tail _ (.tail _ (.tail _ (.tail _ (.tail _ (.head _)))))) | exact .tail _ (.tail _ (.tail _ (.tail _ (.tail _ (.tail _ (.tail _ (.head _))))))))) 2 _ Try.underlying63 rfl infoTm (by decide) rfl ?_)
            | ((with_reducible refine at_call ?_); refine wl_callv rfl HE.out rfl [.agg #[.int .u64 (x1 : Nat), .int .i64 x2]] rfl (HC.out _ (hv.vars.drop.drop)) ?_; rintro e w1 ⟨rfl, hn1⟩; refine ⟨_, rfl, ?_⟩; replace hv := hv.new hn1; clear hn1))
          have hjn2 := HJN.out
          go_roundw
          case rel => exact ⟨i, j + 1, M, z, rfl, by go_num, HD2, HT, hv.drop⟩
          case measure => simp [intOf]; omega
        | false =>
          have HC : Hid (∀ w1, Vars w0 w1 L → Calls Try.prog g ([Value.agg #[.int .u64 (x1 : Nat), .int .i64 x2]].toArray ++ cb) w1 fun e w2 => e = .returned (.bool false) ∧ New w1 w2) := Lib.hid (fun w1 h => by have := HF.out w1 h x1 x2; rw [hp] at this; exact this)
          have HD2 := Lib.hid (HD.out.keep HX.out hp)
          have him : i < M.length := by have := HD.out.len; have := HLN.out; omega
          have HT2 := Lib.hid (HT.out.set (x1, x2) him)
          have HIZ : Hid (i * 2 + 2 ≤ z.size) := Lib.hid (by have := HT.out.size; have := HT.out.le; omega)
          clear hp hij him
          go_wp2_with (first
            | ((with_reducible refine at_load (T := 63) ?_); refine wl_ldp rfl b (j * 2) rfl z (hv.vars.row (List.Mem.head _)) 2 _ Try.underlying63 rfl infoTm (by decide) HG.out.1 #[.int .u64 (x1 : Nat), .int .i64 x2] HG.out.2 ?_)
            | ((with_reducible refine at_alloc (T := 63) (dst := some 7) ?_); refine wl_newb rfl #[.int .u64 0, .int .i64 0] 63 (fun _ => rfl) ?_; intro b7 w2 hm2; replace hv := hv.madeAt hm2; clear hm2)
            | ((with_reducible refine at_store (T := 63) ?_); refine wl_stv rfl b7 rfl _ rfl _ (hv.vars.row (by first | exact .head _ | exact .tail _ (.head _) | exact .tail _ (.tail _ (.head _)) | exact .tail _ (.tail _ (.tail _ (.head _))) | exact .tail _ (.tail _ (.tail _ (.tail _ (.head _)))) | exact .tail _ (.tail _ (.tail _ (.tail _ (.tail _ (.head _))))) | exact .tail _ (.tail _ (.tail _ (.tail _ (.tail _ (.tail _ (.head _)))))) | exact .tail _ (.tail _ (.tail _ (.tail _ (.tail _ (.tail _ (.tail _ (.head _))))))))) (hv.vars.sft (by first | exact .head _ | exact .tail _ (.head _) | exact .tail _ (.tail _ (.head _)) | exact .tail _ (.tail _ (.tail _ (.head _))) | exact .tail _ (.tail _ (.tail _ (.tail _ (.head _)))) | exact .tail _ (.tail _ (.tail _ (.tail _ (.tail _ (.head _))))) | exact .tail _ (.tail _ (.tail _ (.tail _ (.tail _ (.tail _ (.head _)))))) | exact .tail _ (.tail _ (.tail _ (.tail _ (.tail _ (.tail _ (.tail _ (.head _))))))))) 2 infoTm rfl rfl (by simp [Value.oneCell']) ?_; intro w2 hw2; (first | (replace hv := hv.set 0 rfl hw2) | (replace hv := hv.set 1 rfl hw2) | (replace hv := hv.set 2 rfl hw2) | (replace hv := hv.set 3 rfl hw2)); clear hw2; simp only [List.set] at hv)
            | ((with_reducible refine at_load (T := 63) ?_); refine wl_ldv rfl b7 rfl _ (hv.vars.row (by first | exact .head _ | exact .tail _ (.head _) | exact .tail _ (.tail _ (.head _)) | exact .tail _ (.tail _ (.tail _ (.head _))) | exact .tail _ (.tail _ (.tail _ (.tail _ (.head _)))) | exact .tail _ (.tail _ (.tail _ (.tail _ (.tail _ (.head _))))) | exact .tail _ (.tail _ (.tail _ (.tail _ (.tail _ (.tail _ (.head _)))))) | exact .tail _ (.tail _ (.tail _ (.tail _ (.tail _ (.tail _ (.tail _ (.head _))))))))) 2 _ Try.underlying63 rfl infoTm (by decide) rfl ?_)
            | ((with_reducible refine at_call ?_); refine wl_callv rfl HE.out rfl [.agg #[.int .u64 (x1 : Nat), .int .i64 x2]] rfl (HC.out _ (hv.vars.drop.drop)) ?_; rintro e w1 ⟨rfl, hn1⟩; refine ⟨_, rfl, ?_⟩; replace hv := hv.new hn1; clear hn1)
            | ((with_reducible refine at_store (T := 63) ?_); refine wl_stp rfl b (i * 2) rfl #[.int .u64 (x1 : Nat), .int .i64 x2] rfl z (hv.vars.row (List.Mem.tail _ (List.Mem.head _))) (hv.vars.sft (List.Mem.tail _ (List.Mem.head _))) 2 infoTm rfl HIZ.out (by simp [Value.oneCell']) _ rfl ?_; intro w2 hw2; replace hv := hv.set 1 rfl hw2; clear hw2; simp only [List.set] at hv))
          have hjn2 := HJN.out
          go_roundw
          case rel => exact ⟨i + 1, j + 1, _, _, by go_num, by go_num, HD2, HT2, hv.drop⟩
          case measure => simp [intOf]; omega
      · have c1 : ¬ (j : Int) < (n : Int) := by omega
        obtain rfl : j = n := by omega
        have HIN : Hid (i ≤ j) := Lib.hid (by omega)
        have HIC : Hid (i ≤ cap) := Lib.hid (by have := HNC.out; omega)
        have HIP : Hid (0 < j - i) := Lib.hid (by omega)
        have HS1 : Hid (sliced (some ⟨b, 0, none⟩) i j cap 2 = .slice (some ⟨b, i * 2, none⟩) (j - i) (cap - i)) := Lib.hid (by
          unfold sliced
          rw [if_neg (by have := HNC.out; omega)]
          simp only [Option.map_some, Addr.add_none, Nat.zero_add])
        have HS2 : Hid (sliced (some ⟨b, 0, none⟩) 0 i cap 2 = .slice (some ⟨b, 0, none⟩) i cap) := Lib.hid (by
          unfold sliced
          simp only [Option.map_some, Addr.add_none, Nat.zero_mul, Nat.add_zero, Nat.sub_zero, ite_self])
        have HZC : Hid (∀ v ∈ (Value.agg #[.int .u64 0, .int .i64 0]).cells.toList, v.oneCell' = true) := Lib.hid (by simp [Value.cells, Value.oneCell'])
        have HZS : Hid (i * 2 + (j - i) * (Value.agg #[.int .u64 0, .int .i64 0]).cells.size ≤ z.size) := Lib.hid (by
          have := HT.out.size; have := HNC.out
          show i * 2 + (j - i) * 2 ≤ z.size
          omega)
        have HFIN : Hid (M.take i = l.filter fun t => !p t) := Lib.hid (by have h := HD.out; rw [← HLN.out] at h; exact h.done)
        have HML : Hid (i ≤ M.length) := Lib.hid (by have := HD.out.len; have := HLN.out; omega)
        clear hj hjn hij
        go_wp2_with (first
          | ((with_reducible refine at_slice ?_); refine wl_sliceVl rfl rfl Try.underlying23 infoTm i rfl HIN.out HS1.out ?_)
          | ((with_reducible refine at_clear ?_); refine wl_clear rfl rfl HIP.out Try.underlying23 (Try.zeroValue63 _) HZC.out (hv.vars.row (List.Mem.head _)) (hv.vars.sft (List.Mem.head _)) HZS.out ?_; intro w2 z2 hw2 hz1 hz2; replace hv := hv.set 0 rfl hw2; clear hw2; simp only [List.set] at hv)
          | ((with_reducible refine at_slice ?_); refine wl_sliceVh rfl rfl Try.underlying23 infoTm i rfl HIC.out HS2.out ?_))
        go_ret
        have h1 := (HT.out.take i HML.out)
        have hli : (M.take i).length = i := by rw [List.length_take]; exact Nat.min_eq_left HML.out
        have h2 := h1.head hz1 (by rw [hli]; exact hz2)
        have h3 := h2.row (b := b) HCM.out
        rw [hli, HFIN.out] at h3
        first | exact ⟨_, z2, rfl, h3, hv⟩ | exact ⟨_, rfl, z2, h3, hv⟩
end Go.Proofs.Ytfblognifnnadaa
