/-
  Machine memory (layer 4) where nothing is wrong: bytes are got and put, numbers too.
-/
import Derived.Test.YtcelehhaggoijaaQuNum
import Derived.Test.YtcelehhaggoijaaGen
set_option linter.unusedVariables false
set_option linter.unusedSimpArgs false
namespace Go
open Go.RowKit
section
variable {P : Program} {ops : Array Oper} {rest : List Oper} {a : Act} {w : World} {Q : Exit → Act → World → Prop}
variable {dst : Option Tmp} {ty t t' : TypeId} {e : TypeId} {pos : String} {after : Array Edge} {g : Option (Nat × Bool)} {x y : Operand}
theorem at_copy (h : wpList P ops Q (⟨dst, .call { callee := .builtin .copy, args := #[x, y], argTypes := #[t, t'] }, ty, pos, after, g⟩ :: rest) a w) : wpList P ops Q (⟨dst, .call { callee := .builtin .copy, args := #[x, y], argTypes := #[t, t'] }, ty, pos, after, g⟩ :: rest) a w := h
/-- copy into a row of the call's own, of what is read. -/
theorem wl_copy (hgd : Region.wanted (⟨dst, .call { callee := .builtin .copy, args := #[x, y], argTypes := #[t, t'] }, ty, pos, after, g⟩ : Oper) (yielded ops a.tmps) = true) {b o n cap : Nat} (hx : a.eval x = .slice (some ⟨b, o, none⟩) n cap) (ht : P.underlying t = some (.slice e)) (hi : (P.info? e).map (·.size) = some 1)
    {sb so m mc : Nat} (hy : a.eval y = .slice (some ⟨sb, so, none⟩) m mc) {news : List Value} (hu : Rd w 1 (.slice (some ⟨sb, so, none⟩) m mc) news) (h1 : ∀ x ∈ news, x.oneCell' = true) (hm : m ≤ n)
    {c : Array Value} (hr : w.rowD b = c) (hs : w.soft b = true) (ho : o + m ≤ c.size)
    (hk : ∀ w', Wrote w w' b (splice c o news.toArray) → wpList P ops Q rest (a.put dst (goInt m)) w') : wpList P ops Q (⟨dst, .call { callee := .builtin .copy, args := #[x, y], argTypes := #[t, t'] }, ty, pos, after, g⟩ :: rest) a w := by
  refine wpList_want hgd fun K hK => ?_
  obtain ⟨_, _, _, e0, hl, _, _, _, hcell⟩ := id hu
  cases e0
  rw [Nat.mul_one] at hl
  obtain ⟨tt, htt⟩ := soft_heap hs
  have hst : ∀ ty, (Builtin.copy_ #[t, t'] ty #[.slice (some ⟨b, o, none⟩) n cap, .slice (some ⟨sb, so, none⟩) m mc]).run P w = .ok (goInt news.length) (w.setCells b o news) := fun ty =>
    run_copy_cells (P := P) w t t' ty e b o n cap ⟨sb, so, none⟩ m mc news ht hi (by rw [hl]; exact (Nat.min_eq_left hm).symm)
      (fun j v hj => by
        have hlt := (List.getElem?_eq_some_iff.1 hj).1
        obtain ⟨b', o', e1, _, e2⟩ := hcell j hlt
        cases e1
        rw [Addr.add_none, e2, hj])
      (fun j hj => by rw [cell_rowD, hr, Array.getElem?_eq_getElem (by omega)]; rfl)
      (fun j hj => frozen_of_row w b _ _ tt htt) h1
  rw [setCells_row _ w b o hs (by rw [hr]; omega), hr, hl] at hst
  have hW := wrote_setRow (c := splice c o news.toArray) hs
  unfold Oper.wp execOp
  simp only [resolve, invoke, builtin, Sem.run_bind, Sem.run_pure, Result.andThen_ok, List.map_toArray, List.map_cons, List.map_nil, hx, hy, hst]
  exact hK _ _ (hk _ hW)
end
end Go
namespace Go.Proofs.Qu
open Go Go.RowKit Go.Proofs.Nm
/-- The machine's memory: bytes that are read. -/
structure InM (R : List (Nat × Value × List Value)) (mb mo mn mc : Nat) (M : List Nat) : Prop where
  rd : (1, Value.slice (some ⟨mb, mo, none⟩) mn mc, cellsB M) ∈ R
  len : M.length = mn
  pos : 0 < mn
  most : mn ≤ 8192
  good : goodB M
theorem InM.mono {R R' : List (Nat × Value × List Value)} {mb mo mn mc : Nat} {M : List Nat} (h : InM R mb mo mn mc M) (hs : ∀ x ∈ R, x ∈ R') : InM R' mb mo mn mc M := ⟨hs _ h.rd, h.len, h.pos, h.most, h.good⟩
/-- Bytes put. -/
def putB (M : List Nat) (at_ : Nat) (D : List Nat) : List Nat := M.take at_ ++ D ++ M.drop (at_ + D.length)
theorem putB_len {M : List Nat} {p : Nat} {D : List Nat} (h : p + D.length ≤ M.length) : (putB M p D).length = M.length := by
  unfold putB
  simp only [List.length_append, List.length_take, List.length_drop]
  omega
theorem goodB_app {l m : List Nat} (h1 : goodB l) (h2 : goodB m) : goodB (l ++ m) := fun x hx => by
  rcases List.mem_append.1 hx with h | h
  · exact h1 x h
  · exact h2 x h
theorem putB_good {M : List Nat} {p : Nat} {D : List Nat} (h1 : goodB M) (h2 : goodB D) : goodB (putB M p D) :=
  goodB_app (goodB_app (fun x hx => h1 x (List.mem_of_mem_take hx)) h2) (fun x hx => h1 x (List.mem_of_mem_drop hx))
def getB (M : List Nat) (p n : Nat) : List Nat := (M.drop p).take n
theorem getB_good {M : List Nat} {p n : Nat} (h : goodB M) : goodB (getB M p n) := fun x hx => h x (List.mem_of_mem_drop (List.mem_of_mem_take hx))
theorem getB_len {M : List Nat} {p n : Nat} (h : p + n ≤ M.length) : (getB M p n).length = n := by
  unfold getB
  rw [List.length_take, List.length_drop]; omega
theorem cellsB_one' (l : List Nat) : ∀ x ∈ cellsB l, x.oneCell' = true := fun x hx => by
  unfold cellsB at hx
  obtain ⟨_, _, rfl⟩ := List.mem_map.1 hx
  rfl
theorem cellsB_app' (l m : List Nat) : cellsB (l ++ m) = cellsB l ++ cellsB m := by unfold cellsB; exact List.map_append ..
theorem sliced_row {b at_ n cap : Nat} (h : at_ < cap) : sliced (some ⟨b, 0, none⟩) at_ n cap 1 = .slice (some ⟨b, at_, none⟩) (n - at_) (cap - at_) := by
  unfold sliced
  rw [if_neg (by omega), Option.map_some, Addr.add_none, Nat.mul_one, Nat.zero_add]
theorem splice_list {c : Array Value} {o : Nat} {L : List Value} (h : o + L.length ≤ c.size) : (splice c o L.toArray).toList = c.toList.take o ++ L ++ c.toList.drop (o + L.length) := by
  apply List.ext_getElem?
  intro i
  rw [Array.getElem?_toList, get_splice _ _ _ (by simpa using h), List.getElem?_append, List.getElem?_append]
  simp only [List.size_toArray, List.length_append, List.length_take, Array.length_toList]
  rw [Nat.min_eq_left (by omega)]
  by_cases h1 : i < o
  · rw [if_pos h1, if_pos (by omega), if_pos h1, List.getElem?_take, if_pos h1, Array.getElem?_toList]
  · rw [if_neg h1]
    by_cases h2 : i < o + L.length
    · rw [if_pos h2, if_pos h2, if_neg h1, List.getElem?_toArray]
    · rw [if_neg h2, if_neg h2, List.getElem?_drop, Array.getElem?_toList]
      congr 1; omega
/-- A row of one's own that bytes are copied into. -/
theorem row_put {v : Value} {M D : List Nat} {b : Nat} {z : Array Value} {n cap : Nat} (h : AppRow (.slice (some ⟨b, 0, none⟩) n cap) 1 (cellsB M) (b, z)) {p : Nat} (hp : p + D.length ≤ M.length) : AppRow (.slice (some ⟨b, 0, none⟩) n cap) 1 (cellsB (putB M p D)) (b, splice z p (cellsB D).toArray) := by
  obtain ⟨n', cap', e, h1, h2, h3, h4, h5⟩ := h
  cases e
  rw [Nat.mul_one] at *
  rw [cellsB_len] at h1
  have hz : p + (cellsB D).length ≤ z.size := by rw [cellsB_len]; show _ ≤ z.size; have : z.size = cap := h4; omega
  refine ⟨n, cap, rfl, by rw [cellsB_len, putB_len hp]; omega, h2, h3, ?_, ?_⟩
  · show (splice z p _).size = _
    rw [size_splice _ _ _ (by simpa using hz)]; rw [Nat.mul_one]; exact h4
  · show (splice z p _).toList.take _ = _
    rw [splice_list hz, Nat.mul_one]
    unfold putB
    rw [cellsB_app', cellsB_app', cellsB_len]
    have e1 : cellsB (M.take p) = z.toList.take p := by
      have : cellsB (M.take p) = (cellsB M).take p := by unfold cellsB; exact List.map_take ..
      rw [this, ← h5, List.take_take, Nat.min_eq_left (by omega)]
    have e2 : cellsB (M.drop (p + D.length)) = (z.toList.take n).drop (p + D.length) := by
      have : cellsB (M.drop (p + D.length)) = (cellsB M).drop (p + D.length) := by unfold cellsB; exact List.map_drop ..
      rw [this, ← h5]
    rw [e1, e2]
    have hzl : z.toList.length = cap := by rw [Array.length_toList]; exact h4
    have hL : (z.toList.take p ++ cellsB D).length = p + D.length := by rw [List.length_append, List.length_take, cellsB_len, hzl]; omega
    apply List.ext_getElem?
    intro i
    rw [List.getElem?_take]
    by_cases g1 : i < p + D.length
    · rw [if_pos (by omega), List.getElem?_append_left (l₁ := z.toList.take p ++ cellsB D) (by rw [hL]; exact g1), List.getElem?_append_left (l₁ := z.toList.take p ++ cellsB D) (by rw [hL]; exact g1)]
    · rw [List.getElem?_append_right (l₁ := z.toList.take p ++ cellsB D) (by rw [hL]; omega), List.getElem?_append_right (l₁ := z.toList.take p ++ cellsB D) (by rw [hL]; omega), hL, List.getElem?_drop, List.getElem?_drop, List.getElem?_take, show p + D.length + (i - (p + D.length)) = i from by omega]
theorem perm3i {α : Type} (a b c : α) (L : List α) : (a :: b :: c :: L).Perm (b :: c :: a :: L) := (List.Perm.swap b a _).trans (.cons _ (List.Perm.swap c a _))
end Go.Proofs.Qu
namespace Go.Proofs.Ytcelehhaggoijaa
open Go.Proofs.Qu Go.Proofs.Nm Go.RowKit Go.Proofs
theorem infoM : (Try.prog.info? 25).map (·.size) = some 1 := by kernel_rfl
theorem infoU8z : (Try.prog.info? 5).map (fun i => (i.zero, i.size, i.bytes)) = some (some (.int .u8 0), 1, 1) := by kernel_rfl
theorem infoU81 : (Try.prog.info? 5).map (·.size) = some 1 := by kernel_rfl
theorem MClone_isnil (a : Option Addr) (l c : Nat) (w : World) : (binOp .eql 23 (.slice a l c) (.slice none 0 0)).run Try.prog w = .ok (.bool a.isNone) w := by
  simp [binOp, Sem.run_bind, run_equal_slice_nil w 23 _ a l c Try.underlying23]
set_option maxRecDepth 100000 in
set_option maxHeartbeats 4000000 in
theorem MClone_M {w0 w : World} {L : List (Nat × Array Value)} {R : List (Nat × Value × List Value)} {ab ao n cap : Nat} {c : List Value} (hv0 : Mem w0 w L R) (hm : (1, .slice (some ⟨ab, ao, none⟩) n cap, c) ∈ R) (h1 : ∀ x ∈ c, x.oneCell' = true) (hn : n ≤ 1000000) :
    Calls Try.prog 25 #[.slice (some ⟨ab, ao, none⟩) n cap] w fun e w' => ∃ b c3 z, e = .returned (.slice (some ⟨b, 0, none⟩) n c3) ∧ AppRow (.slice (some ⟨b, 0, none⟩) n c3) 1 c (b, z) ∧ Mem w0 w' ((b, z) :: L) R := by
  have hv := hv0
  have hl : c.length = n * 1 := by
    obtain ⟨_, _, _, e, g, _⟩ := hv.rd hm
    cases e; exact g
  have HM := Lib.hid hm
  have H1 := Lib.hid h1
  have HA1 : Hid ((([] : List Value).length + c.length) / 1 ≤ maxLen) := Lib.hid (by rw [hl]; simp only [List.length_nil]; unfold maxLen; omega)
  have HA2 : Hid ((([] : List Value).length + c.length) / 1 * 1 ≤ 140737488355328) := Lib.hid (by rw [hl]; simp only [List.length_nil]; omega)
  have HL := Lib.hid hl
  have hnil := MClone_isnil
  clear hl h1 hn hm hv0
  go_enter Try.func25, Try.ntmps25
  go_wp2_with (first
    | ((with_reducible refine at_append (t := 23) ?_); replace hv := hv.madeAt ⟨rfl, made_alloc _ #[] 5⟩; refine wl_apph rfl rfl hv (Any.AppRow.zero _ 1) (.int .u8 0) 1 Try.underlying23 infoU8z rfl (by decide) rfl (hv.rd HM.out) H1.out HA1.out HA2.out ?_; intro v3 w3 x3 hrow hv1; replace hv := hv1; clear hv1; rw [List.nil_append] at hrow; obtain ⟨x3b, x3z⟩ := x3; have hq := hrow; obtain ⟨n3, c3, rfl, g3, g4⟩ := hq; replace g3 := Lib.hid g3; clear g4; replace hrow := Lib.hid hrow))
  go_ret
  have hn3 : n3 = n := by have h9 := g3.out; rw [HL.out] at h9; omega
  subst hn3
  exact ⟨x3b, c3, rfl, x3z, hrow.out, hv⟩
set_option maxRecDepth 100000 in
set_option maxHeartbeats 4000000 in
theorem MCheck_ok (mb mo mn mc : Nat) (h : mn ≤ 8192) (w : World) : Calls Try.prog 44 #[(.agg #[(.slice (some ⟨mb, mo, none⟩) mn mc)])] w fun e w' => e = .returned (.bool true) ∧ New w w' := by
  have hv := Mem.nil w
  have y1 : decide ((mn : Int) ≤ 8192) = true := decide_eq_true (by omega)
  have z1 : decide (mn ≤ 8192) = true := decide_eq_true h
  clear h
  go_enter Try.func44, Try.ntmps44
  go_wp2_with (first
    | ((with_reducible refine at_box (T := 25) (dst := some 1) ?_); refine wl_newb rfl #[(.slice (some ⟨mb, mo, none⟩) mn mc)] 25 (fun _ => rfl) ?_; intro b1 w2 hm2; replace hv := hv.madeAt hm2; clear hm2)
    | ((with_reducible refine at_load (T := 23) ?_); refine wl_ldc rfl b1 0 rfl _ (hv.vars.row (by first | exact .head _ | exact .tail _ (.head _) | exact .tail _ (.tail _ (.head _)) | exact .tail _ (.tail _ (.tail _ (.head _))) | exact .tail _ (.tail _ (.tail _ (.tail _ (.head _)))) | exact .tail _ (.tail _ (.tail _ (.tail _ (.tail _ (.head _))))) | exact .tail _ (.tail _ (.tail _ (.tail _ (.tail _ (.tail _ (.head _)))))) | exact .tail _ (.tail _ (.tail _ (.tail _ (.tail _ (.tail _ (.tail _ (.head _))))))))) _ Try.underlying23 rfl (.slice (some ⟨mb, mo, none⟩) mn mc) rfl ?_))
  go_ret
  exact ⟨rfl, hv.below⟩
set_option maxRecDepth 100000 in
set_option maxHeartbeats 4000000 in
theorem inside_ok (mb mo mn mc p n : Nat) (h : p + n ≤ mn) (hm : mn ≤ 8192) (w : World) : Calls Try.prog 47 #[(.slice (some ⟨mb, mo, none⟩) mn mc), .int .i64 (p : Nat), .int .i64 (n : Nat)] w fun e w' => e = .returned (.bool true) ∧ New w w' := by
  have hv := Mem.nil w
  have y1 : decide ((0 : Int) ≤ (p : Int)) = true := decide_eq_true (by omega)
  have y2 : decide ((0 : Int) ≤ (n : Int)) = true := decide_eq_true (by omega)
  have y3 : decide ((n : Int) ≤ (mn : Int)) = true := decide_eq_true (by omega)
  have z3 : decide (n ≤ mn) = true := decide_eq_true (by omega)
  have q1 : IntKind.i64.wrap ((mn : Int) - (n : Int)) = (mn : Int) - (n : Int) := IntWalk.i64_in _ (by omega)
  have y4 : decide ((p : Int) ≤ (mn : Int) - (n : Int)) = true := decide_eq_true (by omega)
  clear h hm
  go_enter Try.func47, Try.ntmps47
  go_wp2
  go_ret
  exact ⟨rfl, hv.below⟩
set_option maxRecDepth 100000 in
set_option maxHeartbeats 4000000 in
theorem asked_ok (mb mo mn mc p n : Nat) (h : p + n ≤ mn) (hm : mn ≤ 8192) (w : World) : Calls Try.prog 24 #[(.agg #[(.slice (some ⟨mb, mo, none⟩) mn mc)]), .int .i64 (p : Nat), .int .i64 (n : Nat)] w fun e w' => e = .returned (.int .i64 0) ∧ New w w' := by
  have hv := Mem.nil w
  have HH := Lib.hid h
  have HM := Lib.hid hm
  clear h hm
  go_enter Try.func24, Try.ntmps24
  go_wp2_with (first
    | ((with_reducible refine at_box (T := 25) (dst := some 3) ?_); refine wl_newb rfl #[(.slice (some ⟨mb, mo, none⟩) mn mc)] 25 (fun _ => rfl) ?_; intro b3 w2 hm2; replace hv := hv.madeAt hm2; clear hm2)
    | ((with_reducible refine at_load (T := 25) ?_); refine wl_ldv rfl b3 rfl _ (hv.vars.row (by first | exact .head _ | exact .tail _ (.head _) | exact .tail _ (.tail _ (.head _)) | exact .tail _ (.tail _ (.tail _ (.head _))) | exact .tail _ (.tail _ (.tail _ (.tail _ (.head _)))) | exact .tail _ (.tail _ (.tail _ (.tail _ (.tail _ (.head _))))) | exact .tail _ (.tail _ (.tail _ (.tail _ (.tail _ (.tail _ (.head _)))))) | exact .tail _ (.tail _ (.tail _ (.tail _ (.tail _ (.tail _ (.tail _ (.head _))))))))) 1 _ Try.underlying25 rfl infoM (by decide) rfl ?_)
    | ((with_reducible refine at_load (T := 23) ?_); refine wl_ldc rfl b3 0 rfl _ (hv.vars.row (by first | exact .head _ | exact .tail _ (.head _) | exact .tail _ (.tail _ (.head _)) | exact .tail _ (.tail _ (.tail _ (.head _))) | exact .tail _ (.tail _ (.tail _ (.tail _ (.head _)))) | exact .tail _ (.tail _ (.tail _ (.tail _ (.tail _ (.head _))))) | exact .tail _ (.tail _ (.tail _ (.tail _ (.tail _ (.tail _ (.head _)))))) | exact .tail _ (.tail _ (.tail _ (.tail _ (.tail _ (.tail _ (.tail _ (.head _))))))))) _ Try.underlying23 rfl (.slice (some ⟨mb, mo, none⟩) mn mc) rfl ?_)
    | (go_at_call 44; (with_reducible refine (MCheck_ok _ _ _ _ HM.out _).mono ?_); rintro e w1 ⟨rfl, hn1⟩; replace hv := hv.new hn1; clear hn1)
    | (go_at_call 47; (with_reducible refine (inside_ok _ _ _ _ _ _ HH.out HM.out _).mono ?_); rintro e w1 ⟨rfl, hn1⟩; replace hv := hv.new hn1; clear hn1))
  go_ret
  exact ⟨rfl, hv.below⟩
set_option maxRecDepth 100000 in
set_option maxHeartbeats 4000000 in
theorem sized_ok (mb mo mn mc n : Nat) (h1 : 1 ≤ n) (h2 : n ≤ 8) (hm : mn ≤ 8192) (w : World) : Calls Try.prog 88 #[(.agg #[(.slice (some ⟨mb, mo, none⟩) mn mc)]), .int .i64 (n : Nat)] w fun e w' => e = .returned (.int .i64 0) ∧ New w w' := by
  have hv := Mem.nil w
  have HM := Lib.hid hm
  have y1 : decide ((n : Int) < 1) = false := decide_eq_false (by omega)
  have z1 : decide (n < 1) = false := decide_eq_false (by omega)
  have y2 : decide ((8 : Int) < (n : Int)) = false := decide_eq_false (by omega)
  have z2 : decide (8 < n) = false := decide_eq_false (by omega)
  clear h1 h2 hm
  go_enter Try.func88, Try.ntmps88
  go_wp2_with (first
    | ((with_reducible refine at_box (T := 25) (dst := some 2) ?_); refine wl_newb rfl #[(.slice (some ⟨mb, mo, none⟩) mn mc)] 25 (fun _ => rfl) ?_; intro b2 w2 hm2; replace hv := hv.madeAt hm2; clear hm2)
    | ((with_reducible refine at_load (T := 25) ?_); refine wl_ldv rfl b2 rfl _ (hv.vars.row (by first | exact .head _ | exact .tail _ (.head _) | exact .tail _ (.tail _ (.head _)) | exact .tail _ (.tail _ (.tail _ (.head _))) | exact .tail _ (.tail _ (.tail _ (.tail _ (.head _)))) | exact .tail _ (.tail _ (.tail _ (.tail _ (.tail _ (.head _))))) | exact .tail _ (.tail _ (.tail _ (.tail _ (.tail _ (.tail _ (.head _)))))) | exact .tail _ (.tail _ (.tail _ (.tail _ (.tail _ (.tail _ (.tail _ (.head _))))))))) 1 _ Try.underlying25 rfl infoM (by decide) rfl ?_)
    | (go_at_call 44; (with_reducible refine (MCheck_ok _ _ _ _ HM.out _).mono ?_); rintro e w1 ⟨rfl, hn1⟩; replace hv := hv.new hn1; clear hn1))
  go_ret
  exact ⟨rfl, hv.below⟩
set_option maxRecDepth 100000 in
set_option maxHeartbeats 4000000 in
theorem Get_ok {w0 w : World} {L : List (Nat × Array Value)} {R : List (Nat × Value × List Value)} {mb mo mn mc : Nat} {M : List Nat} (hv : Mem w0 w L R) (hm : InM R mb mo mn mc M) (p n : Nat) (h0 : 0 < n) (h : p + n ≤ mn) : Calls Try.prog 12 #[(.agg #[(.slice (some ⟨mb, mo, none⟩) mn mc)]), .int .i64 (p : Nat), .int .i64 (n : Nat)] w fun e w' => ∃ b c R', e = .returned (.tuple #[.slice (some ⟨b, 0, none⟩) n c, .int .i64 0]) ∧ Mem w0 w' L R' ∧ (1, .slice (some ⟨b, 0, none⟩) n c, cellsB (getB M p n)) ∈ R' ∧ ∀ x ∈ R, x ∈ R' := by
  have HM := Lib.hid hm
  have HH := Lib.hid h
  have HN0 := Lib.hid h0
  have HHL : Hid (p + n ≤ M.length) := Lib.hid (by rw [hm.len]; exact h)
  have HLL : Hid (p + n - p = n) := Lib.hid (by omega)
  have HGB : Hid (((cellsB M).drop (p * 1)).take (n * 1) = cellsB (getB M p n)) := Lib.hid (by rw [Nat.mul_one, Nat.mul_one]; unfold getB cellsB; rw [List.map_take, List.map_drop])
  have HC : Hid (p + n ≤ mc) := Lib.hid (by
    obtain ⟨_, _, _, e, _, g, _⟩ := hv.rd hm.rd
    cases e; omega)
  have HM8 : Hid (mn ≤ 8192) := Lib.hid hm.most
  have HN6 : Hid (n ≤ 1000000) := Lib.hid (by have := hm.most; omega)
  have hb : (p : Int) + (n : Int) ≤ 8192 := by have := hm.most; omega
  have q1 : IntKind.i64.wrap ((p : Int) + (n : Int)) = (p : Int) + (n : Int) := IntWalk.i64_in _ (by omega)
  have HPN : Hid (Value.int .i64 ((p : Int) + (n : Int)) = Value.int .i64 ((p + n : Nat) : Int)) := Lib.hid rfl
  clear hm h h0
  have hvL := hv
  go_enter Try.func12, Try.ntmps12
  go_wp2_with (first
    | ((with_reducible refine at_box (T := 25) (dst := some 3) ?_); refine wl_newb rfl #[(.slice (some ⟨mb, mo, none⟩) mn mc)] 25 (fun _ => rfl) ?_; intro b3 w2 hm2; replace hv := hv.madeAt hm2; clear hm2)
    | ((with_reducible refine at_load (T := 25) ?_); refine wl_ldv rfl b3 rfl _ (hv.vars.row (by first | exact .head _ | exact .tail _ (.head _) | exact .tail _ (.tail _ (.head _)) | exact .tail _ (.tail _ (.tail _ (.head _))) | exact .tail _ (.tail _ (.tail _ (.tail _ (.head _)))) | exact .tail _ (.tail _ (.tail _ (.tail _ (.tail _ (.head _))))) | exact .tail _ (.tail _ (.tail _ (.tail _ (.tail _ (.tail _ (.head _)))))) | exact .tail _ (.tail _ (.tail _ (.tail _ (.tail _ (.tail _ (.tail _ (.head _))))))))) 1 _ Try.underlying25 rfl infoM (by decide) rfl ?_)
    | ((with_reducible refine at_load (T := 23) ?_); refine wl_ldc rfl b3 0 rfl _ (hv.vars.row (by first | exact .head _ | exact .tail _ (.head _) | exact .tail _ (.tail _ (.head _)) | exact .tail _ (.tail _ (.tail _ (.head _))) | exact .tail _ (.tail _ (.tail _ (.tail _ (.head _)))) | exact .tail _ (.tail _ (.tail _ (.tail _ (.tail _ (.head _))))) | exact .tail _ (.tail _ (.tail _ (.tail _ (.tail _ (.tail _ (.head _)))))) | exact .tail _ (.tail _ (.tail _ (.tail _ (.tail _ (.tail _ (.tail _ (.head _))))))))) _ Try.underlying23 rfl (.slice (some ⟨mb, mo, none⟩) mn mc) rfl ?_)
    | (go_at_call 24; (with_reducible refine (asked_ok _ _ _ _ _ _ HH.out HM8.out _).mono ?_); rintro e w1 ⟨rfl, hn1⟩; replace hv := hv.new hn1; clear hn1)
    | ((with_reducible refine at_slice (T := 23) ?_); refine wl_slice_lhm rfl rfl hv HM.out.rd Try.underlying23 infoU81 p (p + n) (p + n) rfl HPN.out HPN.out (Nat.le_add_right _ _) HH.out (Nat.le_refl _) HC.out ?_; intro ao hv1; replace hv := hv1; clear hv1; rw [HLL.out, HGB.out] at hv; obtain ⟨ab, ao2, _, _, e9, hq9⟩ := (hv.rd Mem.z).some (by rw [cellsB_len, getB_len HHL.out]; exact HN0.out); clear hq9; cases e9)
    | (go_at_call 25; (with_reducible refine (MClone_M hv Mem.z (cellsB_one' _) HN6.out).mono ?_); rintro e w1 ⟨vb, vc, vz, rfl, hrow, hv1⟩; have hv2 := Mem.yield (L1 := []) hv1 hrow; replace hv := hv2; clear hv1 hv2 hrow; simp only [List.nil_append] at hv))
  go_ret2
  exact ⟨vb, vc, _, rfl, hv.drop, Mem.z, fun x hx => Mem.s (Mem.s hx)⟩
theorem built_mem (b n c : Nat) : Try.prog.built 25 [(0, .slice (some ⟨b, 0, none⟩) n c)] = some #[.slice (some ⟨b, 0, none⟩) n c] := by kernel_rfl
set_option maxRecDepth 100000 in
set_option maxHeartbeats 4000000 in
theorem Put_row {w0 w : World} {L : List (Nat × Array Value)} {R : List (Nat × Value × List Value)} {mb mo mn mc : Nat} {M : List Nat} (hv : Mem w0 w L R) (hm : InM R mb mo mn mc M) (p : Nat) {db do_ dn dc : Nat} {D : List Nat} (hd : (1, .slice (some ⟨db, do_, none⟩) dn dc, cellsB D) ∈ R) (hg : goodB D) (h0 : 0 < dn) (h : p + dn ≤ mn) : Calls Try.prog 18 #[(.agg #[(.slice (some ⟨mb, mo, none⟩) mn mc)]), .int .i64 (p : Nat), .slice (some ⟨db, do_, none⟩) dn dc] w fun e w' => ∃ b c, e = .returned (.tuple #[.agg #[.slice (some ⟨b, 0, none⟩) mn c], .int .i64 0]) ∧ ∃ z, AppRow (.slice (some ⟨b, 0, none⟩) mn c) 1 (cellsB (putB M p D)) (b, z) ∧ Mem w0 w' ((b, z) :: L) R := by
  have HM := Lib.hid hm
  have HH := Lib.hid h
  have HD := Lib.hid hd
  have HG := Lib.hid hg
  have hdl : D.length = dn := by
    obtain ⟨_, _, _, e, g, _⟩ := hv.rd hd
    cases e
    rw [cellsB_len] at g; omega
  have HDL := Lib.hid hdl
  have HPL : Hid (p ≤ mn) := Lib.hid (by omega)
  have HDN : Hid (dn ≤ mn - p) := Lib.hid (by omega)
  have HPM : Hid (p + D.length ≤ M.length) := Lib.hid (by rw [hm.len]; omega)
  have HM8 : Hid (mn ≤ 8192) := Lib.hid hm.most
  have HN6 : Hid (mn ≤ 1000000) := Lib.hid (by have := hm.most; omega)
  have HCV : Hid (∀ (vc : Nat) {b : Nat} {z : Array Value}, AppRow (.slice (some ⟨b, 0, none⟩) mn vc) 1 (cellsB M) (b, z) → p < vc) := Lib.hid (fun vc b z hr => by
    obtain ⟨_, _, e, _, g, _⟩ := hr
    cases e; omega)
  have HSZ : Hid (∀ (vc : Nat) {b : Nat} (z : Array Value), AppRow (.slice (some ⟨b, 0, none⟩) mn vc) 1 (cellsB M) (b, z) → p + dn ≤ z.size) := Lib.hid (fun vc b z hr => by
    obtain ⟨_, _, e, _, g, _, g2, _⟩ := hr
    cases e
    have : z.size = vc * 1 := g2
    omega)
  clear hm h h0 hd hg hdl
  go_enter Try.func18, Try.ntmps18
  go_wp2_with (first
    | ((with_reducible refine at_box (T := 25) (dst := some 3) ?_); refine wl_newb rfl #[(.slice (some ⟨mb, mo, none⟩) mn mc)] 25 (fun _ => rfl) ?_; intro b3 w2 hm2; replace hv := hv.madeAt hm2; clear hm2)
    | ((with_reducible refine at_alloc (T := 25) (dst := some 6) ?_); refine wl_newb rfl #[.slice none 0 0] 25 (fun _ => rfl) ?_; intro b6 w2 hm2; replace hv := hv.madeAt hm2; clear hm2)
    | ((with_reducible refine at_load (T := 25) ?_); refine wl_ldv rfl b3 rfl _ (hv.vars.row (by first | exact .head _ | exact .tail _ (.head _) | exact .tail _ (.tail _ (.head _)) | exact .tail _ (.tail _ (.tail _ (.head _))) | exact .tail _ (.tail _ (.tail _ (.tail _ (.head _)))) | exact .tail _ (.tail _ (.tail _ (.tail _ (.tail _ (.head _))))) | exact .tail _ (.tail _ (.tail _ (.tail _ (.tail _ (.tail _ (.head _)))))) | exact .tail _ (.tail _ (.tail _ (.tail _ (.tail _ (.tail _ (.tail _ (.head _))))))))) 1 _ Try.underlying25 rfl infoM (by decide) rfl ?_)
    | ((with_reducible refine at_load (T := 23) ?_); refine wl_ldc rfl b3 0 rfl _ (hv.vars.row (by first | exact .head _ | exact .tail _ (.head _) | exact .tail _ (.tail _ (.head _)) | exact .tail _ (.tail _ (.tail _ (.head _))) | exact .tail _ (.tail _ (.tail _ (.tail _ (.head _)))) | exact .tail _ (.tail _ (.tail _ (.tail _ (.tail _ (.head _))))) | exact .tail _ (.tail _ (.tail _ (.tail _ (.tail _ (.tail _ (.head _)))))) | exact .tail _ (.tail _ (.tail _ (.tail _ (.tail _ (.tail _ (.tail _ (.head _))))))))) _ Try.underlying23 rfl (.slice (some ⟨mb, mo, none⟩) mn mc) rfl ?_)
    | (go_at_call 24; (with_reducible refine (asked_ok _ _ _ _ _ _ HH.out HM8.out _).mono ?_); rintro e w1 ⟨rfl, hn1⟩; replace hv := hv.new hn1; clear hn1)
    | (go_at_call 25; (with_reducible refine (MClone_M hv HM.out.rd (cellsB_one' _) HN6.out).mono ?_); rintro e w1 ⟨vb, vc, vz, rfl, hrow, hv1⟩; replace hv := hv1; clear hv1)
    | ((with_reducible refine at_slice (T := 23) ?_); refine wl_sliceVl rfl rfl Try.underlying23 infoU81 p rfl HPL.out (sliced_row (HCV.out vc hrow)) ?_)
    | ((with_reducible refine at_copy (t := 23) (t' := 23) ?_); go_must (refine wl_copy rfl rfl Try.underlying23 infoU81 rfl (hv.rd HD.out) (cellsB_one' _) HDN.out (c := vz) (hv.vars.row (b := vb) (List.mem_cons_self ..)) (hv.vars.sft (b := vb) (c := vz) (List.mem_cons_self ..)) (HSZ.out vc vz hrow) ?_; intro w2 hw2; replace hv := hv.set 0 rfl hw2; simp only [List.set] at hv; clear hw2; replace hrow := row_put (v := .int .i64 0) hrow HPM.out))
    | ((with_reducible refine at_build ?_); refine wl_build rfl [(0, .slice (some ⟨vb, 0, none⟩) mn vc)] rfl (built_mem _ _ _) ?_)
    | ((with_reducible refine at_store (T := 25) ?_); refine wl_stv rfl b6 rfl _ rfl _ (hv.vars.row (by first | exact .head _ | exact .tail _ (.head _) | exact .tail _ (.tail _ (.head _)) | exact .tail _ (.tail _ (.tail _ (.head _))) | exact .tail _ (.tail _ (.tail _ (.tail _ (.head _)))) | exact .tail _ (.tail _ (.tail _ (.tail _ (.tail _ (.head _))))) | exact .tail _ (.tail _ (.tail _ (.tail _ (.tail _ (.tail _ (.head _)))))) | exact .tail _ (.tail _ (.tail _ (.tail _ (.tail _ (.tail _ (.tail _ (.head _))))))))) (hv.vars.sft (by first | exact .head _ | exact .tail _ (.head _) | exact .tail _ (.tail _ (.head _)) | exact .tail _ (.tail _ (.tail _ (.head _))) | exact .tail _ (.tail _ (.tail _ (.tail _ (.head _)))) | exact .tail _ (.tail _ (.tail _ (.tail _ (.tail _ (.head _))))) | exact .tail _ (.tail _ (.tail _ (.tail _ (.tail _ (.tail _ (.head _)))))) | exact .tail _ (.tail _ (.tail _ (.tail _ (.tail _ (.tail _ (.tail _ (.head _))))))))) 1 infoM rfl rfl (by simp [Value.oneCell']) ?_; intro w2 hw2; (first | (replace hv := hv.set 0 rfl hw2) | (replace hv := hv.set 1 rfl hw2) | (replace hv := hv.set 2 rfl hw2) | (replace hv := hv.set 3 rfl hw2)); clear hw2; simp only [List.set] at hv))
  try simp only [Exit.inBlock, Exit.then]
  refine ret_cell2 (v := .agg #[.slice (some ⟨vb, 0, none⟩) mn vc]) (v1 := .int .i64 0) rfl rfl (read_row _ b6 25 _ (hv.vars.row (b := b6) (by first | exact .head _ | exact .tail _ (.head _) | exact .tail _ (.tail _ (.head _)) | exact .tail _ (.tail _ (.tail _ (.head _))) | exact .tail _ (.tail _ (.tail _ (.tail _ (.head _)))) | exact .tail _ (.tail _ (.tail _ (.tail _ (.tail _ (.head _))))) | exact .tail _ (.tail _ (.tail _ (.tail _ (.tail _ (.tail _ (.head _)))))) | exact .tail _ (.tail _ (.tail _ (.tail _ (.tail _ (.tail _ (.tail _ (.head _))))))))) 1 _ Try.underlying25 rfl infoM (by decide) rfl) rfl rfl ?_
  exact ⟨vb, vc, rfl, _, hrow, (hv.perm (perm3i (vb, _) _ _ L)).drop.drop⟩
theorem Put_ok {w0 w : World} {L : List (Nat × Array Value)} {R : List (Nat × Value × List Value)} {mb mo mn mc : Nat} {M : List Nat} (hv : Mem w0 w L R) (hm : InM R mb mo mn mc M) (p : Nat) {db do_ dn dc : Nat} {D : List Nat} (hd : (1, .slice (some ⟨db, do_, none⟩) dn dc, cellsB D) ∈ R) (hg : goodB D) (h0 : 0 < dn) (h : p + dn ≤ mn) : Calls Try.prog 18 #[(.agg #[(.slice (some ⟨mb, mo, none⟩) mn mc)]), .int .i64 (p : Nat), .slice (some ⟨db, do_, none⟩) dn dc] w fun e w' => ∃ b c R', e = .returned (.tuple #[.agg #[.slice (some ⟨b, 0, none⟩) mn c], .int .i64 0]) ∧ Mem w0 w' L R' ∧ InM R' b 0 mn c (putB M p D) ∧ ∀ x ∈ R, x ∈ R' := by
  have hdl : D.length = dn := by
    obtain ⟨_, _, _, e, g, _⟩ := hv.rd hd
    cases e
    rw [cellsB_len] at g; omega
  refine (Put_row hv hm p hd hg h0 h).mono ?_
  rintro e w' ⟨b, c, rfl, z, hrow, hv1⟩
  have hv2 := Mem.yield (L1 := []) hv1 hrow
  simp only [List.nil_append] at hv2
  exact ⟨b, c, _, rfl, hv2, ⟨Mem.z, by rw [putB_len (by rw [hm.len]; omega)]; exact hm.len, hm.pos, hm.most, putB_good hm.good hg⟩, fun x hx => Mem.s hx⟩
end Go.Proofs.Ytcelehhaggoijaa
