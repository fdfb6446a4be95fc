import Derived.Test.YtjmibgomkgkhnaaGreatQuNum
import Derived.Test.YtjmibgomkgkhnaaGreatGen
import Derived.Test.YtjmibgomkgkhnaaGreatAnyZ
set_option linter.unusedSimpArgs false
set_option linter.unusedVariables false
set_option maxRecDepth 100000
set_option maxHeartbeats 4000000
section
/-
 Machine memory (layer 4) where nothing is wrong: bytes are got and put, numbers too.
-/
namespace Go
open Go.RowKit
section
variable {P : Program} {ops : Array Oper} {rest : List Oper} {a : Act} {w : World} {Q : Exit → Act → World → Prop}
variable {dst : Option Tmp} {ty t t' : TypeId} {e : TypeId} {pos : String} {after : Array Edge} {g : Option (Nat × Bool)} {x y : Operand}
theorem at_copy (h : wpList P ops Q (⟨dst, .call { callee := .builtin .copy, args := #[x, y], argTypes := #[t, t'] }, ty, pos, after, g⟩ :: rest) a w) : wpList P ops Q (⟨dst, .call { callee := .builtin .copy, args := #[x, y], argTypes := #[t, t'] }, ty, pos, after, g⟩ :: rest) a w := h
theorem wl_copy (hgd : Region.wanted (⟨dst, .call { callee := .builtin .copy, args := #[x, y], argTypes := #[t, t'] }, ty, pos, after, g⟩ : Oper) (yielded ops a.tmps) = true) {b o n cap : Nat} (hx : a.eval x = .slice (some ⟨b, o, none⟩) n cap) (ht : P.underlying t = some (.slice e)) (hi : (P.info? e).map (·.size) = some 1)
   {sb so m mc : Nat} (hy : a.eval y = .slice (some ⟨sb, so, none⟩) m mc) {news : List Value} (hu : Rd w 1 (.slice (some ⟨sb, so, none⟩) m mc) news) (h1 : ∀ x ∈ news, x.oneCell' = true) (hm : m ≤ n)
   {c : Array Value} (hr : w.rowD b = c) (hs : w.soft b = true) (ho : o + m ≤ c.size)
   (hk : ∀ w', Wrote w w' b (splice c o news.toArray) → wpList P ops Q rest (a.put dst (goInt m)) w') : wpList P ops Q (⟨dst, .call { callee := .builtin .copy, args := #[x, y], argTypes := #[t, t'] }, ty, pos, after, g⟩ :: rest) a w := by
 refine wpList_want hgd fun K hK => ?_
 obtain ⟨_, _, _, e0, hl, _, _, _, hcell⟩ := id hu
 cases e0
 rw [Nat.mul_one] at hl
 obtain ⟨tt, htt⟩ := soft_heap hs
 have hst : ∀ ty, (Builtin.copy_ #[t, t'] ty #[.slice (some ⟨b, o, none⟩) n cap, .slice (some ⟨sb, so, none⟩) m mc]).run P w = .ok (goInt news.length) (w.setCells b o news) := fun ty =>
   run_copy_cells (P := P) w t t' ty e b o n cap ⟨sb, so, none⟩ m mc news ht hi (by rw [hl]; exact (Nat.min_eq_left hm).symm)
     (fun j v hj => by
       have hlt := (List.getElem?_eq_some_iff.1 hj).1
       obtain ⟨b', o', e1, _, e2⟩ := hcell j hlt
       cases e1
       rw [Addr.add_none, e2, hj])
     (fun j hj => by rw [cell_rowD, hr, Array.getElem?_eq_getElem (by omega)]; rfl)
     (fun j hj => frozen_of_row w b _ _ tt htt) h1
 rw [setCells_row _ w b o hs (by rw [hr]; omega), hr, hl] at hst
 have hW := wrote_setRow (c := splice c o news.toArray) hs
 unfold Oper.wp execOp
 simp only [resolve, invoke, builtin, Sem.run_bind, Sem.run_pure, Result.andThen_ok, List.map_toArray, List.map_cons, List.map_nil, hx, hy, hst]
 exact hK _ _ (hk _ hW)
end
end Go
namespace Go.Proofs.Qu
open Go Go.RowKit Go.Proofs.Nm
structure InM (R : List (Nat × Value × List Value)) (mb mo mn mc : Nat) (M : List Nat) : Prop where
 rd : (1, Value.slice (some ⟨mb, mo, none⟩) mn mc, cellsB M) ∈ R
 len : M.length = mn
 pos : 0 < mn
 most : mn ≤ 8192
 good : goodB M
theorem InM.mono {R R' : List (Nat × Value × List Value)} {mb mo mn mc : Nat} {M : List Nat} (h : InM R mb mo mn mc M) (hs : ∀ x ∈ R, x ∈ R') : InM R' mb mo mn mc M := ⟨hs _ h.rd, h.len, h.pos, h.most, h.good⟩
def putB (M : List Nat) (at_ : Nat) (D : List Nat) : List Nat := M.take at_ ++ D ++ M.drop (at_ + D.length)
theorem putB_len {M : List Nat} {p : Nat} {D : List Nat} (h : p + D.length ≤ M.length) : (putB M p D).length = M.length := by
 unfold putB
 simp only [List.length_append, List.length_take, List.length_drop]
 omega
theorem goodB_app {l m : List Nat} (h1 : goodB l) (h2 : goodB m) : goodB (l ++ m) := fun x hx => by
 rcases List.mem_append.1 hx with h | h
 · exact h1 x h
 · exact h2 x h
theorem putB_good {M : List Nat} {p : Nat} {D : List Nat} (h1 : goodB M) (h2 : goodB D) : goodB (putB M p D) :=
 goodB_app (goodB_app (fun x hx => h1 x (List.mem_of_mem_take hx)) h2) (fun x hx => h1 x (List.mem_of_mem_drop hx))
def getB (M : List Nat) (p n : Nat) : List Nat := (M.drop p).take n
theorem getB_good {M : List Nat} {p n : Nat} (h : goodB M) : goodB (getB M p n) := fun x hx => h x (List.mem_of_mem_drop (List.mem_of_mem_take hx))
theorem getB_len {M : List Nat} {p n : Nat} (h : p + n ≤ M.length) : (getB M p n).length = n := by
 unfold getB
 rw [List.length_take, List.length_drop]; omega
theorem cellsB_one' (l : List Nat) : ∀ x ∈ cellsB l, x.oneCell' = true := fun x hx => by
 unfold cellsB at hx
 obtain ⟨_, _, rfl⟩ := List.mem_map.1 hx
 rfl
theorem cellsB_app' (l m : List Nat) : cellsB (l ++ m) = cellsB l ++ cellsB m := by unfold cellsB; exact List.map_append ..
theorem sliced_row {b at_ n cap : Nat} (h : at_ < cap) : sliced (some ⟨b, 0, none⟩) at_ n cap 1 = .slice (some ⟨b, at_, none⟩) (n - at_) (cap - at_) := by
 unfold sliced
 rw [if_neg (by omega), Option.map_some, Addr.add_none, Nat.mul_one, Nat.zero_add]
theorem splice_list {c : Array Value} {o : Nat} {L : List Value} (h : o + L.length ≤ c.size) : (splice c o L.toArray).toList = c.toList.take o ++ L ++ c.toList.drop (o + L.length) := by
 apply List.ext_getElem?
 intro i
 rw [Array.getElem?_toList, get_splice _ _ _ (by simpa using h), List.getElem?_append, List.getElem?_append]
 simp only [List.size_toArray, List.length_append, List.length_take, Array.length_toList]
 rw [Nat.min_eq_left (by omega)]
 by_cases h1 : i < o
 · rw [if_pos h1, if_pos (by omega), if_pos h1, List.getElem?_take, if_pos h1, Array.getElem?_toList]
 · rw [if_neg h1]
   by_cases h2 : i < o + L.length
   · rw [if_pos h2, if_pos h2, if_neg h1, List.getElem?_toArray]
   · rw [if_neg h2, if_neg h2, List.getElem?_drop, Array.getElem?_toList]
     congr 1; omega
theorem row_put {v : Value} {M D : List Nat} {b : Nat} {z : Array Value} {n cap : Nat} (h : AppRow (.slice (some ⟨b, 0, none⟩) n cap) 1 (cellsB M) (b, z)) {p : Nat} (hp : p + D.length ≤ M.length) : AppRow (.slice (some ⟨b, 0, none⟩) n cap) 1 (cellsB (putB M p D)) (b, splice z p (cellsB D).toArray) := by
 obtain ⟨n', cap', e, h1, h2, h3, h4, h5⟩ := h
 cases e
 rw [Nat.mul_one] at *
 rw [cellsB_len] at h1
 have hz : p + (cellsB D).length ≤ z.size := by rw [cellsB_len]; show _ ≤ z.size; have : z.size = cap := h4; omega
 refine ⟨n, cap, rfl, by rw [cellsB_len, putB_len hp]; omega, h2, h3, ?_, ?_⟩
 · show (splice z p _).size = _
   rw [size_splice _ _ _ (by simpa using hz)]; rw [Nat.mul_one]; exact h4
 · show (splice z p _).toList.take _ = _
   rw [splice_list hz, Nat.mul_one]
   unfold putB
   rw [cellsB_app', cellsB_app', cellsB_len]
   have e1 : cellsB (M.take p) = z.toList.take p := by
     have : cellsB (M.take p) = (cellsB M).take p := by unfold cellsB; exact List.map_take ..
     rw [this, ← h5, List.take_take, Nat.min_eq_left (by omega)]
   have e2 : cellsB (M.drop (p + D.length)) = (z.toList.take n).drop (p + D.length) := by
     have : cellsB (M.drop (p + D.length)) = (cellsB M).drop (p + D.length) := by unfold cellsB; exact List.map_drop ..
     rw [this, ← h5]
   rw [e1, e2]
   have hzl : z.toList.length = cap := by rw [Array.length_toList]; exact h4
   have hL : (z.toList.take p ++ cellsB D).length = p + D.length := by rw [List.length_append, List.length_take, cellsB_len, hzl]; omega
   apply List.ext_getElem?
   intro i
   rw [List.getElem?_take]
   by_cases g1 : i < p + D.length
   · rw [if_pos (by omega), List.getElem?_append_left (l₁ := z.toList.take p ++ cellsB D) (by rw [hL]; exact g1), List.getElem?_append_left (l₁ := z.toList.take p ++ cellsB D) (by rw [hL]; exact g1)]
   · rw [List.getElem?_append_right (l₁ := z.toList.take p ++ cellsB D) (by rw [hL]; omega), List.getElem?_append_right (l₁ := z.toList.take p ++ cellsB D) (by rw [hL]; omega), hL, List.getElem?_drop, List.getElem?_drop, List.getElem?_take, show p + D.length + (i - (p + D.length)) = i from by omega]
theorem perm3i {α : Type} (a b c : α) (L : List α) : (a :: b :: c :: L).Perm (b :: c :: a :: L) := (List.Perm.swap b a _).trans (.cons _ (List.Perm.swap c a _))
end Go.Proofs.Qu
namespace Go.Proofs.YtjmibgomkgkhnaaGreat
open Go.Proofs.Qu Go.Proofs.Nm Go.RowKit Go.Proofs
theorem infoM : (Tryz.prog.info? 26).map (·.size) = some 1 := by kernel_rfl
theorem infoU8z : (Tryz.prog.info? 5).map (fun i => (i.zero, i.size, i.bytes)) = some (some (.int .u8 0), 1, 1) := by kernel_rfl
theorem infoU81 : (Tryz.prog.info? 5).map (·.size) = some 1 := by kernel_rfl
theorem MClone_isnil (a : Option Addr) (l c : Nat) (w : World) : (binOp .eql 24 (.slice a l c) (.slice none 0 0)).run Tryz.prog w = .ok (.bool a.isNone) w := by
 simp [binOp, Sem.run_bind, run_equal_slice_nil w 24 _ a l c Tryz.underlying24]
theorem MClone_M {w0 w : World} {L : List (Nat × Array Value)} {R : List (Nat × Value × List Value)} {ab ao n cap : Nat} {c : List Value} (hv0 : Mem w0 w L R) (hm : (1, .slice (some ⟨ab, ao, none⟩) n cap, c) ∈ R) (h1 : ∀ x ∈ c, x.oneCell' = true) (hn : n ≤ 1000000) :
   Calls Tryz.prog 56 #[.slice (some ⟨ab, ao, none⟩) n cap] w fun e w' => ∃ b c3 z, e = .returned (.slice (some ⟨b, 0, none⟩) n c3) ∧ AppRow (.slice (some ⟨b, 0, none⟩) n c3) 1 c (b, z) ∧ Mem w0 w' ((b, z) :: L) R := by
 have hv := hv0
 have hl : c.length = n * 1 := by
   obtain ⟨_, _, _, e, g, _⟩ := hv.rd hm
   cases e; exact g
 have HM := Lib.hid hm
 have H1 := Lib.hid h1
 have HA1 : Hid ((([] : List Value).length + c.length) / 1 ≤ maxLen) := Lib.hid (by rw [hl]; simp only [List.length_nil]; unfold maxLen; omega)
 have HA2 : Hid ((([] : List Value).length + c.length) / 1 * 1 ≤ 140737488355328) := Lib.hid (by rw [hl]; simp only [List.length_nil]; omega)
 have HL := Lib.hid hl
 have hnil := MClone_isnil
 clear hl h1 hn hm hv0
 go_enter Tryz.func56, Tryz.ntmps56
 go_wp2_with (first
   | ((with_reducible refine at_append (t := 24) ?_); replace hv := hv.madeAt ⟨rfl, made_alloc _ #[] 5⟩; refine wl_apph rfl rfl hv (Any.AppRow.zero _ 1) (.int .u8 0) 1 Tryz.underlying24 infoU8z rfl (by decide) rfl (hv.rd HM.out) H1.out HA1.out HA2.out ?_; intro v3 w3 x3 hrow hv1; replace hv := hv1; clear hv1; rw [List.nil_append] at hrow; obtain ⟨x3b, x3z⟩ := x3; have hq := hrow; obtain ⟨n3, c3, rfl, g3, g4⟩ := hq; replace g3 := Lib.hid g3; clear g4; replace hrow := Lib.hid hrow))
 go_ret
 have hn3 : n3 = n := by have h9 := g3.out; rw [HL.out] at h9; omega
 subst hn3
 exact ⟨x3b, c3, rfl, x3z, hrow.out, hv⟩
theorem MCheck_ok (mb mo mn mc : Nat) (h : mn ≤ 8192) (w : World) : Calls Tryz.prog 86 #[(.agg #[(.slice (some ⟨mb, mo, none⟩) mn mc)])] w fun e w' => e = .returned (.bool true) ∧ New w w' := by
 have hv := Mem.nil w
 have y1 : decide ((mn : Int) ≤ 8192) = true := decide_eq_true (by omega)
 have z1 : decide (mn ≤ 8192) = true := decide_eq_true h
 clear h
 go_enter Tryz.func86, Tryz.ntmps86
 go_wp2_with (first
   | ((with_reducible refine at_box (T := 26) (dst := some 1) ?_); refine wl_newb rfl #[(.slice (some ⟨mb, mo, none⟩) mn mc)] 26 (fun _ => rfl) ?_; intro b1 w2 hm2; replace hv := hv.madeAt hm2; clear hm2)
   | ((with_reducible refine at_load (T := 24) ?_); refine wl_ldc rfl b1 0 rfl _ hv.vars.ro _ Tryz.underlying24 rfl (.slice (some ⟨mb, mo, none⟩) mn mc) rfl ?_))
 go_ret
 exact ⟨rfl, hv.below⟩
theorem inside_ok (mb mo mn mc p n : Nat) (h : p + n ≤ mn) (hm : mn ≤ 8192) (w : World) : Calls Tryz.prog 89 #[(.slice (some ⟨mb, mo, none⟩) mn mc), .int .i64 p, .int .i64 n] w fun e w' => e = .returned (.bool true) ∧ New w w' := by
 have hv := Mem.nil w
 have y1 : decide ((0 : Int) ≤ (p : Int)) = true := decide_eq_true (by omega)
 have y2 : decide ((0 : Int) ≤ (n : Int)) = true := decide_eq_true (by omega)
 have y3 : decide ((n : Int) ≤ (mn : Int)) = true := decide_eq_true (by omega)
 have z3 : decide (n ≤ mn) = true := decide_eq_true (by omega)
 have q1 : IntKind.i64.wrap ((mn : Int) - (n : Int)) = (mn : Int) - (n : Int) := IntWalk.i64_in _ (by omega)
 have y4 : decide ((p : Int) ≤ (mn : Int) - (n : Int)) = true := decide_eq_true (by omega)
 clear h hm
 go_enter Tryz.func89, Tryz.ntmps89
 go_wp2
 go_ret
 exact ⟨rfl, hv.below⟩
theorem asked_ok (mb mo mn mc p n : Nat) (h : p + n ≤ mn) (hm : mn ≤ 8192) (w : World) : Calls Tryz.prog 55 #[(.agg #[(.slice (some ⟨mb, mo, none⟩) mn mc)]), .int .i64 p, .int .i64 n] w fun e w' => e = .returned (.int .i64 0) ∧ New w w' := by
 have hv := Mem.nil w
 have HH := Lib.hid h
 have HM := Lib.hid hm
 clear h hm
 go_enter Tryz.func55, Tryz.ntmps55
 go_wp2_with (first
   | ((with_reducible refine at_box (T := 26) (dst := some 3) ?_); refine wl_newb rfl #[(.slice (some ⟨mb, mo, none⟩) mn mc)] 26 (fun _ => rfl) ?_; intro b3 w2 hm2; replace hv := hv.madeAt hm2; clear hm2)
   | ((with_reducible refine at_load (T := 26) ?_); refine wl_ldv rfl b3 rfl _ hv.vars.ro 1 _ Tryz.underlying26 rfl infoM (by decide) rfl ?_)
   | ((with_reducible refine at_load (T := 24) ?_); refine wl_ldc rfl b3 0 rfl _ hv.vars.ro _ Tryz.underlying24 rfl (.slice (some ⟨mb, mo, none⟩) mn mc) rfl ?_)
   | (go_at_call 86; (with_reducible refine (MCheck_ok _ _ _ _ HM.out _).mono ?_); rintro e w1 ⟨rfl, hn1⟩; replace hv := hv.new hn1; clear hn1)
   | (go_at_call 89; (with_reducible refine (inside_ok _ _ _ _ _ _ HH.out HM.out _).mono ?_); rintro e w1 ⟨rfl, hn1⟩; replace hv := hv.new hn1; clear hn1))
 go_ret
 exact ⟨rfl, hv.below⟩
theorem sized_ok (mb mo mn mc n : Nat) (h1 : 1 ≤ n) (h2 : n ≤ 8) (hm : mn ≤ 8192) (w : World) : Calls Tryz.prog 80 #[(.agg #[(.slice (some ⟨mb, mo, none⟩) mn mc)]), .int .i64 n] w fun e w' => e = .returned (.int .i64 0) ∧ New w w' := by
 have hv := Mem.nil w
 have HM := Lib.hid hm
 have y1 : decide ((n : Int) < 1) = false := decide_eq_false (by omega)
 have z1 : decide (n < 1) = false := decide_eq_false (by omega)
 have y2 : decide ((8 : Int) < (n : Int)) = false := decide_eq_false (by omega)
 have z2 : decide (8 < n) = false := decide_eq_false (by omega)
 clear h1 h2 hm
 go_enter Tryz.func80, Tryz.ntmps80
 go_wp2_with (first
   | ((with_reducible refine at_box (T := 26) (dst := some 2) ?_); refine wl_newb rfl #[(.slice (some ⟨mb, mo, none⟩) mn mc)] 26 (fun _ => rfl) ?_; intro b2 w2 hm2; replace hv := hv.madeAt hm2; clear hm2)
   | ((with_reducible refine at_load (T := 26) ?_); refine wl_ldv rfl b2 rfl _ hv.vars.ro 1 _ Tryz.underlying26 rfl infoM (by decide) rfl ?_)
   | (go_at_call 86; (with_reducible refine (MCheck_ok _ _ _ _ HM.out _).mono ?_); rintro e w1 ⟨rfl, hn1⟩; replace hv := hv.new hn1; clear hn1))
 go_ret
 exact ⟨rfl, hv.below⟩
theorem Get_ok {w0 w : World} {L : List (Nat × Array Value)} {R : List (Nat × Value × List Value)} {mb mo mn mc : Nat} {M : List Nat} (hv : Mem w0 w L R) (hm : InM R mb mo mn mc M) (p n : Nat) (h0 : 0 < n) (h : p + n ≤ mn) : Calls Tryz.prog 27 #[(.agg #[(.slice (some ⟨mb, mo, none⟩) mn mc)]), .int .i64 p, .int .i64 n] w fun e w' => ∃ b c R', e = .returned (.tuple #[.slice (some ⟨b, 0, none⟩) n c, .int .i64 0]) ∧ Mem w0 w' L R' ∧ (1, .slice (some ⟨b, 0, none⟩) n c, cellsB (getB M p n)) ∈ R' ∧ ∀ x ∈ R, x ∈ R' := by
 have HM := Lib.hid hm
 have HH := Lib.hid h
 have HN0 := Lib.hid h0
 have HHL : Hid (p + n ≤ M.length) := Lib.hid (by rw [hm.len]; exact h)
 have HLL : Hid (p + n - p = n) := Lib.hid (by omega)
 have HGB : Hid (((cellsB M).drop (p * 1)).take (n * 1) = cellsB (getB M p n)) := Lib.hid (by rw [Nat.mul_one, Nat.mul_one]; unfold getB cellsB; rw [List.map_take, List.map_drop])
 have HC : Hid (p + n ≤ mc) := Lib.hid (by
   obtain ⟨_, _, _, e, _, g, _⟩ := hv.rd hm.rd
   cases e; omega)
 have HM8 : Hid (mn ≤ 8192) := Lib.hid hm.most
 have HN6 : Hid (n ≤ 1000000) := Lib.hid (by have := hm.most; omega)
 have hb : (p : Int) + (n : Int) ≤ 8192 := by have := hm.most; omega
 have q1 : IntKind.i64.wrap ((p : Int) + (n : Int)) = (p : Int) + (n : Int) := IntWalk.i64_in _ (by omega)
 have HPN : Hid (Value.int .i64 ((p : Int) + (n : Int)) = Value.int .i64 ((p + n : Nat) : Int)) := Lib.hid rfl
 clear hm h h0
 have hvL := hv
 go_enter Tryz.func27, Tryz.ntmps27
 go_wp2_with (first
   | ((with_reducible refine at_box (T := 26) (dst := some 3) ?_); refine wl_newb rfl #[(.slice (some ⟨mb, mo, none⟩) mn mc)] 26 (fun _ => rfl) ?_; intro b3 w2 hm2; replace hv := hv.madeAt hm2; clear hm2)
   | ((with_reducible refine at_load (T := 26) ?_); refine wl_ldv rfl b3 rfl _ hv.vars.ro 1 _ Tryz.underlying26 rfl infoM (by decide) rfl ?_)
   | ((with_reducible refine at_load (T := 24) ?_); refine wl_ldc rfl b3 0 rfl _ hv.vars.ro _ Tryz.underlying24 rfl (.slice (some ⟨mb, mo, none⟩) mn mc) rfl ?_)
   | (go_at_call 55; (with_reducible refine (asked_ok _ _ _ _ _ _ HH.out HM8.out _).mono ?_); rintro e w1 ⟨rfl, hn1⟩; replace hv := hv.new hn1; clear hn1)
   | ((with_reducible refine at_slice (T := 24) ?_); refine wl_slice_lhm rfl rfl hv HM.out.rd Tryz.underlying24 infoU81 p (p + n) (p + n) rfl HPN.out HPN.out (Nat.le_add_right _ _) HH.out (Nat.le_refl _) HC.out ?_; intro ao hv1; replace hv := hv1; clear hv1; rw [HLL.out, HGB.out] at hv; obtain ⟨ab, ao2, _, _, e9, hq9⟩ := (hv.rd Mem.z).some (by rw [cellsB_len, getB_len HHL.out]; exact HN0.out); clear hq9; cases e9)
   | (go_at_call 56; (with_reducible refine (MClone_M hv Mem.z (cellsB_one' _) HN6.out).mono ?_); rintro e w1 ⟨vb, vc, vz, rfl, hrow, hv1⟩; have hv2 := Mem.yield (L1 := []) hv1 hrow; replace hv := hv2; clear hv1 hv2 hrow; simp only [List.nil_append] at hv))
 go_ret2
 exact ⟨vb, vc, _, rfl, hv.drop, Mem.z, fun x hx => Mem.s (Mem.s hx)⟩
theorem built_mem (b n c : Nat) : Tryz.prog.built 26 [(0, .slice (some ⟨b, 0, none⟩) n c)] = some #[.slice (some ⟨b, 0, none⟩) n c] := by kernel_rfl
theorem Put_row {w0 w : World} {L : List (Nat × Array Value)} {R : List (Nat × Value × List Value)} {mb mo mn mc : Nat} {M : List Nat} (hv : Mem w0 w L R) (hm : InM R mb mo mn mc M) (p : Nat) {db do_ dn dc : Nat} {D : List Nat} (hd : (1, .slice (some ⟨db, do_, none⟩) dn dc, cellsB D) ∈ R) (hg : goodB D) (h0 : 0 < dn) (h : p + dn ≤ mn) : Calls Tryz.prog 30 #[(.agg #[(.slice (some ⟨mb, mo, none⟩) mn mc)]), .int .i64 p, .slice (some ⟨db, do_, none⟩) dn dc] w fun e w' => ∃ b c, e = .returned (.tuple #[.agg #[.slice (some ⟨b, 0, none⟩) mn c], .int .i64 0]) ∧ ∃ z, AppRow (.slice (some ⟨b, 0, none⟩) mn c) 1 (cellsB (putB M p D)) (b, z) ∧ Mem w0 w' ((b, z) :: L) R := by
 have HM := Lib.hid hm
 have HH := Lib.hid h
 have HD := Lib.hid hd
 have HG := Lib.hid hg
 have hdl : D.length = dn := by
   obtain ⟨_, _, _, e, g, _⟩ := hv.rd hd
   cases e
   rw [cellsB_len] at g; omega
 have HDL := Lib.hid hdl
 have HPL : Hid (p ≤ mn) := Lib.hid (by omega)
 have HDN : Hid (dn ≤ mn - p) := Lib.hid (by omega)
 have HPM : Hid (p + D.length ≤ M.length) := Lib.hid (by rw [hm.len]; omega)
 have HM8 : Hid (mn ≤ 8192) := Lib.hid hm.most
 have HN6 : Hid (mn ≤ 1000000) := Lib.hid (by have := hm.most; omega)
 have HCV : Hid (∀ (vc : Nat) {b : Nat} {z : Array Value}, AppRow (.slice (some ⟨b, 0, none⟩) mn vc) 1 (cellsB M) (b, z) → p < vc) := Lib.hid (fun vc b z hr => by
   obtain ⟨_, _, e, _, g, _⟩ := hr
   cases e; omega)
 have HSZ : Hid (∀ (vc : Nat) {b : Nat} (z : Array Value), AppRow (.slice (some ⟨b, 0, none⟩) mn vc) 1 (cellsB M) (b, z) → p + dn ≤ z.size) := Lib.hid (fun vc b z hr => by
   obtain ⟨_, _, e, _, g, _, g2, _⟩ := hr
   cases e
   have : z.size = vc * 1 := g2
   omega)
 clear hm h h0 hd hg hdl
 go_enter Tryz.func30, Tryz.ntmps30
 go_wp2_with (first
   | ((with_reducible refine at_box (T := 26) (dst := some 3) ?_); refine wl_newb rfl #[(.slice (some ⟨mb, mo, none⟩) mn mc)] 26 (fun _ => rfl) ?_; intro b3 w2 hm2; replace hv := hv.madeAt hm2; clear hm2)
   | ((with_reducible refine at_alloc (T := 26) (dst := some 6) ?_); refine wl_newb rfl #[.slice none 0 0] 26 (fun _ => rfl) ?_; intro b6 w2 hm2; replace hv := hv.madeAt hm2; clear hm2)
   | ((with_reducible refine at_load (T := 26) ?_); refine wl_ldv rfl b3 rfl _ hv.vars.ro 1 _ Tryz.underlying26 rfl infoM (by decide) rfl ?_)
   | ((with_reducible refine at_load (T := 24) ?_); refine wl_ldc rfl b3 0 rfl _ hv.vars.ro _ Tryz.underlying24 rfl (.slice (some ⟨mb, mo, none⟩) mn mc) rfl ?_)
   | (go_at_call 55; (with_reducible refine (asked_ok _ _ _ _ _ _ HH.out HM8.out _).mono ?_); rintro e w1 ⟨rfl, hn1⟩; replace hv := hv.new hn1; clear hn1)
   | (go_at_call 56; (with_reducible refine (MClone_M hv HM.out.rd (cellsB_one' _) HN6.out).mono ?_); rintro e w1 ⟨vb, vc, vz, rfl, hrow, hv1⟩; replace hv := hv1; clear hv1)
   | ((with_reducible refine at_slice (T := 24) ?_); refine wl_sliceVl rfl rfl Tryz.underlying24 infoU81 p rfl HPL.out (sliced_row (HCV.out vc hrow)) ?_)
   | ((with_reducible refine at_copy (t := 24) (t' := 24) ?_); go_must (refine wl_copy rfl rfl Tryz.underlying24 infoU81 rfl (hv.rd HD.out) (cellsB_one' _) HDN.out (c := vz) (hv.vars.row (b := vb) (List.mem_cons_self ..)) (hv.vars.sft (b := vb) (c := vz) (List.mem_cons_self ..)) (HSZ.out vc vz hrow) ?_; intro w2 hw2; replace hv := hv.set 0 rfl hw2; simp only [List.set] at hv; clear hw2; replace hrow := row_put (v := .int .i64 0) hrow HPM.out))
   | ((with_reducible refine at_build ?_); refine wl_build rfl [(0, .slice (some ⟨vb, 0, none⟩) mn vc)] rfl (built_mem _ _ _) ?_)
   | ((with_reducible refine at_store (T := 26) ?_); refine wl_stv rfl b6 rfl _ rfl _ hv.vars.ro hv.vars.so 1 infoM rfl rfl (by simp [Value.oneCell']) ?_; intro w2 hw2; replace hv := hv.sets (by repeat first | exact .z | apply SetM.s) hw2; clear hw2))
 try simp only [Exit.inBlock, Exit.then]
 refine ret_cell2 (v := .agg #[.slice (some ⟨vb, 0, none⟩) mn vc]) (v1 := .int .i64 0) rfl rfl (read_row _ b6 26 _ (hv.vars.ro (b := b6)) 1 _ Tryz.underlying26 rfl infoM (by decide) rfl) rfl rfl ?_
 exact ⟨vb, vc, rfl, _, hrow, (hv.perm (perm3i (vb, _) _ _ L)).drop.drop⟩
theorem Put_ok {w0 w : World} {L : List (Nat × Array Value)} {R : List (Nat × Value × List Value)} {mb mo mn mc : Nat} {M : List Nat} (hv : Mem w0 w L R) (hm : InM R mb mo mn mc M) (p : Nat) {db do_ dn dc : Nat} {D : List Nat} (hd : (1, .slice (some ⟨db, do_, none⟩) dn dc, cellsB D) ∈ R) (hg : goodB D) (h0 : 0 < dn) (h : p + dn ≤ mn) : Calls Tryz.prog 30 #[(.agg #[(.slice (some ⟨mb, mo, none⟩) mn mc)]), .int .i64 p, .slice (some ⟨db, do_, none⟩) dn dc] w fun e w' => ∃ b c R', e = .returned (.tuple #[.agg #[.slice (some ⟨b, 0, none⟩) mn c], .int .i64 0]) ∧ Mem w0 w' L R' ∧ InM R' b 0 mn c (putB M p D) ∧ ∀ x ∈ R, x ∈ R' := by
 have hdl : D.length = dn := by
   obtain ⟨_, _, _, e, g, _⟩ := hv.rd hd
   cases e
   rw [cellsB_len] at g; omega
 refine (Put_row hv hm p hd hg h0 h).mono ?_
 rintro e w' ⟨b, c, rfl, z, hrow, hv1⟩
 have hv2 := Mem.yield (L1 := []) hv1 hrow
 simp only [List.nil_append] at hv2
 exact ⟨b, c, _, rfl, hv2, ⟨Mem.z, by rw [putB_len (by rw [hm.len]; omega)]; exact hm.len, hm.pos, hm.most, putB_good hm.good hg⟩, fun x hx => Mem.s hx⟩
end Go.Proofs.YtjmibgomkgkhnaaGreat
end

section
/-
 Machine memory: numbers are got and put.
-/
namespace Go.Proofs.Qu
open Go Go.RowKit Go.Proofs.Nm
def getN (M : List Nat) (p n : Nat) : Nat := fromB (getB M p n)
end Go.Proofs.Qu
namespace Go.Proofs.YtjmibgomkgkhnaaGreat
open Go.Proofs.Qu Go.Proofs.Nm Go.RowKit Go.Proofs
theorem Num_ok {w0 w : World} {L : List (Nat × Array Value)} {R : List (Nat × Value × List Value)} {mb mo mn mc : Nat} {M : List Nat} (hv : Mem w0 w L R) (hm : InM R mb mo mn mc M) (p n : Nat) (h0 : 0 < n) (h1 : n ≤ 8) (h : p + n ≤ mn) : Calls Tryz.prog 47 #[(.agg #[(.slice (some ⟨mb, mo, none⟩) mn mc)]), .int .i64 p, .int .i64 n] w fun e w' => e = .returned (.tuple #[.int .u64 (getN M p n : Nat), .int .i64 0]) ∧ New w w' := by
 have hv0 := hv
 clear hv
 have hv : Mem w w [] R := ⟨Vars.nil w, fun x hx => ⟨(hv0.rds x hx).1, fun _ _ _ _ _ _ p hp => (List.not_mem_nil hp).elim⟩⟩
 have HM := Lib.hid hm
 have HH := Lib.hid h
 have HN0 := Lib.hid h0
 have HN8 := Lib.hid h1
 have HG : Hid (goodB (getB M p n)) := Lib.hid (getB_good hm.good)
 have HM8 : Hid (mn ≤ 8192) := Lib.hid hm.most
 clear hm h h0 h1 hv0
 go_enter Tryz.func47, Tryz.ntmps47
 go_wp2_with (first
   | ((with_reducible refine at_box (T := 26) (dst := some 3) ?_); refine wl_newb rfl #[(.slice (some ⟨mb, mo, none⟩) mn mc)] 26 (fun _ => rfl) ?_; intro b3 w2 hm2; replace hv := hv.madeAt hm2; clear hm2)
   | ((with_reducible refine at_load (T := 26) ?_); refine wl_ldv rfl b3 rfl _ hv.vars.ro 1 _ Tryz.underlying26 rfl infoM (by decide) rfl ?_)
   | (go_at_call 80; (with_reducible refine (sized_ok _ _ _ _ _ HN0.out HN8.out HM8.out _).mono ?_); rintro e w1 ⟨rfl, hn1⟩; replace hv := hv.new hn1; clear hn1)
   | (go_at_call 27; (with_reducible refine (Get_ok hv HM.out p n HN0.out HH.out).mono ?_); rintro e w1 ⟨vb, vc, R1, rfl, hv1, hd1, hs1⟩; replace hv := hv1; have HD := Lib.hid hd1; clear hv1 hd1 hs1)
   | (go_at_call 81; (with_reducible refine (FromLe_any _ _ _ (hv.rd HD.out) HG.out).mono ?_); rintro e w1 ⟨rfl, rfl⟩))
 go_ret2
 exact ⟨rfl, hv.below⟩
theorem PutNum_row {w0 w : World} {L : List (Nat × Array Value)} {R : List (Nat × Value × List Value)} {mb mo mn mc : Nat} {M : List Nat} (hv : Mem w0 w L R) (hm : InM R mb mo mn mc M) (p n k : Nat) (h0 : 0 < k) (h1 : k ≤ 8) (h : p + k ≤ mn) (hle : ∀ w, Calls Tryz.prog 121 #[.int .u64 n, .int .i64 k] w fun e w' => ∃ v x, e = .returned v ∧ AppRow v 1 (cellsB (leB n k)) x ∧ New w w' ∧ w.heap.size ≤ x.1 ∧ w'.rowD x.1 = x.2 ∧ w'.soft x.1 = true) :
   Calls Tryz.prog 107 #[(.agg #[(.slice (some ⟨mb, mo, none⟩) mn mc)]), .int .i64 p, .int .i64 k, .int .u64 n] w fun e w' => ∃ b c, e = .returned (.tuple #[.agg #[.slice (some ⟨b, 0, none⟩) mn c], .int .i64 0]) ∧ ∃ z, AppRow (.slice (some ⟨b, 0, none⟩) mn c) 1 (cellsB (putB M p (leB n k))) (b, z) ∧ Mem w0 w' ((b, z) :: L) R := by
 have HM := Lib.hid hm
 have HH := Lib.hid h
 have HK0 := Lib.hid h0
 have HK8 := Lib.hid h1
 have HLE := Lib.hid hle
 have HM8 : Hid (mn ≤ 8192) := Lib.hid hm.most
 have HWS : Hid (∃ v x, AppRow v 1 (cellsB (leB n k)) x) := Lib.hid (Any.AppRow.some (n := k) (by rw [cellsB_len, leB_len, Nat.mul_one]) (by unfold maxLen; omega))
 clear hm h h0 h1 hle
 go_enter Tryz.func107, Tryz.ntmps107
 go_wp2_with (first
   | ((with_reducible refine at_box (T := 26) (dst := some 4) ?_); refine wl_newb rfl #[(.slice (some ⟨mb, mo, none⟩) mn mc)] 26 (fun _ => rfl) ?_; intro b4 w2 hm2; replace hv := hv.madeAt hm2; clear hm2)
   | ((with_reducible refine at_alloc (T := 26) (dst := some 8) ?_); refine wl_newb rfl #[.slice none 0 0] 26 (fun _ => rfl) ?_; intro b8 w2 hm2; replace hv := hv.madeAt hm2; clear hm2)
   | ((with_reducible refine at_load (T := 26) ?_); refine wl_ldv rfl b4 rfl _ hv.vars.ro 1 _ Tryz.underlying26 rfl infoM (by decide) rfl ?_)
   | (go_at_call 80; (with_reducible refine (sized_ok _ _ _ _ _ HK0.out HK8.out HM8.out _).mono ?_); rintro e w1 ⟨rfl, hn1⟩; replace hv := hv.new hn1; clear hn1))
 replace hv : Mem w0 _ ([(b8, _), (b4, _)] ++ L) _ := hv
 refine Any.wp_region_cut 5 [⟨[1001], none⟩, ⟨[], none⟩, ⟨[], none⟩, ⟨[], none⟩, ⟨[], some 9⟩, ⟨[], none⟩, ⟨[], none⟩, ⟨[], none⟩, ⟨[], none⟩, ⟨[], none⟩] [.val, .val, .val, .val, .own (fun v x => AppRow v 1 (cellsB (leB n k)) x)] (by kernel_rfl) (by kernel_rfl) (hv.vars.keep (List.sublist_append_left [(b8, #[.slice none 0 0]), (b4, #[(.slice (some ⟨mb, mo, none⟩) mn mc)])] L)) ?_
 simp only [Any.someVals, List.take_succ_cons, List.take_zero]
 iterate 5 apply Exists.intro
 repeat (first
   | (refine Any.E_off rfl ?_; simp only [Act.put, sia, scs, scz])
   | (apply Any.E_pureq rfl rfl rfl
      case h => intro K hK; go_big_quiet_op; (refine hK _ ?_; rfl)
      case hr => exact fun _ => rfl
      simp only [Act.put, sia, scs, scz])
   | (apply Any.E_val rfl rfl rfl rfl
      case h =>
        intro E' hA K hK
        first
          | ((with_reducible refine Any.at_qload (T := 26) ?_); refine Any.q_ldv 1001 hA (by decide) rfl rfl 1 _ Tryz.underlying26 rfl infoM (by decide) rfl ?_; refine hK _ ?_; rfl)
          | (go_big_quiet_op; first
            | (refine hK _ ?_; rfl)
            | (refine ⟨_, fun _ _ => rfl, ?_⟩; refine hK _ ?_; rfl)
            | (apply Exists.intro; refine ⟨fun w1 hw1 => ?_, ?_⟩; · (first
                | fail)
               refine hK _ ?_; rfl))
      case hD => rfl
      simp only [Act.put, sia, scs, scz])
   | ((with_reducible refine Any.at_ealloc ?_); refine Any.E_lay rfl rfl rfl (fun _ => rfl) ?_; intro B; simp only [Act.put, sia, scs, scz])
   | ((with_reducible refine Any.at_ecall ?_); refine Any.E_callown (W := fun v x => AppRow v 1 (cellsB (leB n k)) x) rfl rfl rfl (Go.Proofs.enters_of Tryz.func121 (by kernel_rfl) rfl) rfl [.int .u64 n, .int .i64 k] rfl HWS.out (fun E' w1 hw1 => HLE.out w1) ?_; intro v9 x9 hW9; have hq9 := hW9; obtain ⟨n9, c9, rfl, g9, g8⟩ := hq9; clear g8; replace g9 := Lib.hid g9; replace hW9 := Lib.hid hW9; simp only [Act.put, sia, scs, scz])
   | ((with_reducible refine Any.at_estore (T := 26) ?_); refine Any.E_putv (T := 26) rfl rfl rfl rfl rfl rfl 1 infoM rfl rfl (by simp [Value.oneCell']) ?_; simp only [Act.put, sia, scs, scz]))
 try any_goals exact undef
 refine Any.E_nil ?_
 intro w9 hE9
 replace hv : Mem w0 w9 ([x9, (b8, #[.slice none 0 0]), (b4, #[(.slice (some ⟨mb, mo, none⟩) mn mc)])] ++ L) _ := hE9.memr (L1 := [(b8, #[.slice none 0 0]), (b4, #[(.slice (some ⟨mb, mo, none⟩) mn mc)])]) hv [9, 1000, 1001] (by decide)
 clear hE9
 have hv2 := Mem.yield (L1 := []) hv hW9.out
 replace hv := hv2
 clear hv2
 simp only [List.nil_append] at hv
 have hn9 : n9 = k := by have h9 := g9.out; rw [cellsB_len, leB_len] at h9; omega
 subst hn9
 refine Any.wpOp_callv rfl rfl (Go.Proofs.enters_of Tryz.func30 (by kernel_rfl) rfl) rfl [(.agg #[(.slice (some ⟨mb, mo, none⟩) mn mc)]), .int .i64 p, .slice (some ⟨x9.1, 0, none⟩) n9 c9] rfl ?_
 refine (Put_row hv (HM.out.mono fun x hx => Mem.s hx) p Mem.z (leB_good n n9) HK0.out HH.out).mono ?_
 rintro e w1 ⟨vb, vc, rfl, vz, hrow, hv1⟩
 have hv2 := (hv1.perm (perm3i (vb, vz) _ _ L)).dropR
 replace hv := hv2
 have HROW := Lib.hid hrow
 clear hv1 hv2 hrow
 refine ⟨_, rfl, ?_⟩
 replace hv : Mem w0 _ ([(b8, _), (b4, _)] ++ ((vb, vz) :: L)) _ := hv
 refine Any.wpAny_rest 6 [⟨[], none⟩, ⟨[], none⟩, ⟨[1000], some 1000⟩, ⟨[], none⟩] [.val, .val, .put, .val] (by kernel_rfl) (hv.vars.keep (List.sublist_append_left [(b8, #[.slice none 0 0]), (b4, #[(.slice (some ⟨mb, mo, none⟩) mn mc)])] ((vb, vz) :: L))) ?_
 simp only [List.length_cons, List.length_nil, Nat.zero_add, Nat.reduceAdd, Nat.reduceSub, Any.someVals, List.drop_succ_cons, List.drop_zero]
 simp only [Act.put, sia, scs, scz]
 iterate 4 apply Exists.intro
 repeat (first
   | (refine Any.E_off rfl ?_; simp only [Act.put, sia, scs, scz])
   | (apply Any.E_pureq rfl rfl rfl
      case h => intro K hK; go_big_quiet_op; (refine hK _ ?_; rfl)
      case hr => exact fun _ => rfl
      simp only [Act.put, sia, scs, scz])
   | (apply Any.E_val rfl rfl rfl rfl
      case h =>
        intro E' hA K hK
        first
          | ((with_reducible refine Any.at_qload (T := 26) ?_); refine Any.q_ldv 1001 hA (by decide) rfl rfl 1 _ Tryz.underlying26 rfl infoM (by decide) rfl ?_; refine hK _ ?_; rfl)
          | (go_big_quiet_op; first
            | (refine hK _ ?_; rfl)
            | (refine ⟨_, fun _ _ => rfl, ?_⟩; refine hK _ ?_; rfl)
            | (apply Exists.intro; refine ⟨fun w1 hw1 => ?_, ?_⟩; · (first
                | fail)
               refine hK _ ?_; rfl))
      case hD => rfl
      simp only [Act.put, sia, scs, scz])
   | ((with_reducible refine Any.at_ealloc ?_); refine Any.E_lay rfl rfl rfl (fun _ => rfl) ?_; intro B; simp only [Act.put, sia, scs, scz])
   | ((with_reducible refine Any.at_ecall ?_); refine Any.E_callown (W := fun v x => AppRow v 1 (cellsB (leB n k)) x) rfl rfl rfl (Go.Proofs.enters_of Tryz.func121 (by kernel_rfl) rfl) rfl [.int .u64 n, .int .i64 k] rfl HWS.out (fun E' w1 hw1 => HLE.out w1) ?_; intro v9 x9 hW9; have hq9 := hW9; obtain ⟨n9, c9, rfl, g9, g8⟩ := hq9; clear g8; replace g9 := Lib.hid g9; replace hW9 := Lib.hid hW9; simp only [Act.put, sia, scs, scz])
   | ((with_reducible refine Any.at_estore (T := 26) ?_); refine Any.E_putv (T := 26) rfl rfl rfl rfl rfl rfl 1 infoM rfl rfl (by simp [Value.oneCell']) ?_; simp only [Act.put, sia, scs, scz]))
 try any_goals exact undef
 refine Any.E_nil ?_
 intro w9 hE9
 replace hv : Mem w0 w9 ([(b8, #[.slice (some ⟨vb, 0, none⟩) mn vc]), (b4, #[(.slice (some ⟨mb, mo, none⟩) mn mc)])] ++ ((vb, vz) :: L)) _ := hE9.memr0 (L1 := [(b8, #[.slice none 0 0]), (b4, #[(.slice (some ⟨mb, mo, none⟩) mn mc)])]) hv [1000, 1001] (by decide)
 clear hE9
 simp only [List.cons_append, List.nil_append] at hv
 go_wp2
 try simp only [Exit.inBlock, Exit.then]
 refine ret_cell2 (v := .agg #[.slice (some ⟨vb, 0, none⟩) mn vc]) (v1 := .int .i64 0) rfl rfl (read_row _ b8 26 _ (hv.vars.ro (b := b8)) 1 _ Tryz.underlying26 rfl infoM (by decide) rfl) rfl rfl ?_
 exact ⟨vb, vc, rfl, vz, HROW.out, hv.drop.drop⟩
theorem PutNum_gen {w0 w : World} {L : List (Nat × Array Value)} {R : List (Nat × Value × List Value)} {mb mo mn mc : Nat} {M : List Nat} (hv : Mem w0 w L R) (hm : InM R mb mo mn mc M) (p n k : Nat) (h0 : 0 < k) (h1 : k ≤ 8) (h : p + k ≤ mn) (hle : ∀ w, Calls Tryz.prog 121 #[.int .u64 n, .int .i64 k] w fun e w' => ∃ v x, e = .returned v ∧ AppRow v 1 (cellsB (leB n k)) x ∧ New w w' ∧ w.heap.size ≤ x.1 ∧ w'.rowD x.1 = x.2 ∧ w'.soft x.1 = true) :
   Calls Tryz.prog 107 #[(.agg #[(.slice (some ⟨mb, mo, none⟩) mn mc)]), .int .i64 p, .int .i64 k, .int .u64 n] w fun e w' => ∃ b c R', e = .returned (.tuple #[.agg #[.slice (some ⟨b, 0, none⟩) mn c], .int .i64 0]) ∧ Mem w0 w' L R' ∧ InM R' b 0 mn c (putB M p (leB n k)) ∧ ∀ x ∈ R, x ∈ R' := by
 refine (PutNum_row hv hm p n k h0 h1 h hle).mono ?_
 rintro e w' ⟨b, c, rfl, z, hrow, hv1⟩
 have hv2 := Mem.yield (L1 := []) hv1 hrow
 simp only [List.nil_append] at hv2
 exact ⟨b, c, _, rfl, hv2, ⟨Mem.z, by rw [putB_len (by rw [leB_len, hm.len]; omega)]; exact hm.len, hm.pos, hm.most, putB_good hm.good (leB_good n k)⟩, fun x hx => Mem.s hx⟩
theorem LeR_2 (n : Nat) (hn : n < 18446744073709551616) (w : World) : Calls Tryz.prog 121 #[.int .u64 n, .int .i64 ((2 : Nat) : Int)] w fun e w' => ∃ v x, e = .returned v ∧ AppRow v 1 (cellsB (leB n 2)) x ∧ New w w' ∧ w.heap.size ≤ x.1 ∧ w'.rowD x.1 = x.2 ∧ w'.soft x.1 = true := by
 refine (Le_2 n hn w).mono ?_
 rintro e w' ⟨b, rfl, h1, h2, h3, h4⟩
 exact ⟨_, (b, putM 2 n 2), rfl, ⟨2, 2, rfl, by rw [cellsB_len, leB_len], Nat.le_refl _, by unfold maxLen; omega, by rw [Nat.mul_one]; exact size_putM _ _ _, by
   show (putM 2 n 2).toList.take _ = _
   rw [putM_full, List.take_of_length_le (by rw [cellsB_len, leB_len]; omega)]⟩, h4, h3, h1, h2⟩
theorem LeR_4 (n : Nat) (hn : n < 18446744073709551616) (w : World) : Calls Tryz.prog 121 #[.int .u64 n, .int .i64 ((4 : Nat) : Int)] w fun e w' => ∃ v x, e = .returned v ∧ AppRow v 1 (cellsB (leB n 4)) x ∧ New w w' ∧ w.heap.size ≤ x.1 ∧ w'.rowD x.1 = x.2 ∧ w'.soft x.1 = true := by
 refine (Le_4 n hn w).mono ?_
 rintro e w' ⟨b, rfl, h1, h2, h3, h4⟩
 exact ⟨_, (b, putM 4 n 4), rfl, ⟨4, 4, rfl, by rw [cellsB_len, leB_len], Nat.le_refl _, by unfold maxLen; omega, by rw [Nat.mul_one]; exact size_putM _ _ _, by
   show (putM 4 n 4).toList.take _ = _
   rw [putM_full, List.take_of_length_le (by rw [cellsB_len, leB_len]; omega)]⟩, h4, h3, h1, h2⟩
theorem LeR_8 (n : Nat) (hn : n < 18446744073709551616) (w : World) : Calls Tryz.prog 121 #[.int .u64 n, .int .i64 ((8 : Nat) : Int)] w fun e w' => ∃ v x, e = .returned v ∧ AppRow v 1 (cellsB (leB n 8)) x ∧ New w w' ∧ w.heap.size ≤ x.1 ∧ w'.rowD x.1 = x.2 ∧ w'.soft x.1 = true := by
 refine (Le_8 n hn w).mono ?_
 rintro e w' ⟨b, rfl, h1, h2, h3, h4⟩
 exact ⟨_, (b, putM 8 n 8), rfl, ⟨8, 8, rfl, by rw [cellsB_len, leB_len], Nat.le_refl _, by unfold maxLen; omega, by rw [Nat.mul_one]; exact size_putM _ _ _, by
   show (putM 8 n 8).toList.take _ = _
   rw [putM_full, List.take_of_length_le (by rw [cellsB_len, leB_len]; omega)]⟩, h4, h3, h1, h2⟩
end Go.Proofs.YtjmibgomkgkhnaaGreat
end
