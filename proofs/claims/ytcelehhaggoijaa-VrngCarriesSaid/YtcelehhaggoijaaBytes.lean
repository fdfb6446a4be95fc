/-
  Bytes held against bytes; bytes of a constant.
-/
import Derived.Test.YtcelehhaggoijaaBny
import Derived.Test.YtcelehhaggoijaaQuNum
import Derived.Lib.BufferRead
import Derived.Lib.SlBytesConst
set_option linter.unusedVariables false
set_option linter.unusedSimpArgs false
namespace Go
open Go.RowKit Go.Proofs.Nm
/-- A string of bytes. -/
def bstr (l : List Nat) : ByteArray := ⟨(l.map UInt8.ofNat).toArray⟩
theorem ofNat_inj {a b : Nat} (ha : a < 256) (hb : b < 256) (h : UInt8.ofNat a = UInt8.ofNat b) : a = b := by
  have := congrArg UInt8.toNat h
  simp at this; omega
theorem loop_eq (s : ByteArray) (n i : Nat) (r : List UInt8) (h : s.size - i = n) : ByteArray.toList.loop s i r = r.reverse ++ s.data.toList.drop i := by
  induction n generalizing i r with
  | zero =>
    unfold ByteArray.toList.loop
    rw [if_neg (by omega)]
    rw [List.drop_eq_nil_of_le (by have : s.data.toList.length = s.size := by simp
                                   omega)]
    simp
  | succ n ih =>
    unfold ByteArray.toList.loop
    rw [if_pos (by omega), ih (i + 1) _ (by omega)]
    have hi : i < s.data.toList.length := by
      have : s.data.toList.length = s.size := by simp
      omega
    rw [List.drop_eq_getElem_cons hi]
    have : s.get! i = s.data.toList[i] := by
      have hi2 : i < s.data.size := by simpa using hi
      show s.data[i]! = _
      rw [getElem!_pos s.data i hi2]; simp
    rw [this]; simp
theorem toList_eq (s : ByteArray) : s.toList = s.data.toList := by
  unfold ByteArray.toList
  rw [loop_eq s _ 0 [] rfl]; simp
theorem map_inj {l m : List Nat} (hl : goodB l) (hm : goodB m) (h1 : l.map UInt8.ofNat = m.map UInt8.ofNat) : l = m := by
  induction l generalizing m with
  | nil => cases m with
    | nil => rfl
    | cons b m => simp at h1
  | cons a l ih => cases m with
    | nil => simp at h1
    | cons b m =>
      simp only [List.map_cons, List.cons.injEq] at h1
      have e := ofNat_inj (hl a (by simp)) (hm b (by simp)) h1.1
      have e2 := ih (fun x hx => hl x (by simp [hx])) (m := m) (fun x hx => hm x (by simp [hx])) h1.2
      rw [e, e2]
theorem bstr_beq {l m : List Nat} (hl : goodB l) (hm : goodB m) : ((bstr l).toList == (bstr m).toList) = decide (l = m) := by
  rw [toList_eq, toList_eq]
  by_cases h : l = m
  · subst h; simp
  · rw [decide_eq_false h, beq_eq_false_iff_ne]
    intro e
    refine h (map_inj hl hm ?_)
    simpa [bstr] using e
theorem run_str {P : Program} {w : World} {v : Value} {l : List Nat} (src dst e : TypeId) (hs : P.underlying src = some (.slice e)) (he : P.underlying e = some (.int .u8)) (hd : P.underlying dst = some .string) (hrd : Rd w 1 v (cellsB l)) (hg : goodB l) :
    (convert src dst v).run P w = .ok (.string (bstr l)) w := by
  obtain ⟨ao, n, cap, rfl, h1, h2, h3, h4, h5⟩ := hrd
  rw [cellsB_len, Nat.mul_one] at h1
  subst h1
  cases ao with
  | none =>
    obtain ⟨hn, hc⟩ := h4 rfl
    have : l = [] := List.length_eq_zero_iff.1 hn
    subst this
    exact Lib.run_convert_nil_bytes w src dst e cap hs he hd
  | some a =>
    have hh := run_convert_bytes_back (P := P) w src dst e a cap (l.map UInt8.ofNat) hs he hd (fun j hj => by
      rw [List.length_map] at hj
      obtain ⟨b, o, e1, _, e2⟩ := h5 j (by rw [cellsB_len]; exact hj)
      cases e1
      have : Addr.add ⟨b, o, none⟩ j = ⟨b, o + j, none⟩ := by
        unfold Addr.add
        by_cases h0 : j = 0
        · rw [if_pos h0, h0]; rfl
        · rw [if_neg h0]
      rw [this, e2]
      have hx := hg _ (List.getElem_mem hj)
      unfold cellsB
      rw [List.getElem?_map, List.getElem?_eq_getElem hj, List.getElem_map]
      simp [Nat.mod_eq_of_lt hx])
    rw [List.length_map] at hh
    exact hh
section
variable {P : Program} {ops : Array Oper} {rest : List Oper} {a : Act} {w : World} {Q : Exit → Act → World → Prop}
variable {dst : Option Tmp} {ty T T' e : TypeId} {pos : String} {after : Array Edge} {g : Option (Nat × Bool)} {x : Operand}
theorem at_conv (h : wpList P ops Q (⟨dst, .convert T T' x, ty, pos, after, g⟩ :: rest) a w) : wpList P ops Q (⟨dst, .convert T T' x, ty, pos, after, g⟩ :: rest) a w := h
/-- string(b). -/
theorem wl_str (hgd : Region.wanted (⟨dst, .convert T T' x, ty, pos, after, g⟩ : Oper) (yielded ops a.tmps) = true) {v : Value} {l : List Nat} (hx : a.eval x = v) (hs : P.underlying T = some (.slice e)) (he : P.underlying e = some (.int .u8)) (hd : P.underlying T' = some .string) (hrd : Rd w 1 v (cellsB l)) (hg : goodB l)
    {s : ByteArray} (hst : bstr l = s) (hk : wpList P ops Q rest (a.put dst (.string s)) w) : wpList P ops Q (⟨dst, .convert T T' x, ty, pos, after, g⟩ :: rest) a w := by
  subst hst
  refine wpList_want hgd fun K hK => ?_
  have h' := run_str T T' e hs he hd hrd hg
  unfold Oper.wp execOp
  simp only [hx, Sem.run_bind, h', Result.andThen_ok, Sem.run_pure]
  exact hK _ _ hk
/-- []byte("..") of a constant: read from then on. -/
theorem wl_bconv {w0 : World} {L : List (Nat × Array Value)} {R : List (Nat × Value × List Value)} {C : Array Value} {n : Nat} {bs : List Nat} (hgd : Region.wanted (⟨dst, .convert T T x, ty, pos, after, g⟩ : Oper) (yielded ops a.tmps) = true) (hv : Mem w0 w L R) (hx : a.eval x = .slice (some ⟨w.heap.size, 0, none⟩) n n)
    (ht : P.underlying T = some (.slice e)) (he : P.underlying e = some (.int .u8)) (hC : C.toList = cellsB bs) (hn : bs.length = n) (hm : n ≤ maxLen) (hk : ∀ b w', Mem w0 w' L ((1, .slice (some ⟨b, 0, none⟩) n n, cellsB bs) :: R) → wpList P ops Q rest (a.put dst (.slice (some ⟨b, 0, none⟩) n n)) w') :
    wpList P ops Q (⟨dst, .convert T T x, ty, pos, after, g⟩ :: rest) a (w.alloc (.cells C e)) := by
  refine wpList_want hgd fun K hK => ?_
  have h' := Lib.run_convert_bytes_const (P := P) w T e C n n ht he
  have hnew : New w (w.alloc (.cells C e (C.size, C.size + 1))) := (Below.refl _ _).alloc (Nat.le_refl _) _
  have hrd : Rd (w.alloc (.cells C e (C.size, C.size + 1))) 1 (.slice (some ⟨w.heap.size, 0, none⟩) n n) (cellsB bs) :=
    ⟨some ⟨w.heap.size, 0, none⟩, n, n, rfl, by rw [cellsB_len, hn, Nat.mul_one], Nat.le_refl _, hm, (fun h => by cases h), fun i hi => ⟨w.heap.size, 0, rfl, by show w.heap.size < (w.heap.push _).size; rw [Array.size_push]; omega, by rw [Nat.zero_add, World.cell?_alloc_mark, ← hC, Array.getElem?_toList]⟩⟩
  have hmem := hv.fresh hnew ⟨hrd, fun _ => ⟨w.heap.size, 0, n, n, rfl, Nat.le_refl _⟩⟩
  unfold Oper.wp execOp
  simp only [hx, Sem.run_bind, h', Result.andThen_ok, Sem.run_pure]
  exact hK _ _ (hk _ _ hmem)
end
section
variable {P : Program}
/-- A row given a mark. -/
structure Marked (w w' : World) (B : Nat) (C : Array Value) : Prop where
  os : w'.os = w.os
  tape : w'.tape = w.tape
  output : w'.output = w.output
  size : w'.heap.size = w.heap.size
  other : ∀ k, k ≠ B → w'.heap[k]? = w.heap[k]?
  cell : ∀ i, w'.cell? ⟨B, i, none⟩ = C[i]?
theorem run_convert_mark (w : World) (t e : TypeId) (B n c : Nat) (C : Array Value) (ht : P.underlying t = some (.slice e)) (he : P.underlying e = some (.int .u8)) (hs : w.soft B = true) (hr : w.rowD B = C) :
    ∃ w', (convert t t (.slice (some ⟨B, 0, none⟩) n c)).run P w = .ok (.slice (some ⟨B, 0, none⟩) n c) w' ∧ Marked w w' B C := by
  obtain ⟨t0, hh⟩ := soft_heap hs
  rw [hr] at hh
  have hlt := (Array.getElem?_eq_some_iff.1 hh).1
  have hsh : w.shape? B = some (t0, C.size) := by unfold World.shape?; rw [hh]
  refine ⟨w.freeze ⟨B, C.size, none⟩ 1, by simp [convert, run_underlying ht, run_underlying he, markStringish, hsh], ?_⟩
  unfold World.freeze
  rw [if_neg (by decide)]
  refine ⟨rfl, rfl, rfl, by simp, fun k hk => ?_, fun i => ?_⟩
  · show (w.heap.modify B _)[k]? = _
    rw [Array.getElem?_modify, if_neg (fun h => hk h.symm)]
  · unfold World.cell?
    show (match (w.heap.modify B _)[B]? with | some (.cells c _ _) => if (none : Option Nat).isSome = true then none else c[i]? | _ => none) = _
    rw [Array.getElem?_modify, if_pos rfl, hh]
    rfl
theorem Marked.rowD {w w' : World} {B : Nat} {C : Array Value} (h : Marked w w' B C) {k : Nat} (hk : k ≠ B) : w'.rowD k = w.rowD k := rowD_congr (h.other k hk)
/-- Memory behind it: the row is read from then on. -/
theorem Mem.marked {w0 w w' : World} {L : List (Nat × Array Value)} {R : List (Nat × Value × List Value)} {B n : Nat} {C : Array Value} {bs : List Nat} (hv : Mem w0 w ((B, C) :: L) R) (hm : Marked w w' B C) (hC : C.toList = cellsB bs) (hn : bs.length = n) (hx : n ≤ maxLen) : Mem w0 w' L ((1, .slice (some ⟨B, 0, none⟩) n n, cellsB bs) :: R) := by
  obtain ⟨hr, hs, hge⟩ := hv.vars.rows (B, C) (List.mem_cons_self ..)
  have hlt := soft_lt hs
  have hap := hv.vars.apart
  rw [List.map_cons, List.nodup_cons] at hap
  have hne : ∀ p ∈ L, p.1 ≠ B := fun p hp e => hap.1 (List.mem_map.2 ⟨p, hp, e⟩)
  have hrd : ∀ x ∈ R, Rd w' x.1 x.2.1 x.2.2 := fun x hx => by
    obtain ⟨h1, h2⟩ := hv.rds x hx
    obtain ⟨ao, m, cap, e0, g1, g2, g3, g4, g5⟩ := h1
    refine ⟨ao, m, cap, e0, g1, g2, g3, g4, fun i hi => ?_⟩
    obtain ⟨b', o, q1, q2, q3⟩ := g5 i hi
    have hb : B ≠ b' := h2 (fun e => by rw [e] at hi; simp at hi) b' o m cap (by rw [e0, q1]) (B, C) (List.mem_cons_self ..)
    exact ⟨b', o, q1, by rw [hm.size]; exact q2, by rw [← q3]; exact World.cell?_of_block (w := w) (hm.other b' (Ne.symm hb))⟩
  have base : Mem w0 w' L R := ⟨⟨⟨hm.os.trans hv.below.os, hm.tape.trans hv.below.tape, hm.output.trans hv.below.output, by rw [hm.size]; exact hv.below.size, fun k hk => (hm.other k (by have : w0.heap.size ≤ B := hge; omega)).trans (hv.below.block k hk)⟩,
    fun p hp => by
      obtain ⟨q1, q2, q3⟩ := hv.vars.rows p (List.mem_cons_of_mem _ hp)
      exact ⟨(rowD_congr (hm.other p.1 (hne p hp))).trans q1, (soft_congr (hm.other p.1 (hne p hp))).trans q2, q3⟩, hap.2⟩,
    fun x hx => ⟨hrd x hx, fun hc b o n cap e p hp => (hv.rds x hx).2 hc b o n cap e p (List.mem_cons_of_mem _ hp)⟩⟩
  refine base.add ⟨some ⟨B, 0, none⟩, n, n, rfl, by rw [cellsB_len, hn, Nat.mul_one], Nat.le_refl _, hx, (fun h => by cases h), fun i hi => ⟨B, 0, rfl, by rw [hm.size]; exact hlt, by rw [Nat.zero_add, hm.cell, ← hC, Array.getElem?_toList]⟩⟩ (fun _ b o m cap e p hp => by
    cases e
    exact hne p hp)
end
namespace Bny
open Go.Any
section
variable {P : Program} {ops : Array Oper} {β : Base} {S : Nat → Any.Stat} {D : Nat → Kind} {Q : Act → Env → Prop} {k : Nat} {rest : List Oper} {a : Act} {E : Env}
variable {dst : Option Tmp} {ty T e : TypeId} {pos : String} {after : Array Edge} {g : Option (Nat × Bool)} {x : Operand}
theorem at_econv {T' : TypeId} (h : wpE P ops β S D Q k (⟨dst, .convert T T' x, ty, pos, after, g⟩ :: rest) a E) : wpE P ops β S D Q k (⟨dst, .convert T T' x, ty, pos, after, g⟩ :: rest) a E := h
/-- []byte("..") of a constant, in a region that draws. -/
theorem E_bconv {i B n : Nat} {C : Array Value} {bs : List Nat} (hw : Region.wanted (⟨dst, .convert T T x, ty, pos, after, g⟩ : Oper) (yielded ops a.tmps) = true) (hD : D k = .mem (fun v R => ∃ B, v = .slice (some ⟨B, 0, none⟩) n n ∧ R = [(1, v, cellsB bs)])) (hS : (S k).write = some i)
    (hx : a.eval x = .slice (some ⟨B, 0, none⟩) n n) (hE : E i = .row B C) (ht : P.underlying T = some (.slice e)) (he : P.underlying e = some (.int .u8)) (hC : C.toList = cellsB bs) (hn : bs.length = n) (hm : n ≤ maxLen)
    (hk : ∀ B, wpE P ops β S D Q (k + 1) rest (a.put dst (.slice (some ⟨B, 0, none⟩) n n)) (E.put i (.rds [(1, .slice (some ⟨B, 0, none⟩) n n, cellsB bs)]))) : wpE P ops β S D Q k (⟨dst, .convert T T x, ty, pos, after, g⟩ :: rest) a E := by
  have hmem : i ∈ (S k).keys := by unfold Any.Stat.keys; rw [hS]; simp
  refine E_mem hw hD hS ⟨_, _, 0, rfl, rfl⟩ (fun E' hA w hv => ?_) (fun v R hx => ?_)
  · have hE' : E' i = .row B C := by rw [hA i hmem]; exact hE
    obtain ⟨hr, hs⟩ := hv.row hE'
    obtain ⟨w', h1, h2⟩ := run_convert_mark (P := P) w T e B n n C ht he hs hr
    unfold res execOp
    simp only [hx, Sem.run_bind, h1, Result.andThen_ok, Sem.run_pure]
    refine ⟨_, ⟨B, rfl, rfl⟩, ?_⟩
    obtain ⟨ks, g1, g2, g3, hM⟩ := hv.split i
    rw [hE'] at hM
    refine VE.join g1 g2 g3 ?_
    have hM2 := Mem.marked (L := rowsE E' ks ++ β.L) hM h2 hC hn hm
    exact hM2.keepR fun y hy => by
      rcases List.mem_append.1 hy with hy | hy
      · obtain rfl := List.mem_singleton.1 hy; exact Mem.z
      · exact Mem.s (List.mem_append_right _ hy)
  · obtain ⟨B, rfl, rfl⟩ := hx
    exact hk B
end
end Bny
end Go
namespace Go.Proofs.Ytcelehhaggoijaa
open Go.Proofs.Nm Go.RowKit
theorem ret_b {a b : Bool} (h : a = b) : Ending.returned (.bool a) = .returned (.bool b) := by rw [h]
theorem Bytes_any (u v : Value) (l m : List Nat) (w : World) (hu : Rd w 1 u (cellsB l)) (hv : Rd w 1 v (cellsB m)) (hl : goodB l) (hm : goodB m) :
    Calls Try.prog 10 #[u, v] w fun e w' => e = .returned (.bool (decide (l = m))) ∧ w = w' := by
  have k1 := run_str (P := Try.prog) 23 9 5 Try.underlying23 Try.underlying5 Try.underlying9 hu hl
  have k2 := run_str (P := Try.prog) 23 9 5 Try.underlying23 Try.underlying5 Try.underlying9 hv hm
  have HB : Hid (((bstr l).toList == (bstr m).toList) = decide (l = m)) := Lib.hid (bstr_beq hl hm)
  generalize bstr l = s at *
  generalize bstr m = t at *
  clear hl hm hu hv
  go_enter Try.func10, Try.ntmps10
  go_wp2
  go_ret
  exact ⟨ret_b HB.out, rfl⟩
end Go.Proofs.Ytcelehhaggoijaa
