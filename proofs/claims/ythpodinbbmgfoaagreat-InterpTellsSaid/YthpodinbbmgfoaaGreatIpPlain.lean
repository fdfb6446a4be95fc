/-
  What an instruction does, in plain words. No program in sight.
-/
import Derived.Test.YthpodinbbmgfoaaGreatIpVal
import Derived.Test.YthpodinbbmgfoaaGreatIpBuild
import Derived.Test.YthpodinbbmgfoaaGreatCdArgs
import Derived.Test.YthpodinbbmgfoaaGreatPgWalk2
set_option linter.unusedVariables false
set_option linter.unusedSimpArgs false
namespace Go.Proofs.Ip
open Go Go.RowKit Go.Proofs.Pt Go.Proofs.Pg Go.Proofs.Cd
/-- A thread. -/
structure Th where
  st : Int
  pc : Int
  S : List Nat
  C : List Int
  wk : Nat
  sk : Int
  er : Int
def thC (st pc : Int) (sv cv : Value) (wk : Nat) (sk er : Int) : Array Value := #[.int .i64 st, .int .i64 pc, sv, cv, .int .u64 (wk : Nat), .int .i64 sk, .int .i64 er]
def twoF (op : Int) (x y : Nat) : Nat :=
  if op = 6 then (x + y) % 18446744073709551616 else if op = 7 then (x + (18446744073709551616 - y)) % 18446744073709551616 else if op = 8 then x * y % 18446744073709551616
  else if op = 9 then x / y else if op = 10 then x % y else if op = 11 then x &&& y else if op = 12 then x ||| y else if op = 13 then x ^^^ y
  else if op = 14 then x * 2 ^ y % 18446744073709551616 else if op = 15 then x / 2 ^ y else if op = 16 then bit (decide (x = y)) else if op = 17 then bit (decide (x < y))
  else if op = 18 then bit (decide (wrap64 (x : Int) < wrap64 (y : Int)))
  else if op = 26 then opF .add x y else if op = 27 then opF .sub x y else if op = 28 then opF .mul x y else if op = 29 then opF .quo x y else if op = 30 then minF x y else if op = 31 then maxF x y
  else if op = 32 then bit (ltF x y) else bit (eqF x y)
def ok2 (op : Int) (y : Nat) : Prop := (op = 9 ∨ op = 10) → y ≠ 0
def oneF (op : Int) (x : Nat) : Nat := if op = 19 then bit (decide (x = 0)) else if op = 34 then negF x else if op = 35 then fromI (IntKind.i64.wrap (x : Int)) else toW x
def isTwo (op : Int) : Bool := (decide (6 ≤ op) && decide (op ≤ 18)) || (decide (26 ≤ op) && decide (op ≤ 33))
def isOne (op : Int) : Bool := op == 19 || op == 34 || op == 35 || op == 36
def isMove (op : Int) : Bool := op == 0 || op == 20 || op == 22 || op == 23 || op == 37
def leftL (op : Int) (arg : Nat) (S ws : List Nat) (b : Nat → Bool) (q : Nat → Nat → Nat) : List Nat :=
  if op = 1 then [arg] else if op = 2 ∨ op = 21 ∨ op = 25 then [] else if op = 3 then [ws.getD 0 0, ws.getD 0 0] else if op = 4 then [ws.getD 1 0, ws.getD 0 0]
  else if op = 5 then (if S.length ≤ arg then [] else [S.getD (S.length - 1 - arg) 0]) else if op = 24 then [loadV b q (ws.getD 0 0)]
  else if (op = 9 ∨ op = 10) ∧ ws.getD 1 0 = 0 then [] else if isOne op then [oneF op (ws.getD 0 0)] else [twoF op (ws.getD 0 0) (ws.getD 1 0)]
def leftE (op : Int) (arg : Nat) (S ws : List Nat) (b : Nat → Bool) : Int :=
  if op = 5 then (if S.length ≤ arg then 300 else 0) else if op = 24 ∨ op = 25 then loadE b (ws.getD 0 0) else if (op = 9 ∨ op = 10) ∧ ws.getD 1 0 = 0 then 301 else 0
def leftQ (op : Int) (ws : List Nat) (b : Nat → Bool) (q : Nat → Nat → Nat) : Nat → Nat → Nat := if op = 25 then storeQ b q (ws.getD 0 0) (ws.getD 1 0) else q
/-- Instructions that take no words. -/
def moveF (op : Int) (arg : Nat) (t : Th) : Th × Int :=
  if op = 0 then (t, 310) else if op = 37 then (t, 302) else if op = 23 then (if t.C = [] then (t, 310) else ({ t with pc := t.C.getLastD 0, C := t.C.dropLast }, 0))
  else if op = 22 then (if t.C.length = 16 then (t, 300) else ({ t with pc := (arg : Nat), C := t.C ++ [t.pc + 1] }, 0)) else ({ t with pc := (arg : Nat) }, 0)
/-- Those that take some, or leave some. -/
def restF (op : Int) (arg : Nat) (t : Th) (b : Nat → Bool) (q : Nat → Nat → Nat) : Th × (Nat → Nat → Nat) × Int :=
  if t.S.length < (argsP op).1.toNat then (t, q, 300) else
  let n := t.S.length - (argsP op).1.toNat
  let e := leftE op arg (t.S.take n) (t.S.drop n) b
  let L := leftL op arg (t.S.take n) (t.S.drop n) b q
  if e ≠ 0 then (t, q, e) else if 32 < n + L.length then (t, q, 300) else
  ({ t with S := t.S.take n ++ L, pc := if op = 21 ∧ (t.S.drop n).getD 0 0 = 0 then (arg : Int) else t.pc + 1 }, leftQ op (t.S.drop n) b q, 0)
def inB (l : List Inst) (t : Th) : Bool := decide (0 ≤ t.pc) && decide (t.pc < l.length) && decide (t.S.length ≤ 32) && decide (t.C.length ≤ 16) && Cd.chk l
def doF (l : List Inst) (t : Th) (b : Nat → Bool) (q : Nat → Nat → Nat) : Th × (Nat → Nat → Nat) × Int :=
  if inB l t = true then
    (let x := l.getD t.pc.toNat (1, 0)
     if isMove x.1 then ((moveF x.1 x.2 t).1, q, (moveF x.1 x.2 t).2) else restF x.1 x.2 t b q)
  else (t, q, 290)
end Go.Proofs.Ip
namespace Go
open Go.RowKit
/-- A WORLD IN WHICH BLOCK b HAS OTHER CELLS; besides there is new memory. -/
structure Upd (w w' : World) (b : Nat) (c : Array Value) : Prop where
  row : w'.rowD b = c
  soft : w'.soft b = true
  other : ∀ k, k ≠ b → k < w.heap.size → w'.heap[k]? = w.heap[k]?
  size : w.heap.size ≤ w'.heap.size
  os : w'.os = w.os
  tape : w'.tape = w.tape
  output : w'.output = w.output
theorem Upd.of_wrote {w w' : World} {b : Nat} {c : Array Value} (h : Wrote w w' b c) : Upd w w' b c := ⟨h.row, h.soft, fun k hk _ => h.other k hk, by rw [h.size]; exact Nat.le_refl _, h.os, h.tape, h.output⟩
theorem Upd.of_new {w w' : World} {b : Nat} {c : Array Value} (h : New w w') (hb : w.soft b = true) (hr : w.rowD b = c) : Upd w w' b c :=
  ⟨by rw [h.row (soft_lt hb)]; exact hr, by rw [h.soft (soft_lt hb)]; exact hb, fun k _ hk => h.block k hk, h.size, h.os, h.tape, h.output⟩
theorem Upd.below {B : Nat} {a w w' : World} {b : Nat} {c : Array Value} (h : Upd w w' b c) (hb : Below B a w) (hB : B ≤ b) (hBa : B ≤ a.heap.size) : Below B a w' :=
  ⟨h.os.trans hb.os, h.tape.trans hb.tape, h.output.trans hb.output, Nat.le_trans hb.size h.size, fun k hk => (h.other k (by omega) (Nat.lt_of_lt_of_le hk (Nat.le_trans hBa hb.size))).trans (hb.block k hk)⟩
theorem Rd.upd {w w' : World} {b : Nat} {z : Array Value} {k : Nat} {v : Value} {c : List Value} (h : Rd w k v c) (hw : Upd w w' b z) (ha : c ≠ [] → ∀ b' o n cap, v = .slice (Option.some ⟨b', o, none⟩) n cap → b ≠ b') : Rd w' k v c := by
  obtain ⟨ao, n, cap, rfl, h1, h2, h3, h4, h5⟩ := h
  refine ⟨ao, n, cap, rfl, h1, h2, h3, h4, fun i hi => ?_⟩
  obtain ⟨b', o, e, hb, hc⟩ := h5 i hi
  have hne : b' ≠ b := fun e' => ha (fun e => by rw [e] at hi; simp at hi) b' o n cap (by rw [e]) e'.symm
  exact ⟨b', o, e, Nat.lt_of_lt_of_le hb hw.size, by rw [← hc]; exact World.cell?_of_block (w := w) (hw.other b' hne hb)⟩
theorem Vars.upd {w0 w w' : World} {L : List (Nat × Array Value)} (h : Vars w0 w L) (i : Nat) {b : Nat} {c0 c : Array Value} (hi : L[i]? = some (b, c0)) (hw : Upd w w' b c) : Vars w0 w' (L.set i (b, c)) := by
  have hmem : (b, c0) ∈ L := List.mem_of_getElem? hi
  obtain ⟨_, hs, hge⟩ := h.rows _ hmem
  -- the write alone, then the new memory
  have hm : Vars w0 (w.setRow b c) (L.set i (b, c)) := h.set i hi (wrote_setRow hs)
  refine ⟨hw.below h.below hge (Nat.le_refl _), fun p hp => ?_, hm.apart⟩
  obtain ⟨g1, g2, g3⟩ := hm.rows p hp
  by_cases e : p.1 = b
  · rw [e] at g1 g2 ⊢
    rw [rowD_setRow_same w b c hs] at g1
    exact ⟨hw.row.trans g1, hw.soft, by omega⟩
  · rw [rowD_setRow_other w b p.1 c e] at g1
    rw [soft_setRow_other w b p.1 c e] at g2
    have hlt := soft_lt g2
    exact ⟨by rw [rowD_congr (hw.other p.1 e hlt)]; exact g1, by rw [soft_congr (hw.other p.1 e hlt)]; exact g2, g3⟩
theorem Mem.upd {w0 w w' : World} {L : List (Nat × Array Value)} {R : List (Nat × Value × List Value)} (h : Mem w0 w L R) (i : Nat) {b : Nat} {c0 c1 : Array Value} (hi : L[i]? = some (b, c0)) (hw : Upd w w' b c1) : Mem w0 w' (L.set i (b, c1)) R :=
  ⟨h.vars.upd i hi hw, fun x hx => by
    obtain ⟨h1, h2⟩ := h.rds x hx
    refine ⟨h1.upd hw fun hc b' o n cap e => h2 hc b' o n cap e _ (List.mem_of_getElem? hi), fun hc b' o n cap e p hp => ?_⟩
    rcases List.mem_or_eq_of_mem_set hp with hp | rfl
    · exact h2 hc b' o n cap e p hp
    · exact h2 hc b' o n cap e (b, c0) (List.mem_of_getElem? hi)⟩
/-- Several that are new. -/
theorem Mem.freshs {w0 w w' : World} {L : List (Nat × Array Value)} {R : List (Nat × Value × List Value)} (h : Mem w0 w L R) (hn : New w w') : ∀ {Z : List (Nat × Value × List Value)}, (∀ z ∈ Z, FR w w' z.1 z.2.1 z.2.2) → Mem w0 w' L (Z ++ R)
  | [], _ => h.new hn
  | z :: Z, hz => by
    have := (h.freshs hn (Z := Z) fun y hy => hz y (List.mem_cons_of_mem _ hy))
    refine this.add (hz z (List.mem_cons_self ..)).1 fun hc b o n cap e p hp => ?_
    obtain ⟨b', o', n', cap', e', hb⟩ := (hz z (List.mem_cons_self ..)).2 hc
    rw [e'] at e; cases e
    have := soft_lt (h.vars.rows p hp).2.1
    omega
end Go
