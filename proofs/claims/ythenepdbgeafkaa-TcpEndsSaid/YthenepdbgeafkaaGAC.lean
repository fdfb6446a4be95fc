import Derived.Test.YthenepdbgeafkaaGAB
set_option linter.unusedSimpArgs false
set_option linter.unusedVariables false
section
/-
 Two ends that were established come apart (layer 26): all that may happen, looked through; and what it is of them. No program in sight.
-/
namespace Go.Proofs.Tp
open Go.Proofs.Wi
/-- An end: its state, how many of its parts are acknowledged, whether its end was sent, how many of its peer's parts came, whether its peer's end came. Its parts, and its end behind them, are numbered from 0 on. -/
structure E where
 st : Nat
 una : Nat
 se : Bool
 inn : Nat
 ed : Bool
deriving DecidableEq
/-- A segment: with bytes, or the end; its number, what it acknowledges. -/
structure Ge where
 dat : Bool
 fin : Bool
 seq : Nat
 ack : Nat
deriving DecidableEq
def nxE (np : Nat) (e : E) : Nat := if e.se then np + 1 else np
def opE (st : Nat) : Bool := st == 3 || st == 4 || st == 5
/-- What is acknowledged. -/
def ackE (np : Nat) (g : Ge) (e : E) : E × Bool :=
 if e.una < g.ack then
   (if e.se = true ∧ g.ack = np + 1 then
     (if e.st = 4 then ({ e with una := g.ack, st := 5 }, true) else if e.st = 7 then ({ e with una := g.ack, st := 9 }, true) else if e.st = 8 then ({ e with una := g.ack, st := 0 }, false) else ({ e with una := g.ack }, true))
   else ({ e with una := g.ack }, true))
 else (e, true)
/-- What it carries. -/
def carE (g : Ge) (e : E) : Option E :=
 if g.dat then (if opE e.st && !g.fin then some { e with inn := e.inn + 1 } else none)
 else if g.fin then
   (if e.st = 3 then some { e with inn := e.inn + 1, ed := true, st := 6 }
   else if e.st = 4 then some { e with inn := e.inn + 1, ed := true, st := 7 }
   else if e.st = 5 then some { e with inn := e.inn + 1, ed := true, st := 9 }
   else none)
 else some e
/-- A segment taken; what is sent. -/
def takeE (np pp : Nat) (g : Ge) (e : E) : Option (E × List Ge) :=
 if decide (3 ≤ e.st ∧ g.seq = e.inn ∧ e.una ≤ g.ack ∧ g.ack ≤ nxE np e ∧ (g.dat = true → g.seq < pp) ∧ (g.fin = true → g.seq = pp)) then
   (if (ackE np g e).2 = false then some ((ackE np g e).1, [])
   else match carE g (ackE np g e).1 with
     | none => none
     | some e2 => some (e2, if g.dat || g.fin then [⟨false, false, nxE np e2, e2.inn⟩] else []))
 else none
def closeE (np : Nat) (e : E) : Option (E × List Ge) :=
 if e.se then none
 else if e.st = 3 then some ({ e with st := 4, se := true }, [⟨false, true, np, e.inn⟩])
 else if e.st = 6 then some ({ e with st := 8, se := true }, [⟨false, true, np, e.inn⟩])
 else none
/-- Both, and what is on its way to each. -/
structure Se where
 a : E
 b : E
 qa : List Ge
 qb : List Ge
deriving DecidableEq
/-- The next one that is taken. -/
def stepE (na nb : Nat) (s : Se) : Option Se :=
 match s.qb with
 | g :: r => match takeE nb na g s.b with
   | none => none
   | some (e, o) => some { s with b := e, qb := r, qa := s.qa ++ o }
 | [] => match s.qa with
   | g :: r => match takeE na nb g s.a with
     | none => none
     | some (e, o) => some { s with a := e, qa := r, qb := s.qb ++ o }
   | [] => none
/-- To the end. -/
def runE (na nb : Nat) : Nat → Se → Option Se
 | 0, s => if s.qa.length + s.qb.length = 0 then some s else none
 | k + 1, s => if s.qa.length + s.qb.length = 0 then some s else
   match stepE na nb s with
   | none => none
   | some s' => runE na nb k s'
def startE (na nb : Nat) : Se := ⟨⟨3, 0, false, 0, false⟩, ⟨3, 0, false, 0, false⟩, (List.range nb).map (fun i => ⟨true, false, i, 0⟩), (List.range na).map (fun i => ⟨true, false, i, 0⟩)⟩
def closeA (na : Nat) (s : Se) : Option Se := match closeE na s.a with
 | none => none
 | some (e, o) => some { s with a := e, qb := s.qb ++ o }
def closeB (nb : Nat) (s : Se) : Option Se := match closeE nb s.b with
 | none => none
 | some (e, o) => some { s with b := e, qa := s.qa ++ o }
def endE (na nb : Nat) (s : Se) : Bool := (s.a.st == 9 || s.a.st == 0) && (s.b.st == 9 || s.b.st == 0) && s.a.ed && s.b.ed && s.a.inn == nb + 1 && s.b.inn == na + 1
/-- One closes, all goes; the other one closes, all goes. -/
def allE (na nb : Nat) (first : Bool) : Bool :=
 match (if first then closeB nb (startE na nb) else closeA na (startE na nb)) with
 | none => false
 | some s1 => match runE na nb 200 s1 with
   | none => false
   | some s2 => match (if first then closeA na s2 else closeB nb s2) with
     | none => false
     | some s3 => match runE na nb 200 s3 with
       | none => false
       | some s4 => endE na nb s4
theorem they_end : ∀ na < 3, ∀ nb < 3, ∀ f : Bool, allE na nb f = true := by decide +kernel
end Go.Proofs.Tp
end

section
/-
 Two ends that were established come apart (layer 26): what was looked through is what they do. No program in sight.
-/
namespace Go.Proofs.Tp
open Go.Proofs.Wi
/-- How many parts so many bytes are; where each begins. -/
def npE (n : Nat) : Nat := (n + 63) / 64
def posE (n i : Nat) : Nat := if i ≤ npE n then min (64 * i) n else n + 1
theorem posE_lt {n i j : Nat} (h : i < j) (hj : j ≤ npE n + 1) : posE n i < posE n j := by
 unfold posE npE at *
 split <;> split <;> omega
theorem posE_le {n i j : Nat} (h : i ≤ j) (hj : j ≤ npE n + 1) : posE n i ≤ posE n j := by
 rcases Nat.lt_or_ge i j with e | e
 · exact Nat.le_of_lt (posE_lt e hj)
 · have : i = j := by omega
   rw [this]; exact Nat.le_refl _
theorem posE_top (n i : Nat) : posE n i ≤ n + 1 := by
 unfold posE
 split <;> omega
theorem posE_end (n : Nat) : posE n (npE n) = n := by
 unfold posE npE
 rw [if_pos (Nat.le_refl _)]; omega
theorem posE_fin (n : Nat) : posE n (npE n + 1) = n + 1 := by
 unfold posE
 rw [if_neg (by omega)]
theorem posE_zero (n : Nat) : posE n 0 = 0 := by
 unfold posE
 rw [if_pos (Nat.zero_le _)]; omega
theorem posE_part {n i : Nat} (h : i < npE n) : posE n i + 1 ≤ posE n (i + 1) ∧ posE n (i + 1) ≤ posE n i + 64 ∧ posE n (i + 1) ≤ n := by
 unfold posE npE at *
 rw [if_pos (by omega), if_pos (by omega)]; omega
/-- An end as it is: its own bytes, its peer's. -/
def conE (own peer lo po : Nat) (data pd : List Nat) (e : E) (wnd tm rto tr : Nat) (bytes : List Nat) : T := ⟨e.st, lo, 0, po, own, u32 (own + 1 + posE data.length e.una), u32 (own + 1 + posE data.length (nxE (npE data.length) e)), data.drop (posE data.length e.una), wnd, e.se, e.se, ⟨u32 (peer + 1 + posE pd.length e.inn), bytes, []⟩, e.ed, tm, rto, tr, 0⟩
def conGe (own peer lo po : Nat) (data pd : List Nat) (g : Ge) (w : Nat) : G := ⟨lo, po, u32 (own + 1 + posE data.length g.seq), u32 (peer + 1 + posE pd.length g.ack), if g.fin then 17 else if g.dat then 24 else 16, w, if g.dat then (data.drop (posE data.length g.seq)).take (posE data.length (g.seq + 1) - posE data.length g.seq) else []⟩
/-- An end that may be, beside what stands in words. -/
structure OkE (data pd : List Nat) (e : E) (wnd tm rto tr : Nat) : Prop where
 fst : e.st ≤ 9 ∧ e.st ≠ 1 ∧ e.st ≠ 2
 fun_ : e.una ≤ nxE (npE data.length) e
 fin_ : e.inn ≤ npE pd.length + 1
 fwn : wnd ≤ 65535
 ftm : tm ≤ 1099511627776
 frt : 1 ≤ rto ∧ rto ≤ 64
 ftr : tr ≤ 12
 ft0 : e.st = 0 → tm = 0
def RelE (own peer lo po : Nat) (data pd : List Nat) (e : E) (t : T) : Prop := ∃ wnd tm rto tr, OkE data pd e wnd tm rto tr ∧ t = conE own peer lo po data pd e wnd tm rto tr []
def RelG (own peer lo po : Nat) (data pd : List Nat) (g : Ge) (s : G) : Prop := ∃ w, 1 ≤ w ∧ w ≤ 256 ∧ s = conGe own peer lo po data pd g w
section
variable {own peer lo po : Nat} {data pd : List Nat} {e : E} {wnd tm rto tr : Nat} {bytes : List Nat}
theorem nx_le (n : Nat) (e : E) : nxE n e ≤ n + 1 := by unfold nxE; split <;> omega
theorem con_flight (hd : data.length ≤ 100) (h : e.una ≤ nxE (npE data.length) e) : flight (conE own peer lo po data pd e wnd tm rto tr bytes) = (posE data.length (nxE (npE data.length) e) : Int) - posE data.length e.una := by
 have h1 := posE_top data.length e.una
 have h2 := posE_top data.length (nxE (npE data.length) e)
 show dif (u32 (own + 1 + posE data.length (nxE (npE data.length) e))) (u32 (own + 1 + posE data.length e.una)) = _
 exact dif_u _ _ _ (by omega) (by omega)
/-- All bytes were sent. -/
theorem con_own (hd : data.length ≤ 100) (h : e.una ≤ nxE (npE data.length) e) : Tp.own (conE own peer lo po data pd e wnd tm rto tr bytes) = ((data.drop (posE data.length e.una)).length : Nat) := by
 have hf := con_flight (own := own) (peer := peer) (lo := lo) (po := po) (pd := pd) (wnd := wnd) (tm := tm) (rto := rto) (tr := tr) (bytes := bytes) hd h
 have hl := posE_le h (nx_le _ _)
 unfold Tp.own
 rw [hf, List.length_drop]
 have hse : (conE own peer lo po data pd e wnd tm rto tr bytes).se = e.se := rfl
 rw [hse]
 rcases Bool.eq_false_or_eq_true e.se with hs | hs
 · have hn : nxE (npE data.length) e = npE data.length + 1 := by unfold nxE; rw [hs]; rfl
   rw [hn, posE_fin] at hl ⊢
   by_cases q : posE data.length e.una = data.length + 1
   · rw [if_neg (by omega), q]; omega
   · rw [if_pos ⟨hs, by omega⟩]; omega
 · have hn : nxE (npE data.length) e = npE data.length := by unfold nxE; rw [hs]; rfl
   rw [hn, posE_end] at hl ⊢
   rw [if_neg (by rw [hs]; simp)]; omega
theorem con_chk (hd : data.length ≤ 100) (hb : bytes.length ≤ 256) (hlo : 1 ≤ lo ∧ lo ≤ 65535) (hpo : 1 ≤ po ∧ po ≤ 65535) (h : OkE data pd e wnd tm rto tr) : chkT (conE own peer lo po data pd e wnd tm rto tr bytes) = true := by
 refine chkT_iff.2 ⟨⟨h.fst.1, hlo, hpo, ?_, h.fwn, fun q => q, h.ftm, h.frt, h.ftr, Nat.zero_le _, chk_empty _ _ hb⟩, ?_⟩
 · show (data.drop _).length ≤ 256
   rw [List.length_drop]; omega
 · by_cases q : e.st = 0
   · unfold numbers
     rw [if_pos (show (conE own peer lo po data pd e wnd tm rto tr bytes).st = 0 from q)]
     show (tm == 0) = true
     rw [h.ft0 q]; rfl
   · have := h.fst
     refine (numbers_nm (by show 3 ≤ e.st; omega)).2 ?_
     unfold Nm
     rw [con_own hd h.fun_]
     show 0 ≤ ((data.drop (posE data.length e.una)).length : Int) ∧ ((data.drop (posE data.length e.una)).length : Int) ≤ ((data.drop (posE data.length e.una)).length : Nat)
     omega
end
/-- Nothing but the timer. -/
theorem flush_same {now : Nat} {c : C} (h1 : own c.t = c.t.data.length) (h2 : c.t.en = c.t.se) : ∃ tm', flush now c = { c with t := { c.t with tm := tm' } } ∧ (tm' = c.t.tm ∨ (sends c.t = true ∧ tm' = later now c.t.rto)) := by
 have hr : room1 c.t ≤ 0 := by unfold room1; rw [h1]; omega
 have hf : fin1 c = c := by
   unfold fin1
   rw [if_neg]
   rintro ⟨_, q1, q2⟩
   rw [h2, q2] at q1
   cases q1
 unfold flush
 split
 · exact ⟨c.t.tm, rfl, .inl rfl⟩
 · rename_i hs
   rw [segs_succ, if_pos hr]
   show ∃ tm', flushT now _ (fin1 c) = _ ∧ _
   rw [hf]
   unfold flushT
   split
   · exact ⟨_, rfl, .inr ⟨by simpa using hs, rfl⟩⟩
   · exact ⟨c.t.tm, rfl, .inl rfl⟩
/-- Bytes that come in order. -/
theorem took_next {nx : Nat} {d b : List Nat} {r : List Sp} (h0 : 0 < d.length) (hd : d.length ≤ 64) (h : Took (gF ⟨nx, [], []⟩ nx d) b r) : outS ⟨nx, [], []⟩ b r = ⟨u32 (nx + d.length), d, []⟩ := by
 have hroom : room ⟨nx, [], []⟩ = 256 := by
   unfold room
   rw [chk_empty _ [] (Nat.zero_le _), if_pos rfl]; rfl
 have hg : ∀ k, gF ⟨nx, [], []⟩ nx d k = d[k]? := by
   intro k
   unfold gF part
   rw [hroom]
   show (if (k : Int) < 256 then (Wi.cont [] k).or (if cov (dif nx nx, d.take 4096) k then (d.take 4096)[((k : Int) - dif nx nx).toNat]? else none) else none) = _
   rw [dif_self, List.take_of_length_le (by omega)]
   have e1 : ((k : Int) - 0).toNat = k := by omega
   rw [e1]
   have hc : cov (0, d) k ↔ k < d.length := by unfold cov; simp only; omega
   by_cases q : k < d.length
   · rw [if_pos (by omega), if_pos (hc.2 q)]; rfl
   · rw [if_neg (fun x => q (hc.1 x)), List.getElem?_eq_none (by omega)]
     split <;> rfl
 have ht : Took (gF ⟨nx, [], []⟩ nx d) d [] := ⟨trivial, fun k _ => hg k, by rw [hg, List.getElem?_eq_none (Nat.le_refl _)], fun k => by
   rw [hg]
   split
   · rw [List.getElem?_eq_none (by assumption)]; rfl
   · rfl⟩
 obtain ⟨rfl, rfl⟩ := h.unique ht
 rfl
end Go.Proofs.Tp
end

section
/-
 Two ends that were established come apart (layer 26): a segment taken. No program in sight.
-/
namespace Go.Proofs.Tp
open Go.Proofs.Wi
section
variable {own peer lo po : Nat} {data pd : List Nat} {e : E} {wnd tm rto tr w now : Nat} {g : Ge}
theorem posE_eq {n i j : Nat} (hi : i ≤ npE n + 1) (hj : j ≤ npE n + 1) : posE n i = posE n j ↔ i = j := by
 refine ⟨fun h => ?_, fun h => by rw [h]⟩
 rcases Nat.lt_trichotomy i j with q | q | q
 · have := posE_lt q hj; omega
 · exact q
 · have := posE_lt q hi; omega
/-- What it acknowledges. -/
theorem ack_con (hd : data.length ≤ 100) (h : OkE data pd e wnd tm rto tr) (hs : 3 ≤ e.st) (hw1 : 1 ≤ w) (hw2 : w ≤ 256) (ha : e.una ≤ g.ack) (hn : g.ack ≤ nxE (npE data.length) e) :
   ∃ tm' rto' tr', acked now (conGe peer own po lo pd data g w) ⟨conE own peer lo po data pd e wnd tm rto tr [], []⟩ = (⟨conE own peer lo po data pd (ackE (npE data.length) g e).1 w tm' rto' tr' [], []⟩, (ackE (npE data.length) g e).2) ∧ OkE data pd (ackE (npE data.length) g e).1 w tm' rto' tr' ∧ (ackE (npE data.length) g e).1.inn = e.inn ∧ ((ackE (npE data.length) g e).2 = true → 3 ≤ (ackE (npE data.length) g e).1.st) := by
 have hnx := nx_le (npE data.length) e
 have h1 := posE_le ha (Nat.le_trans hn hnx)
 have h2 := posE_le hn hnx
 have t1 := posE_top data.length g.ack
 have t2 := posE_top data.length e.una
 have t3 := posE_top data.length (nxE (npE data.length) e)
 have ef := con_flight (own := own) (peer := peer) (lo := lo) (po := po) (pd := pd) (wnd := wnd) (tm := tm) (rto := rto) (tr := tr) (bytes := []) hd h.fun_
 have ed : dif (conGe peer own po lo pd data g w).ack (conE own peer lo po data pd e wnd tm rto tr []).una = (posE data.length g.ack : Int) - posE data.length e.una := by
   show dif (u32 (own + 1 + posE data.length g.ack)) (u32 (own + 1 + posE data.length e.una)) = _
   exact dif_u _ _ _ (by omega) (by omega)
 obtain ⟨f1, f2, f3⟩ := h.fst
 unfold acked
 rw [if_neg (show ¬ (conE own peer lo po data pd e wnd tm rto tr []).st = 2 from f3)]
 show ∃ tm' rto' tr', (if flight (conE own peer lo po data pd e wnd tm rto tr []) < dif (conGe peer own po lo pd data g w).ack (conE own peer lo po data pd e wnd tm rto tr []).una then _ else _) = _ ∧ _
 rw [ed, ef, if_neg (by omega), if_neg (by omega)]
 unfold ackE
 by_cases q : e.una < g.ack
 · have hlt := posE_lt q (Nat.le_trans hn hnx)
   rw [if_pos (by omega), if_pos q]
   have em : ((posE data.length g.ack : Int) - posE data.length e.una).toNat = posE data.length g.ack - posE data.length e.una := by omega
   rw [em]
   have hge : goneE (posE data.length g.ack - posE data.length e.una) { t := { (conE own peer lo po data pd e wnd tm rto tr []) with wnd := w }, out := [] } = decide (e.se = true ∧ g.ack = npE data.length + 1) := by
     show (e.se && ((posE data.length g.ack - posE data.length e.una : Nat) : Int) == flight (conE own peer lo po data pd e wnd tm rto tr [])) = _
     rw [ef, Bool.eq_iff_iff]
     simp only [Bool.and_eq_true, beq_iff_eq, decide_eq_true_eq]
     have hq := posE_eq (n := data.length) (i := g.ack) (j := nxE (npE data.length) e) (Nat.le_trans hn hnx) hnx
     constructor
     · rintro ⟨q1, q2⟩
       have : nxE (npE data.length) e = npE data.length + 1 := by unfold nxE; rw [q1]; rfl
       exact ⟨q1, by rw [← this]; exact hq.1 (by omega)⟩
     · rintro ⟨q1, q2⟩
       have : nxE (npE data.length) e = npE data.length + 1 := by unfold nxE; rw [q1]; rfl
       refine ⟨q1, ?_⟩
       have := hq.2 (by rw [q2, this])
       omega
   unfold gone
   show ∃ tm' rto' tr', (if goneE (posE data.length g.ack - posE data.length e.una) { t := { (conE own peer lo po data pd e wnd tm rto tr []) with wnd := w }, out := [] } = false then _ else _) = _ ∧ _
   rw [hge]
   by_cases q2 : e.se = true ∧ g.ack = npE data.length + 1
   · rw [if_neg (by rw [decide_eq_true q2]; decide), if_pos q2]
     have hm : goneM (posE data.length g.ack - posE data.length e.una) { t := { (conE own peer lo po data pd e wnd tm rto tr []) with wnd := w }, out := [] } = posE data.length g.ack - posE data.length e.una - 1 := by
       unfold goneM
       rw [hge, decide_eq_true q2]; rfl
     have hnxe : nxE (npE data.length) e = npE data.length + 1 := by unfold nxE; rw [q2.1]; rfl
     have hfin : posE data.length g.ack = data.length + 1 := by rw [q2.2]; exact posE_fin _
     have e2 : gone2 (posE data.length g.ack - posE data.length e.una) { t := { (conE own peer lo po data pd e wnd tm rto tr []) with wnd := w }, out := [] } = ⟨conE own peer lo po data pd { e with una := g.ack } w 0 4 0 [], []⟩ := by
       unfold gone2 gone1
       rw [hm]
       show (⟨⟨e.st, lo, 0, po, own, u32 (u32 (u32 (own + 1 + posE data.length e.una) + (posE data.length g.ack - posE data.length e.una - 1)) + 1), u32 (own + 1 + posE data.length (nxE (npE data.length) e)), (data.drop (posE data.length e.una)).drop (posE data.length g.ack - posE data.length e.una - 1), w, e.se, e.se, ⟨u32 (peer + 1 + posE pd.length e.inn), [], []⟩, e.ed, 0, 4, 0, 0⟩, []⟩ : C) = _
       have x1 : u32 (u32 (u32 (own + 1 + posE data.length e.una) + (posE data.length g.ack - posE data.length e.una - 1)) + 1) = u32 (own + 1 + posE data.length g.ack) := by unfold u32; omega
       have x2 : (data.drop (posE data.length e.una)).drop (posE data.length g.ack - posE data.length e.una - 1) = data.drop (posE data.length g.ack) := by
         rw [List.drop_drop, List.drop_of_length_le (by omega), List.drop_of_length_le (by omega)]
       rw [x1, x2]; rfl
     show ∃ tm' rto' tr', goneEnd now (gone2 (posE data.length g.ack - posE data.length e.una) { t := { (conE own peer lo po data pd e wnd tm rto tr []) with wnd := w }, out := [] }) = _ ∧ _
     rw [e2]
     unfold goneEnd
     show ∃ tm' rto' tr', (if e.st = 4 then _ else _) = _ ∧ _
     have hok : ∀ (s tm2 : Nat), s ≤ 9 → s ≠ 1 → s ≠ 2 → (s = 0 → tm2 = 0) → tm2 ≤ 1099511627776 → OkE data pd { e with una := g.ack, st := s } w tm2 4 0 := fun s tm2 a1 a2 a3 a4 a5 => ⟨⟨a1, a2, a3⟩, by show g.ack ≤ nxE (npE data.length) e; exact hn, h.fin_, by omega, a5, by decide, by decide, a4⟩
     by_cases s4 : e.st = 4
     · rw [if_pos s4, if_pos s4]
       exact ⟨0, 4, 0, rfl, hok 5 0 (by decide) (by decide) (by decide) (fun h => rfl) (by decide), rfl, fun _ => by show 3 ≤ 5; decide⟩
     · rw [if_neg s4, if_neg s4]
       show ∃ tm' rto' tr', (if e.st = 7 then _ else _) = _ ∧ _
       by_cases s7 : e.st = 7
       · rw [if_pos s7, if_pos s7]
         exact ⟨later now 32, 4, 0, rfl, hok 9 _ (by decide) (by decide) (by decide) (fun h => by cases h) (later_le _ _), rfl, fun _ => by show 3 ≤ 9; decide⟩
       · rw [if_neg s7, if_neg s7]
         show ∃ tm' rto' tr', (if e.st = 8 then _ else _) = _ ∧ _
         by_cases s8 : e.st = 8
         · rw [if_pos s8, if_pos s8]
           exact ⟨0, 4, 0, rfl, hok 0 0 (by decide) (by decide) (by decide) (fun h => rfl) (by decide), rfl, fun h => by cases h⟩
         · rw [if_neg s8, if_neg s8]
           exact ⟨0, 4, 0, rfl, hok e.st 0 f1 f2 f3 (fun h => rfl) (by decide), rfl, fun _ => hs⟩
   · rw [if_pos (by rw [decide_eq_false q2]), if_neg q2]
     have hm : goneM (posE data.length g.ack - posE data.length e.una) { t := { (conE own peer lo po data pd e wnd tm rto tr []) with wnd := w }, out := [] } = posE data.length g.ack - posE data.length e.una := by
       unfold goneM
       rw [hge, decide_eq_false q2]; rfl
     have e2 : gone1 (posE data.length g.ack - posE data.length e.una) { t := { (conE own peer lo po data pd e wnd tm rto tr []) with wnd := w }, out := [] } = ⟨conE own peer lo po data pd { e with una := g.ack } w 0 4 0 [], []⟩ := by
       unfold gone1
       rw [hm]
       show (⟨⟨e.st, lo, 0, po, own, u32 (u32 (own + 1 + posE data.length e.una) + (posE data.length g.ack - posE data.length e.una)), u32 (own + 1 + posE data.length (nxE (npE data.length) e)), (data.drop (posE data.length e.una)).drop (posE data.length g.ack - posE data.length e.una), w, e.se, e.se, ⟨u32 (peer + 1 + posE pd.length e.inn), [], []⟩, e.ed, 0, 4, 0, 0⟩, []⟩ : C) = _
       have x1 : u32 (u32 (own + 1 + posE data.length e.una) + (posE data.length g.ack - posE data.length e.una)) = u32 (own + 1 + posE data.length g.ack) := by unfold u32; omega
       have x2 : (data.drop (posE data.length e.una)).drop (posE data.length g.ack - posE data.length e.una) = data.drop (posE data.length g.ack) := by
         rw [List.drop_drop]; congr 1; omega
       rw [x1, x2]; rfl
     show ∃ tm' rto' tr', (gone1 (posE data.length g.ack - posE data.length e.una) { t := { (conE own peer lo po data pd e wnd tm rto tr []) with wnd := w }, out := [] }, true) = _ ∧ _
     rw [e2]
     exact ⟨0, 4, 0, rfl, ⟨⟨f1, f2, f3⟩, hn, h.fin_, by omega, by decide, by decide, by decide, fun _ => rfl⟩, rfl, fun _ => hs⟩
 · have hq : g.ack = e.una := by omega
   rw [if_neg (by rw [hq]; omega), if_neg q]
   rw [if_neg (show ¬ (conGe peer own po lo pd data g w).wnd = 0 by show ¬ w = 0; omega)]
   exact ⟨tm, rto, tr, rfl, ⟨h.fst, h.fun_, h.fin_, by omega, h.ftm, h.frt, h.ftr, h.ft0⟩, rfl, fun _ => hs⟩
/-- In a reading of 300 all goes, and nothing is sent. -/
theorem read_quiet {t : T} (hb : t.inn.bytes.length ≤ 256) (hr : 64 ≤ room t.inn) : Tp.read 300 t = (⟨{ t with inn := ⟨t.inn.next, [], t.inn.ps⟩ }, []⟩, t.inn.bytes) := by
 have hc : clampT 300 t.inn.bytes.length = t.inn.bytes.length := by unfold clampT; rw [if_neg (by decide)]; omega
 unfold Tp.read
 rw [hc]
 dsimp only
 rw [List.drop_of_length_le (Nat.le_refl _), List.take_of_length_le (Nat.le_refl _), if_neg (by omega)]
theorem room_con (nx : Nat) {bytes : List Nat} (h : bytes.length ≤ 256) : room ⟨nx, bytes, []⟩ = 256 - bytes.length := by
 unfold room
 rw [chk_empty _ _ h, if_pos rfl]
/-- What it carries. -/
theorem car_con {e2 : E} (hpd : pd.length ≤ 100) (h : OkE data pd e w tm rto tr) (hs : 3 ≤ e.st) (hsq : g.seq = e.inn) (hdat : g.dat = true → g.seq < npE pd.length) (hfin : g.fin = true → g.seq = npE pd.length) (hc : carE g e = some e2) {c' : C} (hC : Carried now (conGe peer own po lo pd data g w) ⟨conE own peer lo po data pd e w tm rto tr [], []⟩ c') :
   ∃ tm' bytes, c' = ⟨conE own peer lo po data pd e2 w tm' rto tr bytes, []⟩ ∧ OkE data pd e2 w tm' rto tr ∧ bytes.length ≤ 64 ∧ pd.take (posE pd.length e.inn) ++ bytes = pd.take (posE pd.length e2.inn) ∧ e2.se = e.se := by
 obtain ⟨s', h1, h2⟩ := hC
 have hop : openS (conE own peer lo po data pd e w tm rto tr []) = opE e.st := rfl
 obtain ⟨f1, f2, f3⟩ := h.fst
 unfold carE at hc
 cases hd : g.dat with
 | true =>
   rw [hd, if_pos rfl] at hc
   split at hc
   · rename_i q
     rw [Bool.and_eq_true] at q
     obtain ⟨q1, q2⟩ := q
     have q2 : g.fin = false := by simpa using q2
     cases hc
     have hp := posE_part (hdat hd)
     have hin : (conGe peer own po lo pd data g w).data = (pd.drop (posE pd.length g.seq)).take (posE pd.length (g.seq + 1) - posE pd.length g.seq) := by
       show (if g.dat then _ else _) = _
       rw [hd, if_pos rfl]
     have hln : (conGe peer own po lo pd data g w).data.length = posE pd.length (g.seq + 1) - posE pd.length g.seq := by
       rw [hin, List.length_take, List.length_drop]; omega
     have hfl : has (conGe peer own po lo pd data g w).fl 1 = false := by
       show has (if g.fin then 17 else if g.dat then 24 else 16) 1 = false
       rw [q2, hd]; decide
     rw [if_pos ⟨by rw [hop]; exact q1, by omega⟩] at h1
     obtain ⟨b, r, ht, rfl⟩ := h1
     have hsx : (conGe peer own po lo pd data g w).seq = u32 (peer + 1 + posE pd.length e.inn) := by show u32 (peer + 1 + posE pd.length g.seq) = _; rw [hsq]
     rw [hsx] at ht
     have hout := took_next (by omega) (by omega) ht
     have hO : outS (conE own peer lo po data pd e w tm rto tr []).inn b r = ⟨u32 (peer + 1 + posE pd.length (e.inn + 1)), (conGe peer own po lo pd data g w).data, []⟩ := by
       refine hout.trans ?_
       rw [hln]
       have : u32 (u32 (peer + 1 + posE pd.length e.inn) + (posE pd.length (g.seq + 1) - posE pd.length g.seq)) = u32 (peer + 1 + posE pd.length (e.inn + 1)) := by rw [hsq] at hp ⊢; unfold u32; omega
       rw [this]
     refine ⟨tm, (conGe peer own po lo pd data g w).data, ?_, ⟨h.fst, h.fun_, by have := hdat hd; show e.inn + 1 ≤ _; omega, h.fwn, h.ftm, h.frt, h.ftr, h.ft0⟩, by omega, ?_, rfl⟩
     · rw [h2]
       dsimp only
       rw [if_pos hfl]
       show (⟨{ conE own peer lo po data pd e w tm rto tr [] with inn := outS (conE own peer lo po data pd e w tm rto tr []).inn b r }, []⟩ : C) = _
       rw [hO]; rfl
     · rw [hin, hsq]
       show _ = pd.take (posE pd.length (e.inn + 1))
       rw [hsq] at hp
       rw [take_app]; congr 1; omega
   · cases hc
 | false =>
   rw [hd, if_neg (by decide)] at hc
   have hin : (conGe peer own po lo pd data g w).data = [] := by
     show (if g.dat then _ else _) = _
     rw [hd]; rfl
   rw [if_neg (by rw [hin]; simp)] at h1
   subst h1
   cases hf : g.fin with
   | true =>
     rw [hf, if_pos rfl] at hc
     have hfl : has (conGe peer own po lo pd data g w).fl 1 = true := by
       show has (if g.fin then 17 else if g.dat then 24 else 16) 1 = true
       rw [hf, hd]; decide
     have hpp := hfin hf
     have hnx : u32 (u32 (peer + 1 + posE pd.length e.inn) + 1) = u32 (peer + 1 + posE pd.length (e.inn + 1)) := by
       rw [← hsq, hpp, posE_fin, posE_end]; unfold u32; omega
     have hby : pd.take (posE pd.length e.inn) ++ [] = pd.take (posE pd.length (e.inn + 1)) := by
       rw [List.append_nil, ← hsq, hpp, posE_fin, posE_end, List.take_of_length_le (Nat.le_refl _), List.take_of_length_le (by omega)]
     have hnext : (conE own peer lo po data pd e w tm rto tr []).inn.next = u32 ((conGe peer own po lo pd data g w).seq + (conGe peer own po lo pd data g w).data.length) := by
       rw [hin]
       show u32 (peer + 1 + posE pd.length e.inn) = u32 (u32 (peer + 1 + posE pd.length g.seq) + 0)
       rw [hsq]; unfold u32; omega
     have hok : ∀ (s tm2 : Nat), 3 ≤ s → s ≤ 9 → tm2 ≤ 1099511627776 → OkE data pd { e with inn := e.inn + 1, ed := true, st := s } w tm2 rto tr := fun s tm2 a1 a2 a5 => ⟨⟨a2, by show s ≠ 1; omega, by show s ≠ 2; omega⟩, by show e.una ≤ nxE (npE data.length) e; exact h.fun_, by show e.inn + 1 ≤ _; omega, h.fwn, a5, h.frt, h.ftr, fun (x : s = 0) => by omega⟩
     have hcc : (e.st = 3 ∨ e.st = 4 ∨ e.st = 5) → c' = ended now ⟨conE own peer lo po data pd e w tm rto tr [], []⟩ := by
       intro q
       rw [h2]
       dsimp only
       rw [if_neg (by rw [hfl]; decide)]
       rw [if_neg (by show ¬ e.st = 9; omega), if_pos ⟨by rw [hop]; rcases q with q | q | q <;> rw [q] <;> decide, hnext⟩]
     have hen : ended now ⟨conE own peer lo po data pd e w tm rto tr [], []⟩ = (if e.st = 3 then ⟨conE own peer lo po data pd { e with inn := e.inn + 1, ed := true, st := 6 } w tm rto tr [], []⟩ else if e.st = 4 then ⟨conE own peer lo po data pd { e with inn := e.inn + 1, ed := true, st := 7 } w tm rto tr [], []⟩ else if e.st = 5 then ⟨conE own peer lo po data pd { e with inn := e.inn + 1, ed := true, st := 9 } w (later now 32) rto tr [], []⟩ else ⟨conE own peer lo po data pd { e with inn := e.inn + 1, ed := true } w tm rto tr [], []⟩) := by
       unfold ended Tp.rest
       show (if e.st = 3 then ⟨⟨6, lo, 0, po, own, u32 (own + 1 + posE data.length e.una), u32 (own + 1 + posE data.length (nxE (npE data.length) e)), data.drop (posE data.length e.una), w, e.se, e.se, ⟨u32 (u32 (peer + 1 + posE pd.length e.inn) + 1), [], []⟩, true, tm, rto, tr, 0⟩, []⟩ else if e.st = 4 then ⟨⟨7, lo, 0, po, own, u32 (own + 1 + posE data.length e.una), u32 (own + 1 + posE data.length (nxE (npE data.length) e)), data.drop (posE data.length e.una), w, e.se, e.se, ⟨u32 (u32 (peer + 1 + posE pd.length e.inn) + 1), [], []⟩, true, tm, rto, tr, 0⟩, []⟩ else if e.st = 5 then ⟨⟨9, lo, 0, po, own, u32 (own + 1 + posE data.length e.una), u32 (own + 1 + posE data.length (nxE (npE data.length) e)), data.drop (posE data.length e.una), w, e.se, e.se, ⟨u32 (u32 (peer + 1 + posE pd.length e.inn) + 1), [], []⟩, true, later now 32, rto, tr, 0⟩, []⟩ else ⟨⟨e.st, lo, 0, po, own, u32 (own + 1 + posE data.length e.una), u32 (own + 1 + posE data.length (nxE (npE data.length) e)), data.drop (posE data.length e.una), w, e.se, e.se, ⟨u32 (u32 (peer + 1 + posE pd.length e.inn) + 1), [], []⟩, true, tm, rto, tr, 0⟩, []⟩ : C) = _
       rw [hnx]
       rfl
     by_cases s3 : e.st = 3
     · rw [if_pos s3] at hc
       cases hc
       refine ⟨tm, [], ?_, hok 6 tm (by decide) (by decide) h.ftm, by decide, hby, rfl⟩
       rw [hcc (.inl s3), hen, if_pos s3]
     · rw [if_neg s3] at hc
       by_cases s4 : e.st = 4
       · rw [if_pos s4] at hc
         cases hc
         refine ⟨tm, [], ?_, hok 7 tm (by decide) (by decide) h.ftm, by decide, hby, rfl⟩
         rw [hcc (.inr (.inl s4)), hen, if_neg s3, if_pos s4]
       · rw [if_neg s4] at hc
         by_cases s5 : e.st = 5
         · rw [if_pos s5] at hc
           cases hc
           refine ⟨later now 32, [], ?_, hok 9 _ (by decide) (by decide) (later_le _ _), by decide, hby, rfl⟩
           rw [hcc (.inr (.inr s5)), hen, if_neg s3, if_neg s4, if_pos s5]
         · rw [if_neg s5] at hc; cases hc
   | false =>
     rw [hf, if_neg (by decide)] at hc
     cases hc
     have hfl : has (conGe peer own po lo pd data g w).fl 1 = false := by
       show has (if g.fin then 17 else if g.dat then 24 else 16) 1 = false
       rw [hf, hd]; decide
     refine ⟨tm, [], ?_, h, by decide, List.append_nil _, rfl⟩
     rw [h2]
     dsimp only
     rw [if_pos hfl]
end
end Go.Proofs.Tp
end

section
/-
 Two ends that were established come apart (layer 26): a segment taken, and read; an end closed; both to their end. No program in sight.
-/
namespace Go.Proofs.Tp
open Go.Proofs.Wi
def RelGs (own peer lo po : Nat) (data pd : List Nat) : List Ge → List G → Prop
 | [], [] => True
 | g :: l, s :: m => RelG own peer lo po data pd g s ∧ RelGs own peer lo po data pd l m
 | [], _ :: _ => False
 | _ :: _, [] => False
theorem RelGs.len {own peer lo po : Nat} {data pd : List Nat} : ∀ {l : List Ge} {m : List G}, RelGs own peer lo po data pd l m → l.length = m.length := by
 intro l
 induction l with
 | nil => intro m h; cases m with
   | nil => rfl
   | cons => exact h.elim
 | cons g l ih => intro m h; cases m with
   | nil => exact h.elim
   | cons s m => show l.length + 1 = m.length + 1; rw [ih h.2]
theorem RelGs.app {own peer lo po : Nat} {data pd : List Nat} : ∀ {l l' : List Ge} {m m' : List G}, RelGs own peer lo po data pd l m → RelGs own peer lo po data pd l' m' → RelGs own peer lo po data pd (l ++ l') (m ++ m') := by
 intro l
 induction l with
 | nil => intro l' m m' h h'; cases m with
   | nil => exact h'
   | cons => exact h.elim
 | cons g l ih => intro l' m m' h h'; cases m with
   | nil => exact h.elim
   | cons s m => exact ⟨h.1, ih h.2 h'⟩
section
variable {own peer lo po : Nat} {data pd : List Nat} {e : E} {wnd tm rto tr w now : Nat} {g : Ge}
theorem chk_con (hlo : 1 ≤ lo ∧ lo ≤ 65535) (hpo : 1 ≤ po ∧ po ≤ 65535) (hw : w ≤ 65535) (hdat : g.dat = true → g.seq < npE data.length) : chkG (conGe own peer lo po data pd g w) = true := by
 unfold chkG
 rw [decide_eq_true_eq]
 refine ⟨hlo.1, hlo.2, hpo.1, hpo.2, ?_, hw, ?_⟩
 · show (if g.fin then 17 else if g.dat then 24 else 16) ≤ 31
   split
   · decide
   · split <;> decide
 · show (if g.dat then _ else _ : List Nat).length ≤ 64
   split
   · rename_i q
     have := posE_part (hdat q)
     rw [List.length_take]; omega
   · decide
theorem fl_con (g : Ge) : has (if g.fin then 17 else if g.dat then 24 else 16) 4 = false ∧ has (if g.fin then 17 else if g.dat then 24 else 16) 2 = false ∧ has (if g.fin then 17 else if g.dat then 24 else 16) 16 = true := by
 cases g.fin <;> cases g.dat <;> decide
/-- A segment is taken, and what came is read. -/
theorem takeE_con (hd : data.length ≤ 100) (hpd : pd.length ≤ 100) (hlo : 1 ≤ lo ∧ lo ≤ 65535) (hpo : 1 ≤ po ∧ po ≤ 65535) {t : T} (hE : RelE own peer lo po data pd e t) {s : G} (hG : RelG peer own po lo pd data g s) {e2 : E} {o : List Ge} (ht : takeE (npE data.length) (npE pd.length) g e = some (e2, o)) {c' : C} (hT : Take now s t c') :
   RelE own peer lo po data pd e2 (Tp.read 300 c'.t).1.t ∧ RelGs own peer lo po data pd o c'.out ∧ (Tp.read 300 c'.t).1.out = [] ∧ pd.take (posE pd.length e.inn) ++ (Tp.read 300 c'.t).2 = pd.take (posE pd.length e2.inn) := by
 obtain ⟨wnd, tm, rto, tr, hok, rfl⟩ := hE
 obtain ⟨w, w1, w2, rfl⟩ := hG
 unfold takeE at ht
 split at ht
 rotate_left
 · cases ht
 rename_i hc
 obtain ⟨c3, csq, cua, can, cdat, cfin⟩ := of_decide_eq_true hc
 obtain ⟨tm', rto', tr', hak, hoka, hia, h3a⟩ := ack_con (own := own) (peer := peer) (lo := lo) (po := po) (now := now) hd hok c3 w1 w2 cua can
 have hfit : fits (conGe peer own po lo pd data g w) (conE own peer lo po data pd e wnd tm rto tr []) = true := by
   have hdf : dif (conGe peer own po lo pd data g w).seq (conE own peer lo po data pd e wnd tm rto tr []).inn.next = 0 := by
     show dif (u32 (peer + 1 + posE pd.length g.seq)) (u32 (peer + 1 + posE pd.length e.inn)) = 0
     rw [csq]; exact dif_uu _
   have hrm : room (conE own peer lo po data pd e wnd tm rto tr []).inn = 256 := room_con _ (Nat.zero_le _)
   unfold fits
   rw [hdf, hrm]
   split <;> rfl
 obtain ⟨g4, g2, g16⟩ := fl_con g
 have hq : ∀ (e3 : E) (tm3 rto3 tr3 wnd3 : Nat) (bytes : List Nat), OkE data pd e3 wnd3 tm3 rto3 tr3 → bytes.length ≤ 64 → RelE own peer lo po data pd e3 (Tp.read 300 (conE own peer lo po data pd e3 wnd3 tm3 rto3 tr3 bytes)).1.t ∧ (Tp.read 300 (conE own peer lo po data pd e3 wnd3 tm3 rto3 tr3 bytes)).1.out = [] ∧ (Tp.read 300 (conE own peer lo po data pd e3 wnd3 tm3 rto3 tr3 bytes)).2 = bytes := by
   intro e3 tm3 rto3 tr3 wnd3 bytes ho hb
   have hr : room (conE own peer lo po data pd e3 wnd3 tm3 rto3 tr3 bytes).inn = 256 - bytes.length := room_con _ (by omega)
   rw [read_quiet (by show bytes.length ≤ 256; omega) (by rw [hr]; omega)]
   exact ⟨⟨wnd3, tm3, rto3, tr3, ho, rfl⟩, rfl, rfl⟩
 unfold Take at hT
 rw [if_neg (by rintro (x | x | x | x); · rw [chk_con hpo hlo (by omega) cdat] at x; cases x
                · exact x rfl
                · exact x rfl
                · have : e.st = 0 := x; omega), if_neg (by show ¬ e.st = 1; omega)] at hT
 unfold Taken at hT
 have has1 : againSyn (conGe peer own po lo pd data g w) (conE own peer lo po data pd e wnd tm rto tr []) = false := by
   unfold againSyn
   have : ((conE own peer lo po data pd e wnd tm rto tr []).st == 2) = false := by
     rw [beq_eq_false_iff_ne]; show e.st ≠ 2; omega
   rw [this]; rfl
 rw [if_neg (by show ¬ againSyn (conGe peer own po lo pd data g w) (conE own peer lo po data pd e wnd tm rto tr []) = true; rw [has1]; decide), if_neg (by show ¬ fits (conGe peer own po lo pd data g w) (conE own peer lo po data pd e wnd tm rto tr []) = false; rw [hfit]; decide),
   if_neg (by show ¬ has (if g.fin then 17 else if g.dat then 24 else 16) 4 = true; rw [g4]; decide), if_neg (by show ¬ has (if g.fin then 17 else if g.dat then 24 else 16) 2 = true; rw [g2]; decide), if_neg (by show ¬ has (if g.fin then 17 else if g.dat then 24 else 16) 16 = false; rw [g16]; decide), hak] at hT
 cases hb : (ackE (npE data.length) g e).2 with
 | false =>
   rw [hb] at ht hT
   rw [if_pos rfl] at ht
   cases ht
   rw [if_pos rfl] at hT
   subst hT
   obtain ⟨k1, k2, k3⟩ := hq _ tm' rto' tr' w [] hoka (by decide)
   refine ⟨k1, trivial, k2, ?_⟩
   show _ ++ (Tp.read 300 (conE own peer lo po data pd (ackE (npE data.length) g e).1 w tm' rto' tr' [])).2 = _
   rw [k3, hia, List.append_nil]
 | true =>
   rw [hb] at ht hT
   rw [if_neg (by decide)] at ht hT
   obtain ⟨c1, hC, rfl⟩ := hT
   cases hcar : carE g (ackE (npE data.length) g e).1 with
   | none => rw [hcar] at ht; cases ht
   | some e3 =>
     rw [hcar] at ht
     cases ht
     obtain ⟨tm3, bytes, rfl, hok3, hb64, hby, hse⟩ := car_con hpd hoka (h3a hb) (by rw [hia]; exact csq) cdat cfin hcar hC
     obtain ⟨tm4, hfl, htm4⟩ := flush_same (now := now) (c := ⟨conE own peer lo po data pd e2 w tm3 rto' tr' bytes, []⟩) (con_own hd hok3.fun_) rfl
     have hok4 : OkE data pd e2 w tm4 rto' tr' := ⟨hok3.fst, hok3.fun_, hok3.fin_, hok3.fwn, by
       rcases htm4 with h | ⟨_, h⟩
       · rw [h]; exact hok3.ftm
       · rw [h]; exact later_le _ _, hok3.frt, hok3.ftr, fun h0 => by
       rcases htm4 with h | ⟨hs, h⟩
       · rw [h]; exact hok3.ft0 h0
       · exfalso
         have : sends (conE own peer lo po data pd e2 w tm3 rto' tr' bytes) = true := hs
         unfold sends at this
         have hz : (conE own peer lo po data pd e2 w tm3 rto' tr' bytes).st = 0 := h0
         rw [hz] at this
         cases this⟩
     rw [hfl]
     have hX : ({ conE own peer lo po data pd e2 w tm3 rto' tr' bytes with tm := tm4 } : T) = conE own peer lo po data pd e2 w tm4 rto' tr' bytes := rfl
     rw [hX]
     obtain ⟨k1, k2, k3⟩ := hq e2 tm4 rto' tr' w bytes hok4 hb64
     have hrm : room (conE own peer lo po data pd e2 w tm4 rto' tr' bytes).inn = 256 - bytes.length := room_con _ (by omega)
     unfold lastAck
     have hdl : (0 < (conGe peer own po lo pd data g w).data.length ∨ has (conGe peer own po lo pd data g w).fl 1 = true) ↔ (g.dat || g.fin) = true := by
       show (0 < (if g.dat then _ else _ : List Nat).length ∨ has (if g.fin then 17 else if g.dat then 24 else 16) 1 = true) ↔ _
       cases hgd : g.dat with
       | true =>
         have := posE_part (cdat hgd)
         rw [if_pos rfl, List.length_take, List.length_drop]
         simp only [Bool.true_or, iff_true]
         left; omega
       | false => cases g.fin <;> simp <;> decide
     by_cases q : (g.dat || g.fin) = true
     · rw [if_pos ⟨rfl, hdl.2 q⟩, if_pos q]
       refine ⟨k1, ⟨⟨(room (conE own peer lo po data pd e2 w tm4 rto' tr' bytes).inn).toNat, by omega, by omega, rfl⟩, trivial⟩, k2, ?_⟩
       show _ ++ (Tp.read 300 (conE own peer lo po data pd e2 w tm4 rto' tr' bytes)).2 = _
       rw [k3, ← hby, hia]
     · rw [if_neg (fun x => q (hdl.1 x.2)), if_neg q]
       refine ⟨k1, trivial, k2, ?_⟩
       show _ ++ (Tp.read 300 (conE own peer lo po data pd e2 w tm4 rto' tr' bytes)).2 = _
       rw [k3, ← hby, hia]
/-- An end closes. -/
theorem close_con (hd : data.length ≤ 100) {t : T} (hE : RelE own peer lo po data pd e t) {e2 : E} {o : List Ge} (hc : closeE (npE data.length) e = some (e2, o)) : RelE own peer lo po data pd e2 (close now ⟨t, []⟩).t ∧ RelGs own peer lo po data pd o (close now ⟨t, []⟩).out ∧ e2.inn = e.inn := by
 obtain ⟨wnd, tm, rto, tr, hok, rfl⟩ := hE
 unfold closeE at hc
 split at hc
 · cases hc
 rename_i hse
 have hse : e.se = false := by simpa using hse
 have hnx : nxE (npE data.length) e = npE data.length := by unfold nxE; rw [hse]; rfl
 have hu := hok.fun_
 rw [hnx] at hu
 -- flush behind a change of state
 have key : ∀ s : Nat, 3 ≤ s → s ≤ 9 → (s == 3 || s == 4 || s == 6 || s == 7 || s == 8) = true → RelE own peer lo po data pd { e with st := s, se := true } (flush now ⟨{ conE own peer lo po data pd e wnd tm rto tr [] with st := s, en := true }, []⟩).t ∧ RelGs own peer lo po data pd [⟨false, true, npE data.length, e.inn⟩] (flush now ⟨{ conE own peer lo po data pd e wnd tm rto tr [] with st := s, en := true }, []⟩).out := by
   intro s s3 s9 hsd
   have hT : ({ conE own peer lo po data pd e wnd tm rto tr [] with st := s, en := true } : T) = ⟨s, lo, 0, po, own, u32 (own + 1 + posE data.length e.una), u32 (own + 1 + data.length), data.drop (posE data.length e.una), wnd, true, false, ⟨u32 (peer + 1 + posE pd.length e.inn), [], []⟩, e.ed, tm, rto, tr, 0⟩ := by
     show (⟨s, lo, 0, po, own, u32 (own + 1 + posE data.length e.una), u32 (own + 1 + posE data.length (nxE (npE data.length) e)), data.drop (posE data.length e.una), wnd, true, e.se, ⟨u32 (peer + 1 + posE pd.length e.inn), [], []⟩, e.ed, tm, rto, tr, 0⟩ : T) = _
     rw [hnx, posE_end, hse]
   rw [hT]
   obtain ⟨t0, ht0⟩ : ∃ t0 : T, t0 = ⟨s, lo, 0, po, own, u32 (own + 1 + posE data.length e.una), u32 (own + 1 + data.length), data.drop (posE data.length e.una), wnd, true, false, ⟨u32 (peer + 1 + posE pd.length e.inn), [], []⟩, e.ed, tm, rto, tr, 0⟩ := ⟨_, rfl⟩
   rw [← ht0]
   have hp := posE_le hu (Nat.le_succ _)
   rw [posE_end] at hp
   have hf : flight t0 = (data.length : Int) - posE data.length e.una := by
     rw [ht0]; exact dif_u _ _ _ (by omega) (by omega)
   have ho : Tp.own t0 = (t0.data.length : Nat) := by
     rw [own_noSe (by rw [ht0]), hf, ht0]
     show _ = (((data.drop (posE data.length e.una)).length : Nat) : Int)
     rw [List.length_drop]; omega
   have hr : room1 t0 ≤ 0 := by unfold room1; rw [ho]; omega
   have hrm : room ⟨u32 (peer + 1 + posE pd.length e.inn), [], []⟩ = 256 := room_con _ (Nat.zero_le _)
   have hfin : fin1 ⟨t0, []⟩ = ⟨conE own peer lo po data pd { e with st := s, se := true } wnd tm rto tr [], [conGe own peer lo po data pd ⟨false, true, npE data.length, e.inn⟩ 256]⟩ := by
     unfold fin1
     rw [if_pos ⟨by show ¬ Tp.own t0 < ((t0.data.length : Nat) : Int); rw [ho]; omega, by rw [ht0], by rw [ht0]⟩]
     rw [ht0]
     show (⟨⟨s, lo, 0, po, own, u32 (own + 1 + posE data.length e.una), u32 (u32 (own + 1 + data.length) + 1), data.drop (posE data.length e.una), wnd, true, true, ⟨u32 (peer + 1 + posE pd.length e.inn), [], []⟩, e.ed, tm, rto, tr, 0⟩, [⟨lo, po, u32 (own + 1 + data.length), u32 (peer + 1 + posE pd.length e.inn), 17, (room ⟨u32 (peer + 1 + posE pd.length e.inn), [], []⟩).toNat, []⟩]⟩ : C) = ⟨⟨s, lo, 0, po, own, u32 (own + 1 + posE data.length e.una), u32 (own + 1 + posE data.length (npE data.length + 1)), data.drop (posE data.length e.una), wnd, true, true, ⟨u32 (peer + 1 + posE pd.length e.inn), [], []⟩, e.ed, tm, rto, tr, 0⟩, [⟨lo, po, u32 (own + 1 + posE data.length (npE data.length)), u32 (peer + 1 + posE pd.length e.inn), 17, 256, []⟩]⟩
     rw [hrm, posE_fin, posE_end]
     have : u32 (u32 (own + 1 + data.length) + 1) = u32 (own + 1 + (data.length + 1)) := by unfold u32; omega
     rw [this]; rfl
   unfold flush
   rw [if_neg (by unfold sends; rw [ht0]; show ¬ (s == 3 || s == 4 || s == 6 || s == 7 || s == 8) = false; rw [hsd]; decide), segs_succ, if_pos hr]
   show RelE own peer lo po data pd _ (flushT now _ (fin1 ⟨t0, []⟩)).t ∧ RelGs own peer lo po data pd _ (flushT now _ (fin1 ⟨t0, []⟩)).out
   rw [hfin]
   have hok2 : ∀ tm2, tm2 ≤ 1099511627776 → OkE data pd { e with st := s, se := true } wnd tm2 rto tr := fun tm2 h2 => ⟨⟨s9, by show s ≠ 1; omega, by show s ≠ 2; omega⟩, by show e.una ≤ npE data.length + 1; omega, hok.fin_, hok.fwn, h2, hok.frt, hok.ftr, fun (h : s = 0) => by omega⟩
   unfold flushT
   split
   · exact ⟨⟨wnd, _, rto, tr, hok2 (later now rto) (later_le _ _), rfl⟩, ⟨⟨256, by decide, by decide, rfl⟩, trivial⟩⟩
   · exact ⟨⟨wnd, _, rto, tr, hok2 tm hok.ftm, rfl⟩, ⟨⟨256, by decide, by decide, rfl⟩, trivial⟩⟩
 unfold close
 split at hc
 · rename_i s3
   cases hc
   rw [if_pos (show (conE own peer lo po data pd e wnd tm rto tr []).st = 3 from s3)]
   obtain ⟨k1, k2⟩ := key 4 (by decide) (by decide) (by decide)
   exact ⟨k1, k2, rfl⟩
 · split at hc
   · rename_i s3 s6
     cases hc
     rw [if_neg (show ¬ (conE own peer lo po data pd e wnd tm rto tr []).st = 3 from s3), if_pos (show (conE own peer lo po data pd e wnd tm rto tr []).st = 6 from s6)]
     obtain ⟨k1, k2⟩ := key 8 (by decide) (by decide) (by decide)
     exact ⟨k1, k2, rfl⟩
   · cases hc
theorem cut_con (hd : data.length ≤ 100) : RelGs own peer lo po data pd ((List.range (npE data.length)).map fun i => ⟨true, false, i, 0⟩) (cutD own peer lo po data 257 0) := by
 have hg : ∀ (i len : Nat), i < npE data.length → len = posE data.length (i + 1) - posE data.length i → RelG own peer lo po data pd ⟨true, false, i, 0⟩ (gD own peer lo po data (posE data.length i) len) := by
   intro i len hi hl
   refine ⟨256, by decide, by decide, ?_⟩
   subst hl
   show (⟨lo, po, u32 (own + 1 + posE data.length i), u32 (peer + 1), 24, 256, (data.drop (posE data.length i)).take (posE data.length (i + 1) - posE data.length i)⟩ : G) = ⟨lo, po, u32 (own + 1 + posE data.length i), u32 (peer + 1 + posE pd.length 0), 24, 256, (data.drop (posE data.length i)).take (posE data.length (i + 1) - posE data.length i)⟩
   rw [posE_zero]
 rcases Nat.eq_zero_or_pos data.length with h0 | h0
 · have h1 : npE data.length = 0 := by unfold npE; omega
   rw [h1]
   show RelGs own peer lo po data pd [] (if 0 < data.length then _ else _)
   rw [if_neg (by omega)]
   exact trivial
 · rcases Nat.lt_or_ge 64 data.length with h64 | h64
   · have h1 : npE data.length = 2 := by unfold npE; omega
     have p0 : posE data.length 0 = 0 := posE_zero _
     have p1 : posE data.length 1 = 64 := by unfold posE; rw [if_pos (by omega)]; omega
     have p2 : posE data.length 2 = data.length := by unfold posE; rw [if_pos (by omega)]; omega
     have m0 : min 64 (data.length - 0) = 64 := by omega
     have m1 : min 64 (data.length - 64) = data.length - 64 := by omega
     have hc : cutD own peer lo po data 257 0 = [gD own peer lo po data (posE data.length 0) 64, gD own peer lo po data (posE data.length 1) (data.length - 64)] := by
       rw [p0, p1]
       show (if 0 < data.length then gD own peer lo po data 0 (min 64 (data.length - 0)) :: (if 0 + min 64 (data.length - 0) < data.length then gD own peer lo po data (0 + min 64 (data.length - 0)) (min 64 (data.length - (0 + min 64 (data.length - 0)))) :: (if 0 + min 64 (data.length - 0) + min 64 (data.length - (0 + min 64 (data.length - 0))) < data.length then _ else _) else _) else _) = _
       rw [m0, Nat.zero_add, m1, if_pos h0, if_pos h64, if_neg (by omega)]
     rw [h1, hc]
     exact ⟨hg 0 64 (by omega) (by show 64 = posE data.length 1 - _; omega), hg 1 _ (by omega) (by show _ = posE data.length 2 - _; omega), trivial⟩
   · have h1 : npE data.length = 1 := by unfold npE; omega
     have p0 : posE data.length 0 = 0 := posE_zero _
     have p1 : posE data.length 1 = data.length := by unfold posE; rw [if_pos (by omega)]; omega
     have m0 : min 64 (data.length - 0) = data.length := by omega
     have hc : cutD own peer lo po data 257 0 = [gD own peer lo po data (posE data.length 0) data.length] := by
       rw [p0]
       show (if 0 < data.length then gD own peer lo po data 0 (min 64 (data.length - 0)) :: (if 0 + min 64 (data.length - 0) < data.length then _ else _) else _) = _
       rw [m0, Nat.zero_add, if_pos h0, if_neg (by omega)]
     rw [h1, hc]
     exact ⟨hg 0 _ (by omega) (by show _ = posE data.length 1 - _; omega), trivial⟩
/-- Behind its bytes an end is what it is taken for. -/
theorem write_con (hd : data.length ≤ 100) (hn : now ≤ 900000) : RelE own peer lo po data pd ⟨3, 0, false, 0, false⟩ (write data now (pT own peer lo po)).t ∧ RelGs own peer lo po data pd ((List.range (npE data.length)).map fun i => ⟨true, false, i, 0⟩) (write data now (pT own peer lo po)).out := by
 rw [write_pair (by omega) hn]
 refine ⟨⟨256, if 0 < data.length then now + 4 else 0, 4, 0, ⟨⟨by decide, by decide, by decide⟩, Nat.zero_le _, Nat.zero_le _, by decide, by split <;> omega, by decide, by decide, fun h => by cases h⟩, ?_⟩, cut_con hd⟩
 show (⟨3, lo, 0, po, own, u32 (own + 1), u32 (own + 1 + data.length), data, 256, false, false, ⟨u32 (peer + 1), [], []⟩, false, if 0 < data.length then now + 4 else 0, 4, 0, 0⟩ : T) = ⟨3, lo, 0, po, own, u32 (own + 1 + posE data.length 0), u32 (own + 1 + posE data.length (npE data.length)), data.drop (posE data.length 0), 256, false, false, ⟨u32 (peer + 1 + posE pd.length 0), [], []⟩, false, if 0 < data.length then now + 4 else 0, 4, 0, 0⟩
 rw [posE_zero, posE_zero, posE_end]
 rfl
end
end Go.Proofs.Tp
end

section
/-
 Two ends that were established come apart (layer 26): both of them, step by step. No program in sight.
-/
namespace Go.Proofs.Tp
open Go.Proofs.Wi
structure EnI (iss irs : Nat) (data more : List Nat) (S : Se) (ta tb : T) (qa qb : List G) (gota gotb : List Nat) : Prop where
 a : RelE iss irs 7 80 data more S.a ta
 b : RelE irs iss 80 7 more data S.b tb
 fqa : RelGs irs iss 80 7 more data S.qa qa
 fqb : RelGs iss irs 7 80 data more S.qb qb
 fga : gota = more.take (posE more.length S.a.inn)
 fgb : gotb = data.take (posE data.length S.b.inn)
/-- What is ahead comes to its end within so many steps, and to one that is well. -/
def EnRun (data more : List Nat) (k : Nat) (S F : Se) : Prop := runE (npE data.length) (npE more.length) k S = some F
section
variable {iss irs : Nat} {data more : List Nat} {S F : Se} {ta tb : T} {qa qb : List G} {gota gotb : List Nat} {k now : Nat}
theorem EnI.chkA (hd : data.length ≤ 100) (h : EnI iss irs data more S ta tb qa qb gota gotb) : chkT ta = true := by
 obtain ⟨wnd, tm, rto, tr, ho, rfl⟩ := h.a
 exact con_chk hd (Nat.zero_le _) (by decide) (by decide) ho
theorem EnI.chkB (hm : more.length ≤ 100) (h : EnI iss irs data more S ta tb qa qb gota gotb) : chkT tb = true := by
 obtain ⟨wnd, tm, rto, tr, ho, rfl⟩ := h.b
 exact con_chk hm (Nat.zero_le _) (by decide) (by decide) ho
theorem EnI.start (hd : data.length ≤ 100) (hm : more.length ≤ 100) : EnI iss irs data more (startE (npE data.length) (npE more.length)) (write data 1 (pT iss irs 7 80)).t (write more 1 (pT irs iss 80 7)).t (write more 1 (pT irs iss 80 7)).out (write data 1 (pT iss irs 7 80)).out [] [] := by
 obtain ⟨a1, a2⟩ := write_con (own := iss) (peer := irs) (lo := 7) (po := 80) (pd := more) hd (show 1 ≤ 900000 by decide)
 obtain ⟨b1, b2⟩ := write_con (own := irs) (peer := iss) (lo := 80) (po := 7) (pd := data) hm (show 1 ≤ 900000 by decide)
 exact ⟨a1, b1, b2, a2, by show [] = more.take (posE _ 0); rw [posE_zero]; rfl, by show [] = data.take (posE _ 0); rw [posE_zero]; rfl⟩
/-- All is there, or one is on its way. -/
theorem EnRun.stop (h : EnRun data more k S F) (h0 : S.qa.length + S.qb.length = 0) : S = F := by
 unfold EnRun at h
 cases k with
 | zero => unfold runE at h; rw [if_pos h0] at h; injection h
 | succ k => unfold runE at h; rw [if_pos h0] at h; injection h
theorem EnRun.zero (h : EnRun data more 0 S F) : S = F ∧ S.qa.length + S.qb.length = 0 := by
 unfold EnRun runE at h
 split at h
 · injection h with h; exact ⟨h, by assumption⟩
 · cases h
theorem EnI.lenA (h : EnI iss irs data more S ta tb qa qb gota gotb) : S.qa.length = qa.length := h.fqa.len
theorem EnI.lenB (h : EnI iss irs data more S ta tb qa qb gota gotb) : S.qb.length = qb.length := h.fqb.len
/-- The next one comes to b. -/
theorem EnI.stepB (hd : data.length ≤ 100) (hm : more.length ≤ 100) {g : G} {r : List G} (h : EnI iss irs data more S ta tb qa (g :: r) gota gotb) (hr : EnRun data more (k + 1) S F) {c' : C} (hT : Take now g tb c') :
   ∃ S', EnI iss irs data more S' ta (Tp.read 300 c'.t).1.t (qa ++ c'.out ++ (Tp.read 300 c'.t).1.out) r gota (gotb ++ (Tp.read 300 c'.t).2) ∧ EnRun data more k S' F := by
 have hl := h.fqb
 obtain ⟨x, l, hx⟩ : ∃ x l, S.qb = x :: l := by
   cases hq : S.qb with
   | nil => rw [hq] at hl; exact hl.elim
   | cons x l => exact ⟨x, l, rfl⟩
 rw [hx] at hl
 obtain ⟨h1, h2⟩ := hl
 unfold EnRun runE at hr
 rw [if_neg (by rw [hx]; simp)] at hr
 cases hs : stepE (npE data.length) (npE more.length) S with
 | none => rw [hs] at hr; cases hr
 | some S' =>
   rw [hs] at hr
   unfold stepE at hs
   rw [hx] at hs
   cases ht : takeE (npE more.length) (npE data.length) x S.b with
   | none => simp only [ht] at hs; cases hs
   | some eo =>
     obtain ⟨e2, o⟩ := eo
     simp only [ht] at hs
     cases hs
     obtain ⟨k1, k2, k3, k4⟩ := takeE_con hm hd (by decide) (by decide) h.b h1 ht hT
     refine ⟨{ S with b := e2, qb := l, qa := S.qa ++ o }, ⟨h.a, k1, ?_, h2, h.fga, ?_⟩, hr⟩
     · rw [k3, List.append_nil]
       exact h.fqa.app k2
     · rw [h.fgb]; exact k4
/-- The next one comes to a. -/
theorem EnI.stepA (hd : data.length ≤ 100) (hm : more.length ≤ 100) {g : G} {r : List G} (h : EnI iss irs data more S ta tb (g :: r) [] gota gotb) (hr : EnRun data more (k + 1) S F) {c' : C} (hT : Take now g ta c') :
   ∃ S', EnI iss irs data more S' (Tp.read 300 c'.t).1.t tb r ([] ++ c'.out ++ (Tp.read 300 c'.t).1.out) (gota ++ (Tp.read 300 c'.t).2) gotb ∧ EnRun data more k S' F := by
 have hl := h.fqa
 have hb0 : S.qb = [] := List.eq_nil_of_length_eq_zero (by rw [h.lenB]; rfl)
 obtain ⟨x, l, hx⟩ : ∃ x l, S.qa = x :: l := by
   cases hq : S.qa with
   | nil => rw [hq] at hl; exact hl.elim
   | cons x l => exact ⟨x, l, rfl⟩
 rw [hx] at hl
 obtain ⟨h1, h2⟩ := hl
 unfold EnRun runE at hr
 rw [if_neg (by rw [hx]; simp)] at hr
 cases hs : stepE (npE data.length) (npE more.length) S with
 | none => rw [hs] at hr; cases hr
 | some S' =>
   rw [hs] at hr
   unfold stepE at hs
   rw [hb0] at hs
   simp only [hx] at hs
   cases ht : takeE (npE data.length) (npE more.length) x S.a with
   | none => simp only [ht] at hs; cases hs
   | some eo =>
     obtain ⟨e2, o⟩ := eo
     simp only [ht] at hs
     cases hs
     obtain ⟨k1, k2, k3, k4⟩ := takeE_con hd hm (by decide) (by decide) h.a h1 ht hT
     refine ⟨{ S with a := e2, qa := l, qb := [] ++ o }, ⟨k1, h.b, h2, ?_, ?_, h.fgb⟩, hr⟩
     · rw [k3, List.append_nil]
       exact k2
     · rw [h.fga]; exact k4
theorem EnI.closeA (hd : data.length ≤ 100) (h : EnI iss irs data more S ta tb qa qb gota gotb) {S' : Se} (hc : Tp.closeA (npE data.length) S = some S') : EnI iss irs data more S' (close now ⟨ta, []⟩).t tb qa (qb ++ (close now ⟨ta, []⟩).out) gota gotb := by
 unfold Tp.closeA at hc
 cases ht : closeE (npE data.length) S.a with
 | none => simp only [ht] at hc; cases hc
 | some eo =>
   obtain ⟨e2, o⟩ := eo
   simp only [ht] at hc
   cases hc
   obtain ⟨k1, k2, k3⟩ := close_con (now := now) hd h.a ht
   exact ⟨k1, h.b, h.fqa, h.fqb.app k2, by rw [h.fga]; show _ = more.take (posE _ e2.inn); rw [k3], h.fgb⟩
theorem EnI.closeB (hm : more.length ≤ 100) (h : EnI iss irs data more S ta tb qa qb gota gotb) {S' : Se} (hc : Tp.closeB (npE more.length) S = some S') : EnI iss irs data more S' ta (close now ⟨tb, []⟩).t (qa ++ (close now ⟨tb, []⟩).out) qb gota gotb := by
 unfold Tp.closeB at hc
 cases ht : closeE (npE more.length) S.b with
 | none => simp only [ht] at hc; cases hc
 | some eo =>
   obtain ⟨e2, o⟩ := eo
   simp only [ht] at hc
   cases hc
   obtain ⟨k1, k2, k3⟩ := close_con (now := now) hm h.b ht
   exact ⟨h.a, k1, h.fqa.app k2, h.fqb, h.fga, by rw [h.fgb]; show _ = data.take (posE _ e2.inn); rw [k3]⟩
/-- Both closed, and all went. -/
theorem EnI.fine (h : EnI iss irs data more S ta tb qa qb gota gotb) (he : endE (npE data.length) (npE more.length) S = true) : (ta.st = 9 ∨ ta.st = 0) ∧ (tb.st = 9 ∨ tb.st = 0) ∧ ta.ed = true ∧ tb.ed = true ∧ ta.er = 0 ∧ tb.er = 0 ∧ gota = more ∧ gotb = data := by
 obtain ⟨w1, t1, r1, k1, o1, rfl⟩ := h.a
 obtain ⟨w2, t2, r2, k2, o2, rfl⟩ := h.b
 unfold endE at he
 simp only [Bool.and_eq_true, Bool.or_eq_true, beq_iff_eq] at he
 obtain ⟨⟨⟨⟨⟨e1, e2⟩, e3⟩, e4⟩, e5⟩, e6⟩ := he
 refine ⟨e1, e2, e3, e4, rfl, rfl, ?_, ?_⟩
 · rw [h.fga, e5, posE_fin, List.take_of_length_le (by omega)]
 · rw [h.fgb, e6, posE_fin, List.take_of_length_le (by omega)]
end
end Go.Proofs.Tp
end
