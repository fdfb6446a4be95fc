/-
 Two ends side by side (layer 26): queues of segments, what the calls leave, how the row is written.
-/
import Derived.Test.YthenepdbgeafkaaGAZ
import Derived.Test.YthenepdbgeafkaaGAU
set_option linter.unusedVariables false
set_option linter.unusedSimpArgs false
namespace Go
open Go.RowKit
section
variable {w0 w : World} {L A1 O B : LV} {R : LR} {x1 x2 : Nat × Array Value}
theorem Mem.castL {L' : LV} (h : Mem w0 w L R) (e : L = L') : Mem w0 w L' R := e ▸ h
theorem Mem.q1 (h : Mem w0 w (x1 :: (O ++ B)) R) : Mem w0 w ([x1] ++ O ++ B) R := h
theorem Mem.q2 (h : Mem w0 w (x1 :: x2 :: (O ++ B)) R) : Mem w0 w ([x1, x2] ++ O ++ B) R := h
theorem Mem.q3 (h : Mem w0 w (x1 :: (A1 ++ (O ++ B))) R) : Mem w0 w ((x1 :: A1) ++ O ++ B) R := h.castL (by simp)
theorem Mem.q4 (h : Mem w0 w (x1 :: x2 :: (A1 ++ (O ++ B))) R) : Mem w0 w ((x1 :: x2 :: A1) ++ O ++ B) R := h.castL (by simp)
theorem Mem.q5 {A2 : LV} (h : Mem w0 w (x1 :: (A1 ++ (A2 ++ (O ++ B)))) R) : Mem w0 w ((x1 :: (A1 ++ A2)) ++ O ++ B) R := h.castL (by simp)
theorem Mem.q6 {A2 A3 : LV} (h : Mem w0 w (x1 :: (A1 ++ (A2 ++ (A3 ++ O)))) R) : Mem w0 w ((x1 :: (A1 ++ (A2 ++ A3))) ++ O ++ []) R := h.castL (by simp)
end
namespace Bny
section
variable {P : Program} {ops : Array Oper} {β : Base} {S : Nat → Any.Stat} {D : Nat → Kind} {Q : Act → Env → Prop} {k : Nat} {rest : List Oper} {a : Act} {E : Env}
variable {dst : Option Tmp} {ty T : TypeId} {pos : String} {after : Array Edge} {g : Option (Nat × Bool)} {x y : Operand}
theorem eP {T : TypeId} (off : Nat) {i B : Nat} {c0 c : Array Value} {v : Value} (hc : c0.setIfInBounds off v = c) (h0 : off < c0.size) (hi : (P.info? T).map (·.size) = some 1)
   (hk : wpE P ops β S D Q (k + 1) rest (a.put dst undef) (E.put i (.row B c)))
   (hw : Region.wanted (⟨dst, .store T x y, ty, pos, after, g⟩ : Oper) (yielded ops a.tmps) = true := by exact rfl) (hD : D k = .put := by exact rfl) (hS : (S k).write = some i := by exact rfl) (hx : a.eval x = .pointer (some ⟨B, off, none⟩) := by exact rfl) (hE : E i = .row B c0 := by exact rfl)
   (hy : a.eval y = v := by exact rfl) (h1 : v.oneCell' = true := by exact rfl) : wpE P ops β S D Q k (⟨dst, .store T x y, ty, pos, after, g⟩ :: rest) a E := by
 refine E_putc hw hD hS hx hE hy hi h1 h0 ?_
 rw [hc]; exact hk
theorem eX {d : Tmp} {T : TypeId} (i o n : Nat) (v : Array Value) {de : TypeDesc} (hu : P.underlying T = some de) (hi : (P.info? T).map (·.size) = some n) {B : Nat} {c : Array Value} (hv : c.extract o (o + n) = v) (hs : o + n ≤ c.size) (hk : wpE P ops β S D Q (k + 1) rest (a.put (some d) (.agg v)) E)
   (hw : Region.wanted (⟨some d, .load T x, ty, pos, after, g⟩ : Oper) (yielded ops a.tmps) = true := by exact rfl) (hS : (S k).write = none := by exact rfl) (hx : a.eval x = .pointer (some ⟨B, o, none⟩) := by exact rfl) (hm : i ∈ (S k).keys := by decide) (hE : E i = .row B c := by exact rfl)
   (hd : de.isRow = true := by exact rfl) (hn : 0 < n := by decide) (hsz : decide (d < a.tmps.size) = true := by exact rfl) (hD : D k = .val (.agg v) := by exact rfl) : wpE P ops β S D Q k (⟨some d, .load T x, ty, pos, after, g⟩ :: rest) a E :=
 E_val rfl hsz hw hS (fun E' hA K hK => q_ldp i (o := o) hA hm hx hE n de hu hd hi hn hs v hv (hK _ rfl)) hD hk
end
end Bny
end Go
namespace Go.Proofs.Tp
open Go Go.RowKit Go.Proofs.Wi
section
variable {r0 r1 r : Array Value} {i0 g0 i1 g1 v : Value} {l0 l1 l : Nat}
theorem rowP_set19 (h0 : r0.size = 19) (h1 : r1.size = 19) : (rowP r0 i0 l0 g0 r1 i1 l1 g1).setIfInBounds 19 v = rowP r0 v l0 g0 r1 i1 l1 g1 := by
 have hz := rowP_size (i0 := i0) (l0 := l0) (g0 := g0) (i1 := i1) (l1 := l1) (g1 := g1) h0 h1
 exact rowP_ext h0 h1 (by rw [Array.size_setIfInBounds, hz]) (fun k hk => by rw [Array.getElem?_setIfInBounds_ne (by omega)]; exact rowP_a h0 hk) (fun k hk => by rw [Array.getElem?_setIfInBounds_ne (by omega)]; exact rowP_b h0 h1 hk) (by rw [Array.getElem?_setIfInBounds_self_of_lt (by rw [hz]; decide)]) (by rw [Array.getElem?_setIfInBounds_ne (by decide)]; exact rowP_l0 h0) (by rw [Array.getElem?_setIfInBounds_ne (by decide)]; exact rowP_g0 h0) (by rw [Array.getElem?_setIfInBounds_ne (by decide)]; exact rowP_i1 h0 h1) (by rw [Array.getElem?_setIfInBounds_ne (by decide)]; exact rowP_l1 h0 h1) (by rw [Array.getElem?_setIfInBounds_ne (by decide)]; exact rowP_g1 h0 h1)
theorem rowP_set20 (h0 : r0.size = 19) (h1 : r1.size = 19) : (rowP r0 i0 l0 g0 r1 i1 l1 g1).setIfInBounds 20 (.int .i64 l) = rowP r0 i0 l g0 r1 i1 l1 g1 := by
 have hz := rowP_size (i0 := i0) (l0 := l0) (g0 := g0) (i1 := i1) (l1 := l1) (g1 := g1) h0 h1
 exact rowP_ext h0 h1 (by rw [Array.size_setIfInBounds, hz]) (fun k hk => by rw [Array.getElem?_setIfInBounds_ne (by omega)]; exact rowP_a h0 hk) (fun k hk => by rw [Array.getElem?_setIfInBounds_ne (by omega)]; exact rowP_b h0 h1 hk) (by rw [Array.getElem?_setIfInBounds_ne (by decide)]; exact rowP_i0 h0) (by rw [Array.getElem?_setIfInBounds_self_of_lt (by rw [hz]; decide)]) (by rw [Array.getElem?_setIfInBounds_ne (by decide)]; exact rowP_g0 h0) (by rw [Array.getElem?_setIfInBounds_ne (by decide)]; exact rowP_i1 h0 h1) (by rw [Array.getElem?_setIfInBounds_ne (by decide)]; exact rowP_l1 h0 h1) (by rw [Array.getElem?_setIfInBounds_ne (by decide)]; exact rowP_g1 h0 h1)
theorem rowP_set41 (h0 : r0.size = 19) (h1 : r1.size = 19) : (rowP r0 i0 l0 g0 r1 i1 l1 g1).setIfInBounds 41 v = rowP r0 i0 l0 g0 r1 v l1 g1 := by
 have hz := rowP_size (i0 := i0) (l0 := l0) (g0 := g0) (i1 := i1) (l1 := l1) (g1 := g1) h0 h1
 exact rowP_ext h0 h1 (by rw [Array.size_setIfInBounds, hz]) (fun k hk => by rw [Array.getElem?_setIfInBounds_ne (by omega)]; exact rowP_a h0 hk) (fun k hk => by rw [Array.getElem?_setIfInBounds_ne (by omega)]; exact rowP_b h0 h1 hk) (by rw [Array.getElem?_setIfInBounds_ne (by decide)]; exact rowP_i0 h0) (by rw [Array.getElem?_setIfInBounds_ne (by decide)]; exact rowP_l0 h0) (by rw [Array.getElem?_setIfInBounds_ne (by decide)]; exact rowP_g0 h0) (by rw [Array.getElem?_setIfInBounds_self_of_lt (by rw [hz]; decide)]) (by rw [Array.getElem?_setIfInBounds_ne (by decide)]; exact rowP_l1 h0 h1) (by rw [Array.getElem?_setIfInBounds_ne (by decide)]; exact rowP_g1 h0 h1)
theorem rowP_set42 (h0 : r0.size = 19) (h1 : r1.size = 19) : (rowP r0 i0 l0 g0 r1 i1 l1 g1).setIfInBounds 42 (.int .i64 l) = rowP r0 i0 l0 g0 r1 i1 l g1 := by
 have hz := rowP_size (i0 := i0) (l0 := l0) (g0 := g0) (i1 := i1) (l1 := l1) (g1 := g1) h0 h1
 exact rowP_ext h0 h1 (by rw [Array.size_setIfInBounds, hz]) (fun k hk => by rw [Array.getElem?_setIfInBounds_ne (by omega)]; exact rowP_a h0 hk) (fun k hk => by rw [Array.getElem?_setIfInBounds_ne (by omega)]; exact rowP_b h0 h1 hk) (by rw [Array.getElem?_setIfInBounds_ne (by decide)]; exact rowP_i0 h0) (by rw [Array.getElem?_setIfInBounds_ne (by decide)]; exact rowP_l0 h0) (by rw [Array.getElem?_setIfInBounds_ne (by decide)]; exact rowP_g0 h0) (by rw [Array.getElem?_setIfInBounds_ne (by decide)]; exact rowP_i1 h0 h1) (by rw [Array.getElem?_setIfInBounds_self_of_lt (by rw [hz]; decide)]) (by rw [Array.getElem?_setIfInBounds_ne (by decide)]; exact rowP_g1 h0 h1)
end
theorem rowT_size (t : T) (d b p : Value) : (rowT t d b p).size = 19 := rfl
def QO (R : LR) (v : Value) (q : List G) : Prop := ∃ gs, (7, v, cellsG gs) ∈ R ∧ AllG R gs ∧ gs.map (·.1) = q
def QQ (R : LR) (q : List G) (v : Value) (sl : Bny.Slot) : Prop := ∃ gs, Bny.QS 7 (cellsG gs) v sl ∧ AllG R gs ∧ gs.map (·.1) = q
theorem QO.mono {R R' : LR} {v : Value} {q : List G} (h : QO R v q) (hs : ∀ x ∈ R, x ∈ R') : QO R' v q := by
 obtain ⟨gs, h1, h2, h3⟩ := h
 exact ⟨gs, hs _ h1, h2.mono hs, h3⟩
theorem QQ.mono {R R' : LR} {v : Value} {q : List G} {sl : Bny.Slot} (h : QQ R q v sl) (hs : ∀ x ∈ R, x ∈ R') : QQ R' q v sl := by
 obtain ⟨gs, h1, h2, h3⟩ := h
 exact ⟨gs, h1, h2.mono hs, h3⟩
theorem QQ.empty (R : LR) : QQ R [] (.slice none 0 0) .none := ⟨[], .inl ⟨Option.none, rfl, rfl, rfl⟩, fun _ h => (List.not_mem_nil h).elim, rfl⟩
theorem QQ.reads {R : LR} {v : Value} {q : List G} {sl : Bny.Slot} (h : QQ R q v sl) : sl.reads = [] := by
 obtain ⟨gs, h1, _⟩ := h
 exact h1.reads
theorem QQ.slice {R : LR} {v : Value} {q : List G} {sl : Bny.Slot} (h : QQ R q v sl) : ∃ ao k, v = .slice ao q.length k := by
 obtain ⟨gs, h1, _, rfl⟩ := h
 obtain ⟨ao, n, k, rfl, hn⟩ := h1.own.slice
 rw [cellsG_len] at hn
 have : n = gs.length := by omega
 subst this
 exact ⟨ao, k, by rw [List.length_map]⟩
theorem QO.slice {w0 w : World} {L : LV} {R : LR} {v : Value} {q : List G} (h : QO R v q) (hv : Mem w0 w L R) : ∃ ao k, v = .slice ao q.length k := by
 obtain ⟨gs, h1, _, rfl⟩ := h
 obtain ⟨ao, n, k, rfl, hn, _⟩ := hv.rd h1
 rw [cellsG_len] at hn
 have : n = gs.length := by omega
 subst this
 exact ⟨ao, k, by rw [List.length_map]⟩
def QP (f : Value → Value → Value) (w0 : World) (L : LV) (R : LR) (c : C) (e : Ending) (w' : World) : Prop :=
 ∃ R2 da dn dk ba bn bk pa pn pk l ov, e = .returned (f (.agg (rowT c.t (.slice da dn dk) (.slice ba bn bk) (.slice pa pn pk))) ov) ∧ Mem w0 w' L R2 ∧ (∀ x ∈ R, x ∈ R2) ∧ InC R2 c.t da dn dk ba bn bk pa pn pk l ∧ QO R2 ov c.out
theorem QP.of {f : Value → Value → Value} {w0 w' : World} {L : LV} {R R' : LR} {c : C} {vt ov : Value} {e : Ending} (h : RT w0 w' L (R' ++ R) c vt ov) (he : e = .returned (f vt ov)) : QP f w0 L R c e w' := by
 obtain ⟨da, dn, dk, ba, bn, bk, pa, pn, pk, l, gs, O, rfl, hv, hI, hO⟩ := h
 exact ⟨_, da, dn, dk, ba, bn, bk, pa, pn, pk, l, ov, he, hO.own.yield (A := []) (B := L) hv, fun x hx => Mem.s (List.mem_append_right _ hx), hI.mono fun x hx => Mem.s hx, gs, Mem.z, hO.all.mono fun x hx => Mem.s hx, hO.eq⟩
def QPO (f : Value → Value → Value) (w0 : World) (L : LV) (R : LR) (c : C) (e : Ending) (w' : World) : Prop :=
 ∃ R2 da dn dk ba bn bk pa pn pk l oa on ok sl, e = .returned (f (.agg (rowT c.t (.slice da dn dk) (.slice ba bn bk) (.slice pa pn pk))) (.slice oa on ok)) ∧ Mem w0 w' (L ++ Bny.Slot.rows sl) R2 ∧ (∀ x ∈ R, x ∈ R2) ∧ InC R2 c.t da dn dk ba bn bk pa pn pk l ∧ QQ R2 c.out (.slice oa on ok) sl
theorem QPO.of {f : Value → Value → Value} {w0 w' : World} {L : LV} {R R' : LR} {c : C} {vt ov : Value} {e : Ending} (h : RT w0 w' L (R' ++ R) c vt ov) (he : e = .returned (f vt ov)) : QPO f w0 L R c e w' := by
 obtain ⟨da, dn, dk, ba, bn, bk, pa, pn, pk, l, gs, O, rfl, hv, hI, hO⟩ := h
 obtain ⟨oa, on, ok, rfl, _⟩ := hO.own.slice
 obtain ⟨sl, hs, rfl⟩ := Bny.QS.of hO.own.q
 exact ⟨_, da, dn, dk, ba, bn, bk, pa, pn, pk, l, oa, on, ok, sl, he, hv.perm List.perm_append_comm, fun x hx => List.mem_append_right _ hx, hI, gs, hs, hO.all, hO.eq⟩
def QPR (w0 : World) (L : LV) (R : LR) (c : C) (got : List Nat) (e : Ending) (w' : World) : Prop :=
 ∃ R2 da dn dk ba bn bk pa pn pk l ga gn gk ov, e = .returned (.tuple #[.agg (rowT c.t (.slice da dn dk) (.slice ba bn bk) (.slice pa pn pk)), .slice ga gn gk, ov]) ∧ Mem w0 w' L R2 ∧ (∀ x ∈ R, x ∈ R2) ∧ InC R2 c.t da dn dk ba bn bk pa pn pk l ∧ QO R2 ov c.out ∧ (1, Value.slice ga gn gk, cellsB got) ∈ R2
theorem QPR.of {w0 w' : World} {L : LV} {R : LR} {c : C} {got : List Nat} {e : Ending} (h : RTR w0 L R c got e w') : QPR w0 L R c got e w' := by
 obtain ⟨R', vt, ga, gn, gk, ov, rfl, hg, da, dn, dk, ba, bn, bk, pa, pn, pk, l, gs, O, rfl, hv, hI, hO⟩ := h
 exact ⟨_, da, dn, dk, ba, bn, bk, pa, pn, pk, l, ga, gn, gk, ov, rfl, hO.own.yield (A := []) (B := L) hv, fun x hx => Mem.s (List.mem_append_right _ hx), hI.mono fun x hx => Mem.s hx, ⟨gs, Mem.z, hO.all.mono fun x hx => Mem.s hx, hO.eq⟩, Mem.s hg⟩
def TkQ (R0 : LR) (nw : Nat) (g : G) (t : T) (v : Value) (R' : LR) : Prop :=
 ∃ c' da dn dk ba bn bk pa pn pk l ov, v = .tuple #[.agg (rowT c'.t (.slice da dn dk) (.slice ba bn bk) (.slice pa pn pk)), ov] ∧ Take nw g t c' ∧ InC R' c'.t da dn dk ba bn bk pa pn pk l ∧ QO R' ov c'.out ∧ ∀ x ∈ R0, x ∈ R'
theorem cellsG_oneQ {w0 w : World} {L : LV} {R : LR} {l : List Gv} (h : AllG R l) (hv : Mem w0 w L R) : ∀ x ∈ cellsG l, x.oneCell' = true := by
 intro x hx
 obtain ⟨g, hg, hx⟩ := List.mem_flatMap.1 hx
 obtain ⟨_, _, _, e, _⟩ := hv.rd (h g hg)
 simp only [Tp.encG, List.mem_cons, List.not_mem_nil, or_false] at hx
 rcases hx with rfl | rfl | rfl | rfl | rfl | rfl | rfl <;> first | rfl | (rw [e]; rfl)
theorem app_bq {l m : List Gv} (h : l.length + m.length ≤ 100000) : ((cellsG l).length + (cellsG m).length) / 7 ≤ maxLen ∧ ((cellsG l).length + (cellsG m).length) / 7 * 64 ≤ 140737488355328 := by
 rw [cellsG_len, cellsG_len]
 unfold maxLen
 omega
theorem QQ.head {w0 w : World} {A B : LV} {R : LR} {g : G} {r : List G} {v : Value} {sl : Bny.Slot} (h : QQ R (g :: r) v sl) (hv : Mem w0 w (A ++ sl.rows ++ B) R) :
   ∃ b o k sa sn sk gr, v = .slice (some ⟨b, o, none⟩) (r.length + 1) k ∧ Bny.QS 7 (cellsG ((g, Value.slice sa sn sk) :: gr)) v sl ∧ (1, Value.slice sa sn sk, cellsB g.data) ∈ R ∧ AllG R gr ∧ gr.map (·.1) = r := by
 obtain ⟨gs, h1, h2, h3⟩ := h
 match gs, h3 with
 | (x, xv) :: gr, h4 =>
   simp only [List.map_cons, List.cons.injEq] at h4
   obtain ⟨rfl, h3'⟩ := h4
   have hx := h2 _ (List.mem_cons_self ..)
   obtain ⟨sa, sn, sk, e, _⟩ := id (hv.rd hx)
   dsimp only at e hx
   subst e
   obtain ⟨b, o, n, k, e, hn, _⟩ := (h1.own.rd hv).some (by rw [cellsG_len, List.length_cons]; omega)
   rw [cellsG_len, List.length_cons] at hn
   have hl : gr.length = r.length := by rw [← h3', List.length_map]
   have : n = r.length + 1 := by omega
   subst this
   exact ⟨b, o, k, sa, sn, sk, gr, e, h1, hx, fun y hy => h2 y (List.mem_cons_of_mem _ hy), h3'⟩
section
variable {P : Program} {ops : Array Oper} {rest : List Oper} {a : Act} {w0 w : World} {Q : Exit → Act → World → Prop} {A B : LV} {R : LR} {sl : Bny.Slot}
variable {dst : Option Tmp} {ty t e T : TypeId} {pos : String} {after : Array Edge} {g : Option (Nat × Bool)} {x y xl : Operand}
theorem wl_tailG (hgd : Region.wanted (⟨dst, .slice T x (some xl) none none, ty, pos, after, g⟩ : Oper) (yielded ops a.tmps) = true) {ao : Option Addr} {n cap : Nat} {gg : G} {r : List G} (hx : a.eval x = .slice ao n cap) (hl : a.eval xl = .int .i64 1) (hQ : QQ R (gg :: r) (.slice ao n cap) sl) (hv : Mem w0 w (A ++ sl.rows ++ B) R) (ht : P.underlying T = some (.slice e)) (hi0 : (P.info? e).map (·.size) = some 7)
   (hk : ∀ ao' n' k' sl', n' = r.length → QQ R r (.slice ao' n' k') sl' → Mem w0 w (A ++ sl'.rows ++ B) R → wpList P ops Q rest (a.put dst (.slice ao' n' k')) w) : wpList P ops Q (⟨dst, .slice T x (some xl) none none, ty, pos, after, g⟩ :: rest) a w := by
 obtain ⟨gs, h1, h2, h3⟩ := hQ
 match gs, h3 with
 | y :: gr, h3 =>
   simp only [List.map_cons, List.cons.injEq] at h3
   have hn : 1 ≤ n := by
     obtain ⟨_, _, _, e, hl⟩ := h1.own.slice
     cases e
     rw [cellsG_len, List.length_cons] at hl
     omega
   refine wl_tailQ hgd hx h1.own hv ht hi0 hl hn ?_
   intro v' O' hO hm
   rw [show (cellsG (y :: gr)).drop 7 = cellsG gr from rfl] at hO
   obtain ⟨ao', n', k', rfl, hl'⟩ := hO.slice
   obtain ⟨s', hs, rfl⟩ := Bny.QS.of hO
   rw [cellsG_len] at hl'
   exact hk ao' n' k' s' (by rw [← h3.2, List.length_map]; omega) ⟨gr, hs, fun z hz => h2 z (List.mem_cons_of_mem _ hz), h3.2⟩ hm
end
def PM (w0 w : World) (b : Nat) (ta tb : T) (qa qb : List G) (la lb : Nat) (ga gb : List Nat) (R : LR) : Prop :=
 ∃ da1 dn1 dk1 ba1 bn1 bk1 pa1 pn1 pk1 l1 da2 dn2 dk2 ba2 bn2 bk2 pa2 pn2 pk2 l2 x1 x2 y1 y2 s1 s2 t1 t2,
   Mem w0 w ((b, rowP (rowT ta (.slice da1 dn1 dk1) (.slice ba1 bn1 bk1) (.slice pa1 pn1 pk1)) x1 la y1 (rowT tb (.slice da2 dn2 dk2) (.slice ba2 bn2 bk2) (.slice pa2 pn2 pk2)) x2 lb y2) :: (s1.rows ++ (s2.rows ++ (t1.rows ++ t2.rows)))) R
   ∧ InC R ta da1 dn1 dk1 ba1 bn1 bk1 pa1 pn1 pk1 l1 ∧ InC R tb da2 dn2 dk2 ba2 bn2 bk2 pa2 pn2 pk2 l2
   ∧ QQ R qa x1 s1 ∧ QQ R qb x2 s2 ∧ Bny.QS 1 (cellsB ga) y1 t1 ∧ Bny.QS 1 (cellsB gb) y2 t2
end Go.Proofs.Tp
namespace Go.Proofs.Ythenepdbgeafkaa
open Go.Proofs.Wi Go.RowKit Go.Proofs Go.Proofs.Tp
theorem Tick_Q {w0 w : World} {L : LV} {R : LR} (hv : Mem w0 w L R) {t : T} {da ba pa : Option Addr} {dn dk bn bk pn pk : Nat} {l : List PcV} (hI : InC R t da dn dk ba bn bk pa pn pk l) (hck : chkT t = true) {nw : Nat} : Calls Try.prog 19 #[.agg (rowT t (.slice da dn dk) (.slice ba bn bk) (.slice pa pn pk)), .int .u64 nw] w (QP (fun a b => .tuple #[a, b]) w0 L R (tick nw ⟨t, []⟩)) := by
 refine (Tick_T hv hI hck (nw := nw)).mono ?_
 rintro e w' ⟨R', vt, ov, he, h⟩
 exact QP.of h he
theorem Take_Q {w0 w : World} {L : LV} {R R' : LR} (hv : Mem w0 w L R') (hs : ∀ x ∈ R, x ∈ R') {t : T} {da ba pa : Option Addr} {dn dk bn bk pn pk : Nat} {l : List PcV} (hI : InC R t da dn dk ba bn bk pa pn pk l) (hck : chkT t = true) {nw : Nat} {g : G} {sa : Option Addr} {sn sk : Nat} (hg : InG R g sa sn sk) : Calls Try.prog 13 #[.agg (rowT t (.slice da dn dk) (.slice ba bn bk) (.slice pa pn pk)), .agg #[.int .i64 g.src, .int .i64 g.dst, .int .u32 g.seq, .int .u32 g.ack, .int .i64 g.fl, .int .i64 g.wnd, .slice sa sn sk], .int .u64 nw] w fun e w' => ∃ v R2, e = .returned v ∧ TkQ R nw g t v R2 ∧ Mem w0 w' L R2 ∧ ∀ x ∈ R', x ∈ R2 := by
 refine (Take_T hv (hI.mono hs) hck (nw := nw) (hg.mono hs)).mono ?_
 rintro e w' ⟨c', R1, vt, ov, rfl, ht, da', dn', dk', ba', bn', bk', pa', pn', pk', l', gs, O, rfl, hm, hI', hO⟩
 exact ⟨_, _, rfl, ⟨c', _, _, _, _, _, _, _, _, _, _, _, rfl, ht, hI'.mono fun x hx => Mem.s hx, ⟨gs, Mem.z, hO.all.mono fun x hx => Mem.s hx, hO.eq⟩, fun x hx => Mem.s (List.mem_append_right _ (hs x hx))⟩, hO.own.yield (A := []) (B := L) hm, fun x hx => Mem.s (List.mem_append_right _ hx)⟩
end Go.Proofs.Ythenepdbgeafkaa
