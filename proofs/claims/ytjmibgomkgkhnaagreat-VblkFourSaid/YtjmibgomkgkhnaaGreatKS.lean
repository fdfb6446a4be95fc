import Derived.Test.YtjmibgomkgkhnaaGreatKit3
import Derived.Laws.Slices
set_option linter.unusedSimpArgs false
set_option linter.unusedVariables false
section
/-
 append to a row, in a region that draws: what is appended was there when the region began. No program in sight.
-/
namespace Go
namespace Any
open Go.RowKit
section
variable {P : Program} {ops : Array Oper} {β : Base} {S : Nat → Stat} {D : Nat → Kind} {Q : Act → Env → Prop} {k : Nat} {rest : List Oper} {a : Act} {E : Env}
variable {dst : Option Tmp} {ty t : TypeId} {pos : String} {after : Array Edge} {g : Option (Nat × Bool)} {x y : Operand}
theorem AppRow.zero (B kk : Nat) : AppRow (.slice (Option.some ⟨B, 0, none⟩) 0 0) kk [] (B, #[]) :=
 ⟨0, 0, rfl, by simp, Nat.le_refl _, Nat.zero_le _, by simp, by simp⟩
end
end Any
section
open Go.RowKit
variable {P : Program} {ops : Array Oper} {rest : List Oper} {a : Act} {w0 w : World} {Q : Exit → Act → World → Prop} {L : List (Nat × Array Value)} {R : List (Nat × Value × List Value)}
variable {dst : Option Tmp} {ty t e : TypeId} {pos : String} {after : Array Edge} {g : Option (Nat × Bool)} {x y : Operand} {k : Nat}
theorem wl_apph (hgd : Region.wanted (⟨dst, .call { callee := .builtin .append, args := #[x, y], argTypes := #[t, t] }, ty, pos, after, g⟩ : Oper) (yielded ops a.tmps) = true) {v : Value} {c : List Value} {x0 : Nat × Array Value} (hx : a.eval x = v) (hv : Mem w0 w (x0 :: L) R) (hrow : AppRow v k c x0) (z : Value) (bytes : Nat) (ht : P.underlying t = some (.slice e))
   (hi : (P.info? e).map (fun i => (i.zero, i.size, i.bytes)) = some (some z, k, bytes)) (hzs : z.cells.size = k) (hk : 0 < k) {u : Value} (hy : a.eval y = u) {news : List Value} (hu : Rd w k u news) (h1 : ∀ x ∈ news, x.oneCell' = true)
   (h63 : (c.length + news.length) / k ≤ maxLen) (hbytes : (c.length + news.length) / k * bytes ≤ 140737488355328)
   (hn : ∀ v' w' x', AppRow v' k (c ++ news) x' → Mem w0 w' (x' :: L) R → wpList P ops Q rest (a.put dst v') w') : wpList P ops Q (⟨dst, .call { callee := .builtin .append, args := #[x, y], argTypes := #[t, t] }, ty, pos, after, g⟩ :: rest) a w := by
 obtain ⟨i, hi1, hz, hsz, hb⟩ := info_parts hi
 obtain ⟨q1, q2, q3⟩ := hv.vars.rows x0 (List.mem_cons_self ..)
 obtain ⟨v', w', x', r1, r2, r3⟩ := run_app_row (P := P) (w := w) t ty i z bytes ht hi1 hz hsz hb hzs hk hrow q1 q2 hu h1 h63 hbytes
 refine wpList_want hgd fun K hK => ?_
 unfold Oper.wp execOp
 simp only [resolve, invoke, builtin, Sem.run_bind, Sem.run_pure, Result.andThen_ok, List.map_toArray, List.map_cons, List.map_nil, hx, hy, r1]
 refine hK _ _ (hn v' w' x' r2 ?_)
 rcases r3 with ⟨e1, hwr⟩ | ⟨e1, hnw, hr, hs⟩
 · have := hv.set 0 rfl hwr
   have e2 : x' = (x0.1, x'.2) := by rw [← e1]
   rw [e2]; exact this
 · have hm : MadeAt w w' w.heap.size x'.2 := ⟨rfl, ⟨hnw, by rw [← e1]; exact hr, by rw [← e1]; exact hs⟩⟩
   have := (hv.madeAt hm).keep (L' := (w.heap.size, x'.2) :: L) ((List.sublist_cons_self x0 L).cons_cons _)
   have e2 : x' = (w.heap.size, x'.2) := by rw [← e1]
   rw [e2]; exact this
end
end Go
end

section
/-
 A part of a slice that is read: s[lo:hi:max], whatever the slice. No program in sight.
-/
namespace Go
open Go.RowKit
theorem Addr.add_none (b o j : Nat) : Addr.add ⟨b, o, none⟩ j = ⟨b, o + j, none⟩ := by
 unfold Addr.add
 by_cases h0 : j = 0
 · rw [if_pos h0, h0]; rfl
 · rw [if_neg h0]
theorem sliced_len {ao : Option Addr} {l h m k : Nat} : ∃ ao', sliced ao l h m k = .slice ao' (h - l) (m - l) := ⟨_, rfl⟩
theorem part_len {c : List Value} {n k l h : Nat} (hc : c.length = n * k) (h1 : l ≤ h) (h2 : h ≤ n) : ((c.drop (l * k)).take ((h - l) * k)).length = (h - l) * k := by
 rw [List.length_take, List.length_drop, hc]
 have := Nat.mul_le_mul_right k h2
 rw [Nat.sub_mul]; omega
theorem Rd.sliced {w : World} {k n cap : Nat} {ao : Option Addr} {c : List Value} (hr : Rd w k (.slice ao n cap) c) {l h m : Nat} (h1 : l ≤ h) (h2 : h ≤ n) (h3 : h ≤ m) (h4 : m ≤ cap) : Rd w k (Go.sliced ao l h m k) ((c.drop (l * k)).take ((h - l) * k)) := by
 obtain ⟨ao', n', cap', e, g1, g2, g3, g4, g5⟩ := hr
 cases e
 refine ⟨_, h - l, m - l, rfl, part_len g1 h1 h2, by omega, by omega, fun hn => ?_, fun i hi => ?_⟩
 · by_cases hml : m = l
   · constructor <;> omega
   · rw [if_neg hml] at hn
     cases ao with
     | none => have := (g4 rfl); constructor <;> omega
     | some a => simp at hn
 · rw [part_len g1 h1 h2] at hi
   have hlt : l * k + i < c.length := by
     rw [g1]
     have := Nat.mul_le_mul_right k h2
     have e2 : (h - l) * k = h * k - l * k := Nat.sub_mul h l k
     omega
   have hml : ¬ m = l := fun e => by
     have : h - l = 0 := by omega
     rw [this] at hi; omega
   obtain ⟨b, o, rfl, hb, hc⟩ := g5 (l * k + i) hlt
   refine ⟨b, o + l * k, ?_, hb, ?_⟩
   · rw [if_neg hml, Option.map_some, Addr.add_none]
   · rw [Nat.add_assoc, hc, List.getElem?_take, if_pos hi, List.getElem?_drop]
theorem sliced_of {ao : Option Addr} {l h m k : Nat} {b o n' cap' : Nat} (e : sliced ao l h m k = .slice (some ⟨b, o, none⟩) n' cap') : ∃ a, ao = some a ∧ (a.block = b) := by
 cases ao with
 | none => simp [sliced] at e
 | some a =>
   refine ⟨a, rfl, ?_⟩
   simp only [sliced, Value.slice.injEq] at e
   have e1 := e.1
   by_cases hml : m = l
   · rw [if_pos hml] at e1
     cases e1; rfl
   · rw [if_neg hml, Option.map_some] at e1
     have := Option.some.inj e1
     unfold Addr.add at this
     by_cases h0 : l * k = 0
     · rw [if_pos h0] at this; rw [this]
     · rw [if_neg h0] at this
       have := congrArg Addr.block this
       exact this
theorem sliced_apart {w : World} {k n cap : Nat} {ao : Option Addr} {c : List Value} (hr : Rd w k (.slice ao n cap) c) {l h m : Nat} {b o n' cap' : Nat} (hc : (c.drop (l * k)).take ((h - l) * k) ≠ []) (e : sliced ao l h m k = .slice (some ⟨b, o, none⟩) n' cap') :
   c ≠ [] ∧ ∃ o2, ao = some ⟨b, o2, none⟩ := by
 have hne : c ≠ [] := fun e => hc (by rw [e]; simp)
 refine ⟨hne, ?_⟩
 obtain ⟨b2, o2, n2, c2, e2, _⟩ := hr.some (List.length_pos_iff.2 hne)
 cases e2
 obtain ⟨a, e3, e4⟩ := sliced_of e
 cases e3
 exact ⟨o2, by rw [← e4]⟩
theorem Mem.sliced {w0 w : World} {L : List (Nat × Array Value)} {R : List (Nat × Value × List Value)} (hv : Mem w0 w L R) {k n cap : Nat} {ao : Option Addr} {c : List Value} (hm : (k, .slice ao n cap, c) ∈ R) {l h m : Nat} (h1 : l ≤ h) (h2 : h ≤ n) (h3 : h ≤ m) (h4 : m ≤ cap) :
   Mem w0 w L ((k, Go.sliced ao l h m k, (c.drop (l * k)).take ((h - l) * k)) :: R) := by
 have hr := hv.rd hm
 refine hv.add (hr.sliced h1 h2 h3 h4) fun hc b o n' cap' e p hp => ?_
 obtain ⟨hne, o2, rfl⟩ := sliced_apart hr hc e
 exact (hv.rds _ hm).2 hne b o2 n cap rfl p hp
section
variable {P : Program} {ops : Array Oper} {rest : List Oper} {a : Act} {w0 w : World} {Q : Exit → Act → World → Prop} {L : List (Nat × Array Value)} {R : List (Nat × Value × List Value)}
variable {dst : Option Tmp} {ty T e : TypeId} {pos : String} {after : Array Edge} {g : Option (Nat × Bool)} {x xl xh xm : Operand} {lo hi mx : Option Operand} {k : Nat}
theorem at_slice (h : wpList P ops Q (⟨dst, .slice T x lo hi mx, ty, pos, after, g⟩ :: rest) a w) : wpList P ops Q (⟨dst, .slice T x lo hi mx, ty, pos, after, g⟩ :: rest) a w := h
theorem run_part {ao : Option Addr} {n cap : Nat} (ht : P.underlying T = some (.slice e)) (hi0 : (P.info? e).map (·.size) = some k) (lo hi mx : Option Value) (l h m : Nat)
   (hb : (Instr.sliceBounds true n cap lo hi mx).run P w = .ok (l, h, m) w) : (Instr.sliceAt T (.slice ao n cap) lo hi mx).run P w = .ok (sliced ao l h m k) w := by
 have he : P.elem T = e := by unfold Program.elem; rw [ht]
 have ht2 : P.underlying T = some (.slice (P.elem T)) := by rw [he]; exact ht
 obtain ⟨i, hi1, hi2⟩ := Option.map_eq_some_iff.1 hi0
 have hsz : (sizeOf e).run P w = .ok k w := by
   unfold sizeOf
   simp [run_typeInfo w hi1, hi2]
 rw [run_sliceAt_slice w T _ _ _ _ ht2, run_slice_any w T ao n cap ht2, hb, he]
 simp only [Result.andThen_ok, hsz]
theorem bounds_l {n cap l : Nat} {kl : IntKind} (h : l ≤ n) : (Instr.sliceBounds true n cap (some (.int kl (l : Nat))) none none).run P w = .ok (l, n, cap) w := by
 simp [Instr.sliceBounds, run_sliceBound, h]
theorem bounds_h {n cap h : Nat} {kh : IntKind} (h1 : h ≤ cap) : (Instr.sliceBounds true n cap none (some (.int kh (h : Nat))) none).run P w = .ok (0, h, cap) w := by
 simp [Instr.sliceBounds, run_sliceBound, h1]
theorem bounds_lh {n cap l h : Nat} {kl kh : IntKind} (h0 : l ≤ h) (h1 : h ≤ cap) : (Instr.sliceBounds true n cap (some (.int kl (l : Nat))) (some (.int kh (h : Nat))) none).run P w = .ok (l, h, cap) w := by
 simp [Instr.sliceBounds, run_sliceBound, h0, h1]
theorem bounds_lhm {n cap l h m : Nat} {kl kh km : IntKind} (h0 : l ≤ h) (h1 : h ≤ m) (h2 : m ≤ cap) : (Instr.sliceBounds true n cap (some (.int kl (l : Nat))) (some (.int kh (h : Nat))) (some (.int km (m : Nat)))).run P w = .ok (l, h, m) w := by
 simp [Instr.sliceBounds, run_sliceBound, h0, h1, h2]
theorem wl_slice (hgd : Region.wanted (⟨dst, .slice T x lo hi mx, ty, pos, after, g⟩ : Oper) (yielded ops a.tmps) = true) {ao : Option Addr} {n cap : Nat} {c : List Value} (hx : a.eval x = .slice ao n cap) (hv : Mem w0 w L R) (hm : (k, .slice ao n cap, c) ∈ R) (ht : P.underlying T = some (.slice e)) (hi0 : (P.info? e).map (·.size) = some k)
   (lv hv' mv : Option Value) (hl : lo.map a.eval = lv) (hh : hi.map a.eval = hv') (hmx : mx.map a.eval = mv) (l h m : Nat) (hb : (Instr.sliceBounds true n cap lv hv' mv).run P w = .ok (l, h, m) w) (h1 : l ≤ h) (h2 : h ≤ n) (h3 : h ≤ m) (h4 : m ≤ cap)
   (hk : ∀ ao', Mem w0 w L ((k, .slice ao' (h - l) (m - l), (c.drop (l * k)).take ((h - l) * k)) :: R) → wpList P ops Q rest (a.put dst (.slice ao' (h - l) (m - l))) w) : wpList P ops Q (⟨dst, .slice T x lo hi mx, ty, pos, after, g⟩ :: rest) a w := by
 refine wpList_want hgd fun K hK => ?_
 have hr := run_part (w := w) (ao := ao) ht hi0 lv hv' mv l h m hb
 unfold Oper.wp execOp
 simp only [Sem.run_bind, hx, hl, hh, hmx, hr, Result.andThen_ok, Sem.run_pure]
 exact hK _ _ (hk _ (hv.sliced hm h1 h2 h3 h4))
theorem wl_slice_lhm (hgd : Region.wanted (⟨dst, .slice T x (some xl) (some xh) (some xm), ty, pos, after, g⟩ : Oper) (yielded ops a.tmps) = true) {ao : Option Addr} {n cap : Nat} {c : List Value} (hx : a.eval x = .slice ao n cap) (hv : Mem w0 w L R) (hm : (k, .slice ao n cap, c) ∈ R) (ht : P.underlying T = some (.slice e)) (hi0 : (P.info? e).map (·.size) = some k)
   (l h m : Nat) {kl kh km : IntKind} (hl : a.eval xl = .int kl (l : Nat)) (hh : a.eval xh = .int kh (h : Nat)) (hmm : a.eval xm = .int km (m : Nat)) (h0 : l ≤ h) (h1 : h ≤ n) (h2 : h ≤ m) (h3 : m ≤ cap)
   (hk : ∀ ao', Mem w0 w L ((k, .slice ao' (h - l) (m - l), (c.drop (l * k)).take ((h - l) * k)) :: R) → wpList P ops Q rest (a.put dst (.slice ao' (h - l) (m - l))) w) : wpList P ops Q (⟨dst, .slice T x (some xl) (some xh) (some xm), ty, pos, after, g⟩ :: rest) a w :=
 wl_slice hgd hx hv hm ht hi0 (some (.int kl (l : Nat))) (some (.int kh (h : Nat))) (some (.int km (m : Nat))) (by rw [Option.map_some, hl]) (by rw [Option.map_some, hh]) (by rw [Option.map_some, hmm]) l h m (bounds_lhm h0 h2 h3) h0 h1 h2 h3 hk
namespace Any
theorem at_qslice {C : World → Prop} {K : Act → Prop} (h : Oper.quiet P ⟨dst, .slice T x lo hi mx, ty, pos, after, g⟩ a C K) : Oper.quiet P ⟨dst, .slice T x lo hi mx, ty, pos, after, g⟩ a C K := h
theorem q_slice {C : World → Prop} {K : Act → Prop} {ao : Option Addr} {n cap : Nat} (hx : a.eval x = .slice ao n cap) (ht : P.underlying T = some (.slice e)) (hi0 : (P.info? e).map (·.size) = some k)
   (lv hv' mv : Option Value) (hl : lo.map a.eval = lv) (hh : hi.map a.eval = hv') (hmx : mx.map a.eval = mv) (l h m : Nat) (hb : ∀ w, (Instr.sliceBounds true n cap lv hv' mv).run P w = .ok (l, h, m) w) {v : Value} (hv : sliced ao l h m k = v) (hk : K (a.put dst v)) : Oper.quiet P ⟨dst, .slice T x lo hi mx, ty, pos, after, g⟩ a C K := by
 subst hv
 refine ⟨_, fun w hw => ?_, hk⟩
 have hr := run_part (w := w) (ao := ao) ht hi0 lv hv' mv l h m (hb w)
 unfold Oper.quietAt execOp
 simp only [Sem.run_bind, hx, hl, hh, hmx, hr, Result.andThen_ok, Sem.run_pure]
 exact ⟨rfl, rfl⟩
end Any
theorem rd_cells {w : World} {kk b o n cap : Nat} {c : List Value} (hr : Rd w kk (.slice (some ⟨b, o, none⟩) n cap) c) (i m : Nat) (v : Array Value) (hv : (c.drop i).take m = v.toList) (hm : v.size = m) (h0 : 0 < m) : o + i + m ≤ (w.rowD b).size ∧ (w.rowD b).extract (o + i) (o + i + m) = v := by
 have hl : m ≤ c.length - i := by
   have := congrArg List.length hv
   have h2 : v.toList.length = m := by simpa using hm
   rw [h2, List.length_take, List.length_drop] at this
   omega
 obtain ⟨_, _, _, _, e, _, _, _, _, hc⟩ := hr.some (by omega)
 cases e
 have hcell : ∀ j, j < m → (w.rowD b)[o + i + j]? = v[j]? := fun j hj => by
   have := hc (i + j) (by omega)
   rw [cell_rowD] at this
   rw [Nat.add_assoc, this, ← Array.getElem?_toList, ← hv, List.getElem?_take, if_pos hj, List.getElem?_drop]
 have hs : o + i + m ≤ (w.rowD b).size := by
   have h1 := hcell (m - 1) (by omega)
   rw [Array.getElem?_eq_getElem (show m - 1 < v.size by omega)] at h1
   have := (Array.getElem?_eq_some_iff.1 h1).1
   omega
 refine ⟨hs, ?_⟩
 apply Array.ext_getElem?
 intro j
 rw [Array.getElem?_extract]
 by_cases hj : j < m
 · rw [if_pos (by omega)]; exact hcell j hj
 · rw [if_neg (by omega), Array.getElem?_eq_none (by omega)]
theorem wl_rdv (hgd : Region.wanted (⟨dst, .load T x, ty, pos, after, g⟩ : Oper) (yielded ops a.tmps) = true) {kk b o n cap : Nat} {c : List Value} (hr : Rd w kk (.slice (some ⟨b, o, none⟩) n cap) c) (i : Nat) (hx : a.eval x = .pointer (some ⟨b, o + i, none⟩)) (m : Nat) (d : TypeDesc)
   (hu : P.underlying T = some d) (hd : d.isRow = true) (hi : (P.info? T).map (·.size) = some m) (h0 : 0 < m) (v : Array Value) (hv : (c.drop i).take m = v.toList) (hm : v.size = m) (h : wpList P ops Q rest (a.put dst (.agg v)) w) : wpList P ops Q (⟨dst, .load T x, ty, pos, after, g⟩ :: rest) a w := by
 obtain ⟨h1, h2⟩ := rd_cells hr i m v hv hm h0
 exact wl_ldp hgd b (o + i) hx (w.rowD b) rfl m d hu hd hi h0 h1 v h2 h
namespace Any
theorem E_callown {β : Base} {S : Nat → Stat} {D : Nat → Kind} {Q : Act → Env → Prop} {E : Env} {j i : Nat} {xs : Array Operand} {ts : Array TypeId} {f : FuncId} {cap : Array Value} {W : Value → Nat × Array Value → Prop} (hw : Region.wanted (⟨dst, .call { callee := .value x, args := xs, argTypes := ts }, ty, pos, after, g⟩ : Oper) (yielded ops a.tmps) = true)
   (hD : D j = .own W) (hS : (S j).write = some i) (hf : Go.Proofs.Enters P f) (hx : a.eval x = .func (.func f) #[] cap) (vs : List Value) (hv : xs.toList.map a.eval = vs) (hs : ∃ v x, W v x)
   (hc : ∀ E' w, VE β E' w → Calls P f (vs.toArray ++ cap) w fun e w' => ∃ v x, e = .returned v ∧ W v x ∧ New w w' ∧ w.heap.size ≤ x.1 ∧ w'.rowD x.1 = x.2 ∧ w'.soft x.1 = true)
   (hk : ∀ v x, W v x → wpE P ops β S D Q (j + 1) rest (a.put dst v) (E.put i x)) : wpE P ops β S D Q j (⟨dst, .call { callee := .value x, args := xs, argTypes := ts }, ty, pos, after, g⟩ :: rest) a E := by
 refine E_own hw hD hS hs (fun E' _ w hv' => ?_) hk
 unfold res
 rw [run_callv hf hx vs hv w]
 refine (hc E' w hv').mono fun e w' ⟨v, x, h1, h2, h3, h4, h5, h6⟩ => ⟨v, h1, x, h2, hv'.lay h4 h3 h5 h6⟩
end Any
end
end Go
end

section
/-
 Slices of the call's own, several of them, nil or a row, beside the call's variables and what is read. No program in sight.
-/
namespace Go
open Go.RowKit
theorem Mem.perm {w0 w : World} {L L' : List (Nat × Array Value)} {R : List (Nat × Value × List Value)} (h : Mem w0 w L R) (hp : L.Perm L') : Mem w0 w L' R :=
 ⟨⟨h.vars.below, fun p hp' => h.vars.rows p (hp.mem_iff.2 hp'), (hp.map (·.1)).nodup_iff.1 h.vars.apart⟩, fun x hx => ⟨(h.rds x hx).1, fun hc b o n cap e p hp' => (h.rds x hx).2 hc b o n cap e p (hp.mem_iff.2 hp')⟩⟩
theorem Mem.lay' {w0 w w' : World} {L : List (Nat × Array Value)} {R : List (Nat × Value × List Value)} (h : Mem w0 w L R) {x : Nat × Array Value} (hB : w.heap.size ≤ x.1) (hn : New w w') (hr : w'.rowD x.1 = x.2) (hs : w'.soft x.1 = true) : Mem w0 w' (x :: L) R :=
 ⟨h.vars.lay hB hn hr hs, fun y hy => by
   obtain ⟨h1, h2⟩ := h.rds y hy
   refine ⟨h1.new hn, fun hc b o n cap e p hp => ?_⟩
   rcases List.mem_cons.1 hp with rfl | hp
   · rw [e] at h1
     have := h1.lt hc
     omega
   · exact h2 hc b o n cap e p hp⟩
def OwnL (k : Nat) (v : Value) (c : List Value) (O : List (Nat × Array Value)) : Prop := (v = .slice none 0 0 ∧ c = [] ∧ O = []) ∨ ∃ x, AppRow v k c x ∧ O = [x]
theorem OwnL.nil (k : Nat) : OwnL k (.slice none 0 0) [] [] := .inl ⟨rfl, rfl, rfl⟩
theorem OwnL.row {k : Nat} {v : Value} {c : List Value} {x : Nat × Array Value} (h : AppRow v k c x) : OwnL k v c [x] := .inr ⟨x, h, rfl⟩
theorem OwnL.slice {k : Nat} {v : Value} {c : List Value} {O : List (Nat × Array Value)} (h : OwnL k v c O) : ∃ ao n cap, v = .slice ao n cap ∧ c.length = n * k := by
 rcases h with ⟨rfl, rfl, _⟩ | ⟨x, ⟨n, cap, rfl, h, _⟩, _⟩
 · exact ⟨none, 0, 0, rfl, by simp⟩
 · exact ⟨_, n, cap, rfl, h⟩
theorem OwnL.rd {w0 w : World} {A B O : List (Nat × Array Value)} {R : List (Nat × Value × List Value)} {k : Nat} {v : Value} {c : List Value} (h : OwnL k v c O) (hv : Mem w0 w (A ++ O ++ B) R) : Rd w k v c := by
 rcases h with ⟨rfl, rfl, rfl⟩ | ⟨x, hx, rfl⟩
 · exact Rd.nil _ _
 · exact (hx.fr hv.vars (by simp)).1
theorem OwnL.yield {w0 w : World} {A B O : List (Nat × Array Value)} {R : List (Nat × Value × List Value)} {k : Nat} {v : Value} {c : List Value} (h : OwnL k v c O) (hv : Mem w0 w (A ++ O ++ B) R) : Mem w0 w (A ++ B) ((k, v, c) :: R) := by
 rcases h with ⟨rfl, rfl, rfl⟩ | ⟨x, hx, rfl⟩
 · rw [List.append_nil] at hv
   exact hv.fresh (Below.refl _ _) (FR.nil _ _ k)
 · rw [List.append_assoc] at hv
   exact Mem.yield hv hx
theorem Mem.bsl' {w0 w w' : World} {L : List (Nat × Array Value)} {R : List (Nat × Value × List Value)} {b k n : Nat} {z : Array Value} {c : List Value} (h : Mem w0 w L R) (hm : MadeAt w w' b z) (hz : z.toList = c) (hn : z.size = n * k) (hl : n ≤ maxLen) : Mem w0 w' L ((k, .slice (some ⟨b, 0, none⟩) n n, c) :: R) := by
 have h1 := h.madeAt hm
 refine Mem.yield (L1 := []) h1 ⟨n, n, rfl, by rw [← hz]; simpa using hn, Nat.le_refl _, hl, hn, ?_⟩
 rw [← hz, ← hn, List.take_of_length_le (by simp)]
theorem perm_mid {α : Type} (A B : List α) (x : α) : (A ++ [x] ++ B).Perm (x :: (A ++ B)) := by
 rw [List.append_assoc]
 exact List.perm_middle
section
variable {P : Program} {ops : Array Oper} {rest : List Oper} {a : Act} {w0 w : World} {Q : Exit → Act → World → Prop} {A B O : List (Nat × Array Value)} {R : List (Nat × Value × List Value)}
variable {dst : Option Tmp} {ty t e : TypeId} {pos : String} {after : Array Edge} {g : Option (Nat × Bool)} {x y : Operand} {k : Nat}
theorem wl_appO (hgd : Region.wanted (⟨dst, .call { callee := .builtin .append, args := #[x, y], argTypes := #[t, t] }, ty, pos, after, g⟩ : Oper) (yielded ops a.tmps) = true) {v : Value} {c : List Value} (hx : a.eval x = v) (hO : OwnL k v c O) (hv : Mem w0 w (A ++ O ++ B) R) (z : Value) (bytes : Nat) (ht : P.underlying t = some (.slice e))
   (hi : (P.info? e).map (fun i => (i.zero, i.size, i.bytes)) = some (some z, k, bytes)) (hzs : z.cells.size = k) (hk : 0 < k) {u : Value} (hy : a.eval y = u) {news : List Value} (hu : Rd w k u news) (h1 : ∀ x ∈ news, x.oneCell' = true)
   (h63 : (c.length + news.length) / k ≤ maxLen) (hbytes : (c.length + news.length) / k * bytes ≤ 140737488355328)
   (hn : ∀ v' w' O', OwnL k v' (c ++ news) O' → Mem w0 w' (A ++ O' ++ B) R → wpList P ops Q rest (a.put dst v') w') : wpList P ops Q (⟨dst, .call { callee := .builtin .append, args := #[x, y], argTypes := #[t, t] }, ty, pos, after, g⟩ :: rest) a w := by
 rcases hO with ⟨rfl, rfl, rfl⟩ | ⟨x0, hrow, rfl⟩
 · obtain ⟨i, hi1, hz, hsz, hb⟩ := info_parts hi
   rw [List.append_nil] at hv
   obtain ⟨v', w', r1, r2, r3⟩ := run_app_nil (P := P) (w := w) t ty i z bytes ht hi1 hz hsz hb hzs hk hu h1 (by simpa using h63) (by simpa using hbytes)
   refine wpList_want hgd fun K hK => ?_
   unfold Oper.wp execOp
   simp only [resolve, invoke, builtin, Sem.run_bind, Sem.run_pure, Result.andThen_ok, List.map_toArray, List.map_cons, List.map_nil, hx, hy, r1]
   rcases r3 with ⟨e1, h0⟩ | ⟨x', g1, g2, g3, g4⟩
   · refine hK _ _ (hn v' w' [] ?_ (by rw [List.append_nil]; exact hv.new r2))
     rw [e1, h0]; exact OwnL.nil k
   · refine hK _ _ (hn v' w' [x'] (by rw [List.nil_append]; exact OwnL.row g1) ((hv.lay' g2 r2 g3 g4).perm (perm_mid A B x').symm))
 · exact wl_apph hgd hx (hv.perm (perm_mid A B x0)) hrow z bytes ht hi hzs hk hy hu h1 h63 hbytes fun v' w' x' hr hm => hn v' w' [x'] (OwnL.row hr) (hm.perm (perm_mid A B x').symm)
theorem wl_build {T : TypeId} {ps : Array (Nat × Operand)} (hgd : Region.wanted (⟨dst, .build T ps, ty, pos, after, g⟩ : Oper) (yielded ops a.tmps) = true) (vs : List (Nat × Value)) (hp : ps.toList.map (fun p => (p.1, a.eval p.2)) = vs) {cells : Array Value} (h : P.built T vs = some cells) (hk : wpList P ops Q rest (a.put dst (.agg cells)) w) : wpList P ops Q (⟨dst, .build T ps, ty, pos, after, g⟩ :: rest) a w := by
 refine wpList_want hgd fun K hK => ?_
 have h' := run_build (P := P) w T (ps.map fun (i, x) => (i, a.eval x)) cells (by rw [Array.toList_map, ← h, ← hp])
 unfold Oper.wp execOp
 simp only [Sem.run_bind, h', Result.andThen_ok, Sem.run_pure]
 exact hK _ _ hk
theorem wl_sliceV {T : TypeId} {xl xh xm : Operand} (hgd : Region.wanted (⟨dst, .slice T x (some xl) (some xh) (some xm), ty, pos, after, g⟩ : Oper) (yielded ops a.tmps) = true) {ao : Option Addr} {n cap : Nat} (hx : a.eval x = .slice ao n cap) (ht : P.underlying T = some (.slice e)) (hi0 : (P.info? e).map (·.size) = some k)
   (l h m : Nat) {kl kh km : IntKind} (hl : a.eval xl = .int kl (l : Nat)) (hh : a.eval xh = .int kh (h : Nat)) (hmm : a.eval xm = .int km (m : Nat)) (h0 : l ≤ h) (h2 : h ≤ m) (h3 : m ≤ cap) {v : Value} (hv : sliced ao l h m k = v)
   (hk : wpList P ops Q rest (a.put dst v) w) : wpList P ops Q (⟨dst, .slice T x (some xl) (some xh) (some xm), ty, pos, after, g⟩ :: rest) a w := by
 subst hv
 refine wpList_want hgd fun K hK => ?_
 have hr := run_part (w := w) (ao := ao) (n := n) (cap := cap) ht hi0 (some (.int kl (l : Nat))) (some (.int kh (h : Nat))) (some (.int km (m : Nat))) l h m (bounds_lhm h0 h2 h3)
 unfold Oper.wp execOp
 simp only [Sem.run_bind, hx, hl, hh, hmm, Option.map_some, hr, Result.andThen_ok, Sem.run_pure]
 exact hK _ _ hk
end
end Go
end
