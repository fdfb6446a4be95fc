import Derived.Test.YthenepdbgeafkaaGAH
import Derived.Laws.Slices
set_option linter.unusedSimpArgs false
set_option linter.unusedVariables false
section
/-
 A part of a slice that is read: s[lo:hi:max], whatever the slice. No program in sight.
-/
namespace Go
open Go.RowKit
theorem Addr.add_none (b o j : Nat) : Addr.add ⟨b, o, none⟩ j = ⟨b, o + j, none⟩ := by
 unfold Addr.add
 by_cases h0 : j = 0
 · rw [if_pos h0, h0]; rfl
 · rw [if_neg h0]
theorem sliced_len {ao : Option Addr} {l h m k : Nat} : ∃ ao', sliced ao l h m k = .slice ao' (h - l) (m - l) := ⟨_, rfl⟩
theorem part_len {c : List Value} {n k l h : Nat} (hc : c.length = n * k) (h1 : l ≤ h) (h2 : h ≤ n) : ((c.drop (l * k)).take ((h - l) * k)).length = (h - l) * k := by
 rw [List.length_take, List.length_drop, hc]
 have := Nat.mul_le_mul_right k h2
 rw [Nat.sub_mul]; omega
theorem Rd.sliced {w : World} {k n cap : Nat} {ao : Option Addr} {c : List Value} (hr : Rd w k (.slice ao n cap) c) {l h m : Nat} (h1 : l ≤ h) (h2 : h ≤ n) (h3 : h ≤ m) (h4 : m ≤ cap) : Rd w k (Go.sliced ao l h m k) ((c.drop (l * k)).take ((h - l) * k)) := by
 obtain ⟨ao', n', cap', e, g1, g2, g3, g4, g5⟩ := hr
 cases e
 refine ⟨_, h - l, m - l, rfl, part_len g1 h1 h2, by omega, by omega, fun hn => ?_, fun i hi => ?_⟩
 · by_cases hml : m = l
   · constructor <;> omega
   · rw [if_neg hml] at hn
     cases ao with
     | none => have := (g4 rfl); constructor <;> omega
     | some a => simp at hn
 · rw [part_len g1 h1 h2] at hi
   have hlt : l * k + i < c.length := by
     rw [g1]
     have := Nat.mul_le_mul_right k h2
     have e2 : (h - l) * k = h * k - l * k := Nat.sub_mul h l k
     omega
   have hml : ¬ m = l := fun e => by
     have : h - l = 0 := by omega
     rw [this] at hi; omega
   obtain ⟨b, o, rfl, hb, hc⟩ := g5 (l * k + i) hlt
   refine ⟨b, o + l * k, ?_, hb, ?_⟩
   · rw [if_neg hml, Option.map_some, Addr.add_none]
   · rw [Nat.add_assoc, hc, List.getElem?_take, if_pos hi, List.getElem?_drop]
theorem sliced_of {ao : Option Addr} {l h m k : Nat} {b o n' cap' : Nat} (e : sliced ao l h m k = .slice (some ⟨b, o, none⟩) n' cap') : ∃ a, ao = some a ∧ (a.block = b) := by
 cases ao with
 | none => simp [sliced] at e
 | some a =>
   refine ⟨a, rfl, ?_⟩
   simp only [sliced, Value.slice.injEq] at e
   have e1 := e.1
   by_cases hml : m = l
   · rw [if_pos hml] at e1
     cases e1; rfl
   · rw [if_neg hml, Option.map_some] at e1
     have := Option.some.inj e1
     unfold Addr.add at this
     by_cases h0 : l * k = 0
     · rw [if_pos h0] at this; rw [this]
     · rw [if_neg h0] at this
       have := congrArg Addr.block this
       exact this
theorem sliced_apart {w : World} {k n cap : Nat} {ao : Option Addr} {c : List Value} (hr : Rd w k (.slice ao n cap) c) {l h m : Nat} {b o n' cap' : Nat} (hc : (c.drop (l * k)).take ((h - l) * k) ≠ []) (e : sliced ao l h m k = .slice (some ⟨b, o, none⟩) n' cap') :
   c ≠ [] ∧ ∃ o2, ao = some ⟨b, o2, none⟩ := by
 have hne : c ≠ [] := fun e => hc (by rw [e]; simp)
 refine ⟨hne, ?_⟩
 obtain ⟨b2, o2, n2, c2, e2, _⟩ := hr.some (List.length_pos_iff.2 hne)
 cases e2
 obtain ⟨a, e3, e4⟩ := sliced_of e
 cases e3
 exact ⟨o2, by rw [← e4]⟩
theorem Mem.sliced {w0 w : World} {L : LV} {R : LR} (hv : Mem w0 w L R) {k n cap : Nat} {ao : Option Addr} {c : List Value} (hm : (k, .slice ao n cap, c) ∈ R) {l h m : Nat} (h1 : l ≤ h) (h2 : h ≤ n) (h3 : h ≤ m) (h4 : m ≤ cap) :
   Mem w0 w L ((k, Go.sliced ao l h m k, (c.drop (l * k)).take ((h - l) * k)) :: R) := by
 have hr := hv.rd hm
 refine hv.add (hr.sliced h1 h2 h3 h4) fun hc b o n' cap' e p hp => ?_
 obtain ⟨hne, o2, rfl⟩ := sliced_apart hr hc e
 exact (hv.rds _ hm).2 hne b o2 n cap rfl p hp
section
variable {P : Program} {ops : Array Oper} {rest : List Oper} {a : Act} {w0 w : World} {Q : Exit → Act → World → Prop} {L : LV} {R : LR}
variable {dst : Option Tmp} {ty T e : TypeId} {pos : String} {after : Array Edge} {g : Option (Nat × Bool)} {x xl xh xm : Operand} {lo hi mx : Option Operand} {k : Nat}
theorem at_slice (h : wpList P ops Q (⟨dst, .slice T x lo hi mx, ty, pos, after, g⟩ :: rest) a w) : wpList P ops Q (⟨dst, .slice T x lo hi mx, ty, pos, after, g⟩ :: rest) a w := h
theorem run_part {ao : Option Addr} {n cap : Nat} (ht : P.underlying T = some (.slice e)) (hi0 : (P.info? e).map (·.size) = some k) (lo hi mx : Option Value) (l h m : Nat)
   (hb : (Instr.sliceBounds true n cap lo hi mx).run P w = .ok (l, h, m) w) : (Instr.sliceAt T (.slice ao n cap) lo hi mx).run P w = .ok (sliced ao l h m k) w := by
 have he : P.elem T = e := by unfold Program.elem; rw [ht]
 have ht2 : P.underlying T = some (.slice (P.elem T)) := by rw [he]; exact ht
 obtain ⟨i, hi1, hi2⟩ := Option.map_eq_some_iff.1 hi0
 have hsz : (sizeOf e).run P w = .ok k w := by
   unfold sizeOf
   simp [run_typeInfo w hi1, hi2]
 rw [run_sliceAt_slice w T _ _ _ _ ht2, run_slice_any w T ao n cap ht2, hb, he]
 simp only [Result.andThen_ok, hsz]
theorem bounds_l {n cap l : Nat} {kl : IntKind} (h : l ≤ n) : (Instr.sliceBounds true n cap (some (.int kl (l : Nat))) none none).run P w = .ok (l, n, cap) w := by
 simp [Instr.sliceBounds, run_sliceBound, h]
theorem bounds_h {n cap h : Nat} {kh : IntKind} (h1 : h ≤ cap) : (Instr.sliceBounds true n cap none (some (.int kh (h : Nat))) none).run P w = .ok (0, h, cap) w := by
 simp [Instr.sliceBounds, run_sliceBound, h1]
theorem bounds_lh {n cap l h : Nat} {kl kh : IntKind} (h0 : l ≤ h) (h1 : h ≤ cap) : (Instr.sliceBounds true n cap (some (.int kl (l : Nat))) (some (.int kh (h : Nat))) none).run P w = .ok (l, h, cap) w := by
 simp [Instr.sliceBounds, run_sliceBound, h0, h1]
theorem bounds_lhm {n cap l h m : Nat} {kl kh km : IntKind} (h0 : l ≤ h) (h1 : h ≤ m) (h2 : m ≤ cap) : (Instr.sliceBounds true n cap (some (.int kl (l : Nat))) (some (.int kh (h : Nat))) (some (.int km (m : Nat)))).run P w = .ok (l, h, m) w := by
 simp [Instr.sliceBounds, run_sliceBound, h0, h1, h2]
theorem wl_slice (hgd : Region.wanted (⟨dst, .slice T x lo hi mx, ty, pos, after, g⟩ : Oper) (yielded ops a.tmps) = true) {ao : Option Addr} {n cap : Nat} {c : List Value} (hx : a.eval x = .slice ao n cap) (hv : Mem w0 w L R) (hm : (k, .slice ao n cap, c) ∈ R) (ht : P.underlying T = some (.slice e)) (hi0 : (P.info? e).map (·.size) = some k)
   (lv hv' mv : Option Value) (hl : lo.map a.eval = lv) (hh : hi.map a.eval = hv') (hmx : mx.map a.eval = mv) (l h m : Nat) (hb : (Instr.sliceBounds true n cap lv hv' mv).run P w = .ok (l, h, m) w) (h1 : l ≤ h) (h2 : h ≤ n) (h3 : h ≤ m) (h4 : m ≤ cap)
   (hk : ∀ ao', Mem w0 w L ((k, .slice ao' (h - l) (m - l), (c.drop (l * k)).take ((h - l) * k)) :: R) → wpList P ops Q rest (a.put dst (.slice ao' (h - l) (m - l))) w) : wpList P ops Q (⟨dst, .slice T x lo hi mx, ty, pos, after, g⟩ :: rest) a w := by
 refine wpList_want hgd fun K hK => ?_
 have hr := run_part (w := w) (ao := ao) ht hi0 lv hv' mv l h m hb
 unfold Oper.wp execOp
 simp only [Sem.run_bind, hx, hl, hh, hmx, hr, Result.andThen_ok, Sem.run_pure]
 exact hK _ _ (hk _ (hv.sliced hm h1 h2 h3 h4))
theorem wl_slice_l (hgd : Region.wanted (⟨dst, .slice T x (some xl) none none, ty, pos, after, g⟩ : Oper) (yielded ops a.tmps) = true) {ao : Option Addr} {n cap : Nat} {c : List Value} (hx : a.eval x = .slice ao n cap) (hv : Mem w0 w L R) (hm : (k, .slice ao n cap, c) ∈ R) (ht : P.underlying T = some (.slice e)) (hi0 : (P.info? e).map (·.size) = some k)
   (l : Nat) {kl : IntKind} (hl : a.eval xl = .int kl (l : Nat)) (h1 : l ≤ n)
   (hk : ∀ ao', Mem w0 w L ((k, .slice ao' (n - l) (cap - l), c.drop (l * k)) :: R) → wpList P ops Q rest (a.put dst (.slice ao' (n - l) (cap - l))) w) : wpList P ops Q (⟨dst, .slice T x (some xl) none none, ty, pos, after, g⟩ :: rest) a w := by
 obtain ⟨_, _, _, e0, g1, g2, _⟩ := id (hv.rd hm)
 cases e0
 have hd : (c.drop (l * k)).take ((n - l) * k) = c.drop (l * k) := List.take_of_length_le (by rw [List.length_drop, g1, Nat.sub_mul]; exact Nat.le_refl _)
 refine wl_slice hgd hx hv hm ht hi0 (some (.int kl (l : Nat))) none none (by rw [Option.map_some, hl]) rfl rfl l n cap (bounds_l h1) h1 (Nat.le_refl _) g2 (Nat.le_refl _) fun ao' h => hk ao' ?_
 rwa [hd] at h
theorem wl_slice_h (hgd : Region.wanted (⟨dst, .slice T x none (some xh) none, ty, pos, after, g⟩ : Oper) (yielded ops a.tmps) = true) {ao : Option Addr} {n cap : Nat} {c : List Value} (hx : a.eval x = .slice ao n cap) (hv : Mem w0 w L R) (hm : (k, .slice ao n cap, c) ∈ R) (ht : P.underlying T = some (.slice e)) (hi0 : (P.info? e).map (·.size) = some k)
   (h : Nat) {kh : IntKind} (hh : a.eval xh = .int kh (h : Nat)) (h1 : h ≤ n)
   (hk : ∀ ao', Mem w0 w L ((k, .slice ao' h cap, c.take (h * k)) :: R) → wpList P ops Q rest (a.put dst (.slice ao' h cap)) w) : wpList P ops Q (⟨dst, .slice T x none (some xh) none, ty, pos, after, g⟩ :: rest) a w := by
 obtain ⟨_, _, _, e0, g1, g2, _⟩ := id (hv.rd hm)
 cases e0
 refine wl_slice hgd hx hv hm ht hi0 none (some (.int kh (h : Nat))) none rfl (by rw [Option.map_some, hh]) rfl 0 h cap (bounds_h (by omega)) (Nat.zero_le _) h1 (by omega) (Nat.le_refl _) fun ao' h' => ?_
 simp only [Nat.zero_mul, List.drop_zero, Nat.sub_zero] at h'
 exact hk ao' h'
theorem wl_slice_lhm (hgd : Region.wanted (⟨dst, .slice T x (some xl) (some xh) (some xm), ty, pos, after, g⟩ : Oper) (yielded ops a.tmps) = true) {ao : Option Addr} {n cap : Nat} {c : List Value} (hx : a.eval x = .slice ao n cap) (hv : Mem w0 w L R) (hm : (k, .slice ao n cap, c) ∈ R) (ht : P.underlying T = some (.slice e)) (hi0 : (P.info? e).map (·.size) = some k)
   (l h m : Nat) {kl kh km : IntKind} (hl : a.eval xl = .int kl (l : Nat)) (hh : a.eval xh = .int kh (h : Nat)) (hmm : a.eval xm = .int km (m : Nat)) (h0 : l ≤ h) (h1 : h ≤ n) (h2 : h ≤ m) (h3 : m ≤ cap)
   (hk : ∀ ao', Mem w0 w L ((k, .slice ao' (h - l) (m - l), (c.drop (l * k)).take ((h - l) * k)) :: R) → wpList P ops Q rest (a.put dst (.slice ao' (h - l) (m - l))) w) : wpList P ops Q (⟨dst, .slice T x (some xl) (some xh) (some xm), ty, pos, after, g⟩ :: rest) a w :=
 wl_slice hgd hx hv hm ht hi0 (some (.int kl (l : Nat))) (some (.int kh (h : Nat))) (some (.int km (m : Nat))) (by rw [Option.map_some, hl]) (by rw [Option.map_some, hh]) (by rw [Option.map_some, hmm]) l h m (bounds_lhm h0 h2 h3) h0 h1 h2 h3 hk
namespace Any
theorem at_qslice {C : World → Prop} {K : Act → Prop} (h : Oper.quiet P ⟨dst, .slice T x lo hi mx, ty, pos, after, g⟩ a C K) : Oper.quiet P ⟨dst, .slice T x lo hi mx, ty, pos, after, g⟩ a C K := h
theorem q_slice {C : World → Prop} {K : Act → Prop} {ao : Option Addr} {n cap : Nat} (hx : a.eval x = .slice ao n cap) (ht : P.underlying T = some (.slice e)) (hi0 : (P.info? e).map (·.size) = some k)
   (lv hv' mv : Option Value) (hl : lo.map a.eval = lv) (hh : hi.map a.eval = hv') (hmx : mx.map a.eval = mv) (l h m : Nat) (hb : ∀ w, (Instr.sliceBounds true n cap lv hv' mv).run P w = .ok (l, h, m) w) {v : Value} (hv : sliced ao l h m k = v) (hk : K (a.put dst v)) : Oper.quiet P ⟨dst, .slice T x lo hi mx, ty, pos, after, g⟩ a C K := by
 subst hv
 refine ⟨_, fun w hw => ?_, hk⟩
 have hr := run_part (w := w) (ao := ao) ht hi0 lv hv' mv l h m (hb w)
 unfold Oper.quietAt execOp
 simp only [Sem.run_bind, hx, hl, hh, hmx, hr, Result.andThen_ok, Sem.run_pure]
 exact ⟨rfl, rfl⟩
end Any
theorem rd_cells {w : World} {kk b o n cap : Nat} {c : List Value} (hr : Rd w kk (.slice (some ⟨b, o, none⟩) n cap) c) (i m : Nat) (v : Array Value) (hv : (c.drop i).take m = v.toList) (hm : v.size = m) (h0 : 0 < m) : o + i + m ≤ (w.rowD b).size ∧ (w.rowD b).extract (o + i) (o + i + m) = v := by
 have hl : m ≤ c.length - i := by
   have := congrArg List.length hv
   have h2 : v.toList.length = m := by simpa using hm
   rw [h2, List.length_take, List.length_drop] at this
   omega
 obtain ⟨_, _, _, _, e, _, _, _, _, hc⟩ := hr.some (by omega)
 cases e
 have hcell : ∀ j, j < m → (w.rowD b)[o + i + j]? = v[j]? := fun j hj => by
   have := hc (i + j) (by omega)
   rw [cell_rowD] at this
   rw [Nat.add_assoc, this, ← Array.getElem?_toList, ← hv, List.getElem?_take, if_pos hj, List.getElem?_drop]
 have hs : o + i + m ≤ (w.rowD b).size := by
   have h1 := hcell (m - 1) (by omega)
   rw [Array.getElem?_eq_getElem (show m - 1 < v.size by omega)] at h1
   have := (Array.getElem?_eq_some_iff.1 h1).1
   omega
 refine ⟨hs, ?_⟩
 apply Array.ext_getElem?
 intro j
 rw [Array.getElem?_extract]
 by_cases hj : j < m
 · rw [if_pos (by omega)]; exact hcell j hj
 · rw [if_neg (by omega), Array.getElem?_eq_none (by omega)]
theorem wl_rdv (hgd : Region.wanted (⟨dst, .load T x, ty, pos, after, g⟩ : Oper) (yielded ops a.tmps) = true) {kk b o n cap : Nat} {c : List Value} (hr : Rd w kk (.slice (some ⟨b, o, none⟩) n cap) c) (i : Nat) (hx : a.eval x = .pointer (some ⟨b, o + i, none⟩)) (m : Nat) (d : TypeDesc)
   (hu : P.underlying T = some d) (hd : d.isRow = true) (hi : (P.info? T).map (·.size) = some m) (h0 : 0 < m) (v : Array Value) (hv : (c.drop i).take m = v.toList) (hm : v.size = m) (h : wpList P ops Q rest (a.put dst (.agg v)) w) : wpList P ops Q (⟨dst, .load T x, ty, pos, after, g⟩ :: rest) a w := by
 obtain ⟨h1, h2⟩ := rd_cells hr i m v hv hm h0
 exact wl_ldp hgd b (o + i) hx (w.rowD b) rfl m d hu hd hi h0 h1 v h2 h
namespace Any
theorem q_rdv {β : Base} {E' : Env} {K : Act → Prop} {kk b o n cap : Nat} {c : List Value} (hr : Rd β.W kk (.slice (some ⟨b, o, none⟩) n cap) c ∧ (c ≠ [] → ∀ b' o' n' cap', (.slice (some ⟨b, o, none⟩) n cap : Value) = .slice (some ⟨b', o', none⟩) n' cap' → b' ∉ β.X)) (i : Nat)
   (hx : a.eval x = .pointer (some ⟨b, o + i, none⟩)) (m : Nat) (d : TypeDesc) (hu : P.underlying T = some d) (hd : d.isRow = true) (hi : (P.info? T).map (·.size) = some m) (h0 : 0 < m) (v : Array Value) (hv : (c.drop i).take m = v.toList) (hm : v.size = m) (hk : K (a.put dst (.agg v))) : Oper.quiet P ⟨dst, .load T x, ty, pos, after, g⟩ a (VE β E') K :=
 quiet_load_any T x rfl b (o + i) hx m d hu hd hi h0 v (fun w hw => rd_cells (hw.rdold hr.1 hr.2) i m v hv hm h0) hk
end Any
end
end Go
end

section
/-
 Slices of the call's own, several of them, nil or a row, beside the call's variables and what is read. No program in sight.
-/
namespace Go
open Go.RowKit
theorem Mem.perm {w0 w : World} {L L' : LV} {R : LR} (h : Mem w0 w L R) (hp : L.Perm L') : Mem w0 w L' R :=
 ⟨⟨h.vars.below, fun p hp' => h.vars.rows p (hp.mem_iff.2 hp'), (hp.map (·.1)).nodup_iff.1 h.vars.apart⟩, fun x hx => ⟨(h.rds x hx).1, fun hc b o n cap e p hp' => (h.rds x hx).2 hc b o n cap e p (hp.mem_iff.2 hp')⟩⟩
theorem Mem.lay' {w0 w w' : World} {L : LV} {R : LR} (h : Mem w0 w L R) {x : Nat × Array Value} (hB : w.heap.size ≤ x.1) (hn : New w w') (hr : w'.rowD x.1 = x.2) (hs : w'.soft x.1 = true) : Mem w0 w' (x :: L) R :=
 ⟨h.vars.lay hB hn hr hs, fun y hy => by
   obtain ⟨h1, h2⟩ := h.rds y hy
   refine ⟨h1.new hn, fun hc b o n cap e p hp => ?_⟩
   rcases List.mem_cons.1 hp with rfl | hp
   · rw [e] at h1
     have := h1.lt hc
     omega
   · exact h2 hc b o n cap e p hp⟩
def OwnL (k : Nat) (v : Value) (c : List Value) (O : LV) : Prop := (v = .slice none 0 0 ∧ c = [] ∧ O = []) ∨ ∃ x, AppRow v k c x ∧ O = [x]
theorem OwnL.nil (k : Nat) : OwnL k (.slice none 0 0) [] [] := .inl ⟨rfl, rfl, rfl⟩
theorem OwnL.row {k : Nat} {v : Value} {c : List Value} {x : Nat × Array Value} (h : AppRow v k c x) : OwnL k v c [x] := .inr ⟨x, h, rfl⟩
theorem OwnL.slice {k : Nat} {v : Value} {c : List Value} {O : LV} (h : OwnL k v c O) : ∃ ao n cap, v = .slice ao n cap ∧ c.length = n * k := by
 rcases h with ⟨rfl, rfl, _⟩ | ⟨x, ⟨n, cap, rfl, h, _⟩, _⟩
 · exact ⟨none, 0, 0, rfl, by simp⟩
 · exact ⟨_, n, cap, rfl, h⟩
theorem OwnL.rd {w0 w : World} {A B O : LV} {R : LR} {k : Nat} {v : Value} {c : List Value} (h : OwnL k v c O) (hv : Mem w0 w (A ++ O ++ B) R) : Rd w k v c := by
 rcases h with ⟨rfl, rfl, rfl⟩ | ⟨x, hx, rfl⟩
 · exact Rd.nil _ _
 · exact (hx.fr hv.vars (by simp)).1
theorem OwnL.yield {w0 w : World} {A B O : LV} {R : LR} {k : Nat} {v : Value} {c : List Value} (h : OwnL k v c O) (hv : Mem w0 w (A ++ O ++ B) R) : Mem w0 w (A ++ B) ((k, v, c) :: R) := by
 rcases h with ⟨rfl, rfl, rfl⟩ | ⟨x, hx, rfl⟩
 · rw [List.append_nil] at hv
   exact hv.fresh (Below.refl _ _) (FR.nil _ _ k)
 · rw [List.append_assoc] at hv
   exact Mem.yield hv hx
theorem Mem.bsl' {w0 w w' : World} {L : LV} {R : LR} {b k n : Nat} {z : Array Value} {c : List Value} (h : Mem w0 w L R) (hm : MadeAt w w' b z) (hz : z.toList = c) (hn : z.size = n * k) (hl : n ≤ maxLen) : Mem w0 w' L ((k, .slice (some ⟨b, 0, none⟩) n n, c) :: R) := by
 have h1 := h.madeAt hm
 refine Mem.yield (L1 := []) h1 ⟨n, n, rfl, by rw [← hz]; simpa using hn, Nat.le_refl _, hl, hn, ?_⟩
 rw [← hz, ← hn, List.take_of_length_le (by simp)]
theorem perm4 {α : Type} (a b c d : α) (O L : List α) : (a :: b :: c :: d :: (O ++ L)).Perm (b :: c :: d :: (O ++ a :: L)) := by
 have h := (List.perm_middle (l₁ := b :: c :: d :: O) (a := a) (l₂ := L)).symm
 simpa using h
theorem perm_mid {α : Type} (A B : List α) (x : α) : (A ++ [x] ++ B).Perm (x :: (A ++ B)) := by
 rw [List.append_assoc]
 exact List.perm_middle
section
variable {P : Program} {ops : Array Oper} {rest : List Oper} {a : Act} {w0 w : World} {Q : Exit → Act → World → Prop} {A B O : LV} {R : LR}
variable {dst : Option Tmp} {ty t e : TypeId} {pos : String} {after : Array Edge} {g : Option (Nat × Bool)} {x y : Operand} {k : Nat}
theorem wl_appO (hgd : Region.wanted (⟨dst, .call { callee := .builtin .append, args := #[x, y], argTypes := #[t, t] }, ty, pos, after, g⟩ : Oper) (yielded ops a.tmps) = true) {v : Value} {c : List Value} (hx : a.eval x = v) (hO : OwnL k v c O) (hv : Mem w0 w (A ++ O ++ B) R) (z : Value) (bytes : Nat) (ht : P.underlying t = some (.slice e))
   (hi : (P.info? e).map (fun i => (i.zero, i.size, i.bytes)) = some (some z, k, bytes)) (hzs : z.cells.size = k) (hk : 0 < k) {u : Value} (hy : a.eval y = u) {news : List Value} (hu : Rd w k u news) (h1 : ∀ x ∈ news, x.oneCell' = true)
   (h63 : (c.length + news.length) / k ≤ maxLen) (hbytes : (c.length + news.length) / k * bytes ≤ 140737488355328)
   (hn : ∀ v' w' O', OwnL k v' (c ++ news) O' → Mem w0 w' (A ++ O' ++ B) R → wpList P ops Q rest (a.put dst v') w') : wpList P ops Q (⟨dst, .call { callee := .builtin .append, args := #[x, y], argTypes := #[t, t] }, ty, pos, after, g⟩ :: rest) a w := by
 rcases hO with ⟨rfl, rfl, rfl⟩ | ⟨x0, hrow, rfl⟩
 · obtain ⟨i, hi1, hz, hsz, hb⟩ := info_parts hi
   rw [List.append_nil] at hv
   obtain ⟨v', w', r1, r2, r3⟩ := run_app_nil (P := P) (w := w) t ty i z bytes ht hi1 hz hsz hb hzs hk hu h1 (by simpa using h63) (by simpa using hbytes)
   refine wpList_want hgd fun K hK => ?_
   unfold Oper.wp execOp
   simp only [resolve, invoke, builtin, Sem.run_bind, Sem.run_pure, Result.andThen_ok, List.map_toArray, List.map_cons, List.map_nil, hx, hy, r1]
   rcases r3 with ⟨e1, h0⟩ | ⟨x', g1, g2, g3, g4⟩
   · refine hK _ _ (hn v' w' [] ?_ (by rw [List.append_nil]; exact hv.new r2))
     rw [e1, h0]; exact OwnL.nil k
   · refine hK _ _ (hn v' w' [x'] (by rw [List.nil_append]; exact OwnL.row g1) ((hv.lay' g2 r2 g3 g4).perm (perm_mid A B x').symm))
 · exact wl_apph hgd hx (hv.perm (perm_mid A B x0)) hrow z bytes ht hi hzs hk hy hu h1 h63 hbytes fun v' w' x' hr hm => hn v' w' [x'] (OwnL.row hr) (hm.perm (perm_mid A B x').symm)
theorem wl_build {T : TypeId} {ps : Array (Nat × Operand)} (hgd : Region.wanted (⟨dst, .build T ps, ty, pos, after, g⟩ : Oper) (yielded ops a.tmps) = true) (vs : List (Nat × Value)) (hp : ps.toList.map (fun p => (p.1, a.eval p.2)) = vs) {cells : Array Value} (h : P.built T vs = some cells) (hk : wpList P ops Q rest (a.put dst (.agg cells)) w) : wpList P ops Q (⟨dst, .build T ps, ty, pos, after, g⟩ :: rest) a w := by
 refine wpList_want hgd fun K hK => ?_
 have h' := run_build (P := P) w T (ps.map fun (i, x) => (i, a.eval x)) cells (by rw [Array.toList_map, ← h, ← hp])
 unfold Oper.wp execOp
 simp only [Sem.run_bind, h', Result.andThen_ok, Sem.run_pure]
 exact hK _ _ hk
theorem wl_sliceV {T : TypeId} {xl xh xm : Operand} (hgd : Region.wanted (⟨dst, .slice T x (some xl) (some xh) (some xm), ty, pos, after, g⟩ : Oper) (yielded ops a.tmps) = true) {ao : Option Addr} {n cap : Nat} (hx : a.eval x = .slice ao n cap) (ht : P.underlying T = some (.slice e)) (hi0 : (P.info? e).map (·.size) = some k)
   (l h m : Nat) {kl kh km : IntKind} (hl : a.eval xl = .int kl (l : Nat)) (hh : a.eval xh = .int kh (h : Nat)) (hmm : a.eval xm = .int km (m : Nat)) (h0 : l ≤ h) (h2 : h ≤ m) (h3 : m ≤ cap) {v : Value} (hv : sliced ao l h m k = v)
   (hk : wpList P ops Q rest (a.put dst v) w) : wpList P ops Q (⟨dst, .slice T x (some xl) (some xh) (some xm), ty, pos, after, g⟩ :: rest) a w := by
 subst hv
 refine wpList_want hgd fun K hK => ?_
 have hr := run_part (w := w) (ao := ao) (n := n) (cap := cap) ht hi0 (some (.int kl (l : Nat))) (some (.int kh (h : Nat))) (some (.int km (m : Nat))) l h m (bounds_lhm h0 h2 h3)
 unfold Oper.wp execOp
 simp only [Sem.run_bind, hx, hl, hh, hmm, Option.map_some, hr, Result.andThen_ok, Sem.run_pure]
 exact hK _ _ hk
end
end Go
end

section
/-
 More rules of the walk over a region that draws: a row laid whose cells hang on what was laid before; append of such a row; a call that reads a row laid in the region. No program in sight.
-/
namespace Go
namespace Any
open Go.RowKit
section
variable {P : Program} {ops : Array Oper} {β : Base} {S : Nat → Stat} {D : Nat → Kind} {Q : Act → Env → Prop} {k : Nat} {o : Oper} {rest : List Oper} {a : Act} {E : Env}
theorem E_laidA {mk : Nat → Value} {z : Array Value} {t : TypeId} {i : Nat} (hw : Region.wanted o (yielded ops a.tmps) = true) (hD : D k = .laidBy mk) (hS : (S k).write = some i)
   (hr : ∀ w, (execOp a.eval o).run P w = .ok (.value (mk w.heap.size)) (w.alloc (.cells z t)))
   (hk : ∀ B, wpE P ops β S D Q (k + 1) rest (a.put o.dst (mk B)) (E.put i (B, z))) : wpE P ops β S D Q k (o :: rest) a E := by
 refine .inr ⟨⟨hw, ⟨mk 0, (0, z), by rw [hD]; exact ⟨z, t, hr, rfl, rfl⟩⟩, fun E' he w hv => ?_⟩, fun u x hs => ?_⟩
 · unfold res
   rw [hr w]
   have hm := made_alloc w z t
   refine ⟨(w.heap.size, z), by rw [hD]; exact ⟨z, t, hr, rfl, rfl⟩, ?_⟩
   rw [hS]
   exact hv.lay (Nat.le_refl _) hm.new hm.row hm.soft
 · rw [hD] at hs
   obtain ⟨z', t', h1, rfl, h3⟩ := hs
   have h := (hr β.W).symm.trans (h1 β.W)
   have e : β.W.alloc (.cells z t) = β.W.alloc (.cells z' t') := by injection h
   have ez : z = z' := by
     have g : (β.W.alloc (.cells z t)).rowD β.W.heap.size = (β.W.alloc (.cells z' t')).rowD β.W.heap.size := by rw [e]
     rw [(made_alloc β.W z t).row, (made_alloc β.W z' t').row] at g
     exact g
   rw [hS]
   have ex : x = (x.1, z) := by rw [ez, ← h3]
   rw [ex]
   exact hk x.1
theorem E_bslA {n : Nat} {z : Array Value} {t : TypeId} {i : Nat} (hw : Region.wanted o (yielded ops a.tmps) = true) (hD : D k = .laidBy (fun B => .slice (some ⟨B, 0, none⟩) n n)) (hS : (S k).write = some i)
   (hr : ∀ w, (execOp a.eval o).run P w = .ok (.value (.slice (some ⟨w.heap.size, 0, none⟩) n n)) (w.alloc (.cells z t)))
   (hk : ∀ B, wpE P ops β S D Q (k + 1) rest (a.put o.dst (.slice (some ⟨B, 0, none⟩) n n)) (E.put i (B, z))) : wpE P ops β S D Q k (o :: rest) a E := E_laidA hw hD hS hr hk
end
section
variable {P : Program} {ops : Array Oper} {β : Base} {S : Nat → Stat} {D : Nat → Kind} {Q : Act → Env → Prop} {k : Nat} {rest : List Oper} {a : Act} {E : Env}
variable {dst : Option Tmp} {ty t : TypeId} {pos : String} {after : Array Edge} {g : Option (Nat × Bool)} {x y : Operand}
theorem E_appE {i j : Nat} {x0 : Nat × Array Value} {v : Value} {kk B m : Nat} {c news : List Value} {zs : Array Value} {e : TypeId} (hw : Region.wanted (⟨dst, .call { callee := .builtin .append, args := #[x, y], argTypes := #[t, t] }, ty, pos, after, g⟩ : Oper) (yielded ops a.tmps) = true)
   (hD : D k = .env j (fun zs v x => AppRow v kk (c ++ zs.toList) x)) (hS : (S k).write = some i) (hx : a.eval x = v) (hE : E i = some x0) (hrow : AppRow v kk c x0)
   (hy : a.eval y = .slice (some ⟨B, 0, none⟩) m m) (hj : j ∈ (S k).keys) (hEj : E j = some (B, zs)) (hzs : zs.toList = news) (hm : zs.size = m * kk) (hmm : m ≤ maxLen)
   (z : Value) (bytes : Nat) (ht : P.underlying t = some (.slice e)) (hi : (P.info? e).map (fun i => (i.zero, i.size, i.bytes)) = some (some z, kk, bytes)) (hz : z.cells.size = kk) (hk0 : 0 < kk)
   (h1 : ∀ x ∈ news, x.oneCell' = true) (h63 : (c.length + news.length) / kk ≤ maxLen) (hbytes : (c.length + news.length) / kk * bytes ≤ 140737488355328)
   (hk : ∀ v' x', AppRow v' kk (c ++ news) x' → wpE P ops β S D Q (k + 1) rest (a.put dst v') (E.put i x')) : wpE P ops β S D Q k (⟨dst, .call { callee := .builtin .append, args := #[x, y], argTypes := #[t, t] }, ty, pos, after, g⟩ :: rest) a E := by
 subst hzs
 obtain ⟨i0, hi1, hiz, hsz, hb⟩ := info_parts hi
 have hnl : zs.toList.length = m * kk := by simpa using hm
 have hmem : i ∈ (S k).keys := by unfold Stat.keys; rw [hS]; simp
 refine .inr ⟨⟨hw, ?_, fun E' he w hv => ?_⟩, fun u x' hs => ?_⟩
 · obtain ⟨n, cap, _, g1, _⟩ := hrow
   have hl : (c ++ zs.toList).length = (n + m) * kk := by rw [List.length_append, g1, hnl, Nat.add_mul]
   have : (c.length + zs.toList.length) / kk = n + m := by rw [g1, hnl, ← Nat.add_mul, Nat.mul_div_cancel _ hk0]
   obtain ⟨v', x', hr⟩ := AppRow.some hl (by omega)
   exact ⟨v', x', by rw [hD]; exact ⟨hj, B, zs, hEj, hr⟩⟩
 · have hE' : E' i = Option.some x0 := by rw [he i hmem]; exact hE
   have hEj' : E' j = Option.some (B, zs) := by rw [he j hj]; exact hEj
   obtain ⟨q1, q2, q3⟩ := hv.own i x0.1 x0.2 hE'
   have hu := hv.rd hEj' m kk hm hmm
   obtain ⟨v', w', x', r1, r2, r3⟩ := run_app_row (P := P) (w := w) t ty i0 z bytes ht hi1 hiz hsz hb hz hk0 hrow q1 q2 hu h1 h63 hbytes
   unfold res execOp
   simp only [resolve, invoke, builtin, Sem.run_bind, Sem.run_pure, Result.andThen_ok, List.map_toArray, List.map_cons, List.map_nil, hx, hy, r1]
   refine ⟨x', by rw [hD]; exact ⟨hj, B, zs, hEj', r2⟩, ?_⟩
   rw [hS]
   rcases r3 with ⟨e1, hwr⟩ | ⟨e1, hn, hr, hs⟩
   · have := hv.fill (i := i) (B := x0.1) (c0 := x0.2) hE' hwr
     rw [← e1] at this
     exact this
   · exact hv.lay (Nat.le_of_eq e1.symm) hn hr hs
 · rw [hD] at hs
   obtain ⟨_, B', zs', h2, h3⟩ := hs
   rw [hEj] at h2
   cases h2
   rw [hS]; exact hk u x' h3
theorem E_appnilE {i j : Nat} {kk B m : Nat} {news : List Value} {zs : Array Value} {e : TypeId} (hw : Region.wanted (⟨dst, .call { callee := .builtin .append, args := #[x, y], argTypes := #[t, t] }, ty, pos, after, g⟩ : Oper) (yielded ops a.tmps) = true)
   (hD : D k = .env j (fun zs v x => AppRow v kk zs.toList x)) (hS : (S k).write = some i) (hx : a.eval x = .slice none 0 0)
   (hy : a.eval y = .slice (some ⟨B, 0, none⟩) m m) (hj : j ∈ (S k).keys) (hEj : E j = some (B, zs)) (hzs : zs.toList = news) (hm : zs.size = m * kk) (hmm : m ≤ maxLen) (hne : news ≠ [])
   (z : Value) (bytes : Nat) (ht : P.underlying t = some (.slice e)) (hi : (P.info? e).map (fun i => (i.zero, i.size, i.bytes)) = some (some z, kk, bytes)) (hz : z.cells.size = kk) (hk0 : 0 < kk)
   (h1 : ∀ x ∈ news, x.oneCell' = true) (h63 : news.length / kk ≤ maxLen) (hbytes : news.length / kk * bytes ≤ 140737488355328)
   (hk : ∀ v' x', AppRow v' kk news x' → wpE P ops β S D Q (k + 1) rest (a.put dst v') (E.put i x')) : wpE P ops β S D Q k (⟨dst, .call { callee := .builtin .append, args := #[x, y], argTypes := #[t, t] }, ty, pos, after, g⟩ :: rest) a E := by
 subst hzs
 obtain ⟨i0, hi1, hiz, hsz, hb⟩ := info_parts hi
 have hnl : zs.toList.length = m * kk := by simpa using hm
 refine .inr ⟨⟨hw, ?_, fun E' he w hv => ?_⟩, fun u x' hs => ?_⟩
 · obtain ⟨v', x', hr⟩ := AppRow.some hnl hmm
   exact ⟨v', x', by rw [hD]; exact ⟨hj, B, zs, hEj, hr⟩⟩
 · have hEj' : E' j = Option.some (B, zs) := by rw [he j hj]; exact hEj
   have hu := hv.rd hEj' m kk hm hmm
   obtain ⟨v', w', r1, r2, r3⟩ := run_app_nil (P := P) (w := w) t ty i0 z bytes ht hi1 hiz hsz hb hz hk0 hu h1 h63 hbytes
   unfold res execOp
   simp only [resolve, invoke, builtin, Sem.run_bind, Sem.run_pure, Result.andThen_ok, List.map_toArray, List.map_cons, List.map_nil, hx, hy, r1]
   rcases r3 with ⟨_, h0⟩ | ⟨x', g1, g2, g3, g4⟩
   · exact absurd h0 hne
   · refine ⟨x', by rw [hD]; exact ⟨hj, B, zs, hEj', g1⟩, ?_⟩
     rw [hS]
     exact hv.lay g2 r2 g3 g4
 · rw [hD] at hs
   obtain ⟨_, B', zs', h2, h3⟩ := hs
   rw [hEj] at h2
   cases h2
   rw [hS]; exact hk u x' h3
theorem E_callownA {i : Nat} {xs : Array Operand} {ts : Array TypeId} {f : FuncId} {cap : Array Value} {W : Value → Nat × Array Value → Prop} (hw : Region.wanted (⟨dst, .call { callee := .value x, args := xs, argTypes := ts }, ty, pos, after, g⟩ : Oper) (yielded ops a.tmps) = true)
   (hD : D k = .own W) (hS : (S k).write = some i) (hf : Go.Proofs.Enters P f) (hx : a.eval x = .func (.func f) #[] cap) (vs : List Value) (hv : xs.toList.map a.eval = vs) (hs : ∃ v x, W v x)
   (hc : ∀ E', agree (S k).keys E E' → ∀ w, VE β E' w → Calls P f (vs.toArray ++ cap) w fun e w' => ∃ v x, e = .returned v ∧ W v x ∧ New w w' ∧ w.heap.size ≤ x.1 ∧ w'.rowD x.1 = x.2 ∧ w'.soft x.1 = true)
   (hk : ∀ v x, W v x → wpE P ops β S D Q (k + 1) rest (a.put dst v) (E.put i x)) : wpE P ops β S D Q k (⟨dst, .call { callee := .value x, args := xs, argTypes := ts }, ty, pos, after, g⟩ :: rest) a E := by
 refine E_own hw hD hS hs (fun E' he w hv' => ?_) hk
 unfold res
 rw [run_callv hf hx vs hv w]
 refine (hc E' he w hv').mono fun e w' ⟨v, x, h1, h2, h3, h4, h5, h6⟩ => ⟨v, h1, x, h2, hv'.lay h4 h3 h5 h6⟩
theorem at_ebuild {T : TypeId} {ps : Array (Nat × Operand)} (h : wpE P ops β S D Q k (⟨dst, .build T ps, ty, pos, after, g⟩ :: rest) a E) : wpE P ops β S D Q k (⟨dst, .build T ps, ty, pos, after, g⟩ :: rest) a E := h
theorem E_build {T : TypeId} {ps : Array (Nat × Operand)} (hw : Region.wanted (⟨dst, .build T ps, ty, pos, after, g⟩ : Oper) (yielded ops a.tmps) = true) (hD : D k = .pure) (hS : (S k).write = none) (vs : List (Nat × Value)) (hp : ps.toList.map (fun p => (p.1, a.eval p.2)) = vs) {cells : Array Value} (h : P.built T vs = some cells)
   (hk : wpE P ops β S D Q (k + 1) rest (a.put dst (.agg cells)) E) : wpE P ops β S D Q k (⟨dst, .build T ps, ty, pos, after, g⟩ :: rest) a E := by
 refine E_pure hw hD hS (fun w => ?_) hk
 have h' := run_build (P := P) w T (ps.map fun (i, x) => (i, a.eval x)) cells (by rw [Array.toList_map, ← h, ← hp])
 unfold execOp
 simp only [Sem.run_bind, h', Result.andThen_ok, Sem.run_pure]
end
end Any
end Go
end

section
/-
 A region that draws its order and holds one call that makes whatever memory: what comes before the call in every order is walked in the text's order; the call at its world; the rest in the text's order again. No program in sight.
-/
namespace Go
namespace Any
open Go.RowKit
section
variable {P : Program} {ops : Array Oper} {md : Region.Mode} (β : Base) (S : Nat → Stat) (D : Nat → Kind)
def wpAnyC (P : Program) (md : Region.Mode) (ops : Array Oper) (β : Base) (S : Nat → Stat) (D : Nat → Kind) (c : Nat) (H : Nat → Array Bool → Act → World → Prop) : Nat → Array Bool → Act → Env → Prop
 | 0, _, _, _ => False
 | fuel + 1, listed, a, E => Region.ready md ops listed ≠ [] ∧ ∀ i ∈ Region.ready md ops listed, (i = c → ∀ w, VE β E w → H fuel listed a w) ∧ (i ≠ c → fOp P ops β S D i (wpAnyC P md ops β S D c H fuel (listed.setIfInBounds i true)) a E)
theorem wpAny_of_C {c : Nat} {Q' : Exit → Act → World → Prop} : ∀ (fuel : Nat) (listed : Array Bool) (a : Act) (E : Env) (w : World), VE β E w →
   wpAnyC P md ops β S D c (fun fuel listed a w => wpOp P ops Q' c (wpAny P md ops Q' fuel (listed.setIfInBounds c true)) a w) fuel listed a E → wpAny P md ops Q' fuel listed a w
 | 0, _, _, _, _, _, h => h.elim
 | fuel + 1, listed, a, E, w, hw, h => ⟨fun h0 => absurd h0 h.1, fun i hi => by
     by_cases hic : i = c
     · subst hic
       exact (h.2 _ hi).1 rfl w hw
     · exact wpOp_of_fOp β S D hw (fun a' E' w' hw' => wpAny_of_C fuel _ a' E' w' hw') ((h.2 i hi).2 hic)⟩
variable {c : Nat} {H : Nat → Array Bool → Act → World → Prop}
theorem first_offC {i : Nat} {oi : Oper} (hi : ops[i]? = some oi) (hic : i ≠ c) (T : Nat → Bool) (hT : ∀ j oj, ops[j]? = some oj → T j = true → ∃ e ∈ oj.after, Region.binds md e = true ∧ (e.on = i ∨ T e.on = true)) (hTc : T c = true) (hsel : ∀ (j : Nat) (o : Oper) cs b, ops[j]? = some o → o.op ≠ .select cs b) :
   ∀ (fuel : Nat) (listed : Array Bool) (a : Act) (E : Env), (∀ j, T j = true → listed.getD j true = false) →
     (∀ j oj, ops[j]? = some oj → j ≠ i → listed.getD j true = false → T j = false → oi.apart ops oj = true) →
     i ∈ Region.ready md ops listed → Off ops oi a →
     wpAnyC P md ops β S D c H fuel (listed.setIfInBounds i true) (a.put oi.dst undef) E → wpAnyC P md ops β S D c H (fuel + 1) listed a E := by
 intro fuel
 have one : ∀ {K : Act → Env → Prop} {a : Act} {E : Env}, Off ops oi a → K (a.put oi.dst undef) E → fOp P ops β S D i K a E := fun ho hk => by
   unfold fOp; simp only [hi]; exact .inl ⟨ho, hk⟩
 induction fuel with
 | zero => intro listed a E _ _ _ _ h; exact h.elim
 | succ fuel ih =>
   intro listed a E hTl hfree hr hy HH
   refine ⟨fun h => (by rw [h] at hr; cases hr), fun j hj => ?_⟩
   by_cases hji : j = i
   · subst hji; exact ⟨fun e => absurd e hic, fun _ => one hy HH⟩
   · obtain ⟨hjun, oj, hoj, _⟩ := mem_ready.1 hj
     have hnT : T j = false := by
       cases hTj : T j with
       | false => rfl
       | true =>
         obtain ⟨e, he, hb, ho⟩ := hT j oj hoj hTj
         have hun : listed.getD e.on true = false := by
           rcases ho with ho | ho
           · rw [ho]; exact (mem_ready.1 hr).1
           · exact hTl _ ho
         exact absurd rfl (not_ready_of hj hoj hun e he hb)
     have hjc : j ≠ c := fun e => by rw [e, hTc] at hnT; cases hnT
     refine ⟨fun e => absurd e hjc, fun _ => ?_⟩
     have h1 := (HH.2 j (ready_mono hj hji)).2 hjc
     have h2 := fOp_put_off β S D hoj (hfree j oj hoj hji hjun hnT) (fun cs b => hsel j oj cs b hoj) hy h1
     have hfree' : ∀ k ok, ops[k]? = some ok → k ≠ i → (listed.setIfInBounds j true).getD k true = false → T k = false → oi.apart ops ok = true := fun k ok hk hki hun hno => by
       refine hfree k ok hk hki ?_ hno
       by_cases hjk : j = k
       · subst hjk; exact hjun
       · rw [getD_set_ne true hjk] at hun; exact hun
     have hTl' : ∀ k, T k = true → (listed.setIfInBounds j true).getD k true = false := fun k hk => by
       have hjk : j ≠ k := fun e => by rw [e, hk] at hnT; cases hnT
       rw [getD_set_ne true hjk]; exact hTl k hk
     refine fOp_mono β S D (fun a' E' h3 => ih (listed.setIfInBounds j true) a' E' hTl' hfree' (ready_mono hr (Ne.symm hji)) h3.1 ?_) h2
     rw [Array.setIfInBounds_comm _ _ hji]
     exact h3.2
theorem first_goodC {i : Nat} {oi : Oper} (hi : ops[i]? = some oi) (hic : i ≠ c) (T : Nat → Bool) (hT : ∀ j oj, ops[j]? = some oj → T j = true → ∃ e ∈ oj.after, Region.binds md e = true ∧ (e.on = i ∨ T e.on = true)) (hTc : T c = true) (hsel : ∀ (j : Nat) (o : Oper) cs b, ops[j]? = some o → o.op ≠ .select cs b) :
   ∀ (fuel : Nat) (listed : Array Bool) (a : Act) (E : Env), (∀ j, T j = true → listed.getD j true = false) →
     (∀ j oj, ops[j]? = some oj → j ≠ i → listed.getD j true = false → T j = false → oi.apart ops oj = true ∧ (S i).ind (S j) = true) →
     i ∈ Region.ready md ops listed → Good P ops β (S i) (D i) oi a E →
     (∀ v x, spec P (S i) (D i) oi a E v x → wpAnyC P md ops β S D c H fuel (listed.setIfInBounds i true) (a.put oi.dst v) (E.upd (S i).write x)) → wpAnyC P md ops β S D c H (fuel + 1) listed a E := by
 intro fuel
 have one : ∀ {K : Act → Env → Prop} {a : Act} {E : Env}, Good P ops β (S i) (D i) oi a E → (∀ v x, spec P (S i) (D i) oi a E v x → K (a.put oi.dst v) (E.upd (S i).write x)) → fOp P ops β S D i K a E := fun hg hk => by
   unfold fOp; simp only [hi]; exact .inr ⟨hg, hk⟩
 induction fuel with
 | zero =>
   intro listed a E _ _ _ hy h
   obtain ⟨v0, x0, s0⟩ := hy.some
   exact (h v0 x0 s0).elim
 | succ fuel ih =>
   intro listed a E hTl hfree hr hy HH
   refine ⟨fun h => (by rw [h] at hr; cases hr), fun j hj => ?_⟩
   by_cases hji : j = i
   · subst hji; exact ⟨fun e => absurd e hic, fun _ => one hy HH⟩
   · obtain ⟨hjun, oj, hoj, _⟩ := mem_ready.1 hj
     have hnT : T j = false := by
       cases hTj : T j with
       | false => rfl
       | true =>
         obtain ⟨e, he, hb, ho⟩ := hT j oj hoj hTj
         have hun : listed.getD e.on true = false := by
           rcases ho with ho | ho
           · rw [ho]; exact (mem_ready.1 hr).1
           · exact hTl _ ho
         exact absurd rfl (not_ready_of hj hoj hun e he hb)
     have hjc : j ≠ c := fun e => by rw [e, hTc] at hnT; cases hnT
     refine ⟨fun e => absurd e hjc, fun _ => ?_⟩
     obtain ⟨hap, hind⟩ := hfree j oj hoj hji hjun hnT
     have h2 := fOp_put_good β S D hoj hap (fun cs b => hsel i oi cs b hi) (fun cs b => hsel j oj cs b hoj) hind hy (fun v x s => ((HH v x s).2 j (ready_mono hj hji)).2 hjc)
     have hfree' : ∀ k ok, ops[k]? = some ok → k ≠ i → (listed.setIfInBounds j true).getD k true = false → T k = false → oi.apart ops ok = true ∧ (S i).ind (S k) = true := fun k ok hk hki hun hno => by
       refine hfree k ok hk hki ?_ hno
       by_cases hjk : j = k
       · subst hjk; exact hjun
       · rw [getD_set_ne true hjk] at hun; exact hun
     have hTl' : ∀ k, T k = true → (listed.setIfInBounds j true).getD k true = false := fun k hk => by
       have hjk : j ≠ k := fun e => by rw [e, hk] at hnT; cases hnT
       rw [getD_set_ne true hjk]; exact hTl k hk
     refine fOp_mono β S D (fun a' E' h3 => ih (listed.setIfInBounds j true) a' E' hTl' hfree' (ready_mono hr (Ne.symm hji)) h3.1 fun v x s => ?_) h2
     rw [Array.setIfInBounds_comm _ _ hji]
     exact h3.2 v x s
def marks : Nat → Nat → Array Bool → Array Bool
 | 0, _, l => l
 | n + 1, k, l => marks n (k + 1) (l.setIfInBounds k true)
def lexC (md : Region.Mode) (ops : Array Oper) (S : Nat → Stat) (c : Nat) : Nat → Nat → Array Bool → Bool
 | 0, _, _ => true
 | n + 1, k, listed => (Region.ready md ops listed).contains k && Region.free md ops listed k && exB md ops S listed k && (behind md ops k).getD c false && (k != c) && lexC md ops S c n (k + 1) (listed.setIfInBounds k true)
theorem wpAnyC_lex (m : Nat) (hs : Region.noSelect ops = true) : ∀ (n k : Nat) (l : List Oper) (listed : Array Bool) (a : Act) (E : Env), l.length = n → (∀ i, i < n → ops[k + i]? = l[i]?) →
   lexC md ops S c n k listed = true → wpE P ops β S D (fun a E => wpAnyC P md ops β S D c H m (marks n k listed) a E) k l a E → wpAnyC P md ops β S D c H (n + m) listed a E
 | 0, _, l, _, _, _, hl, _, hB, h => by
   cases l with
   | nil => rw [Nat.zero_add]; exact h
   | cons o r => simp at hl
 | n + 1, k, l, listed, a, E, hl, ho, hB, h => by
   cases l with
   | nil => simp at hl
   | cons o r =>
     have h0 : ops[k]? = some o := by simpa using ho 0 (by omega)
     have hr' : ∀ i, i < n → ops[k + 1 + i]? = r[i]? := fun i hi => by have := ho (i + 1) (by omega); rw [show k + (i + 1) = k + 1 + i from by omega] at this; simpa using this
     have hln : r.length = n := by simpa using hl
     simp only [lexC, Bool.and_eq_true] at hB
     obtain ⟨⟨⟨⟨⟨hr, hf⟩, hx⟩, hbc⟩, hkc⟩, hB'⟩ := hB
     have hkc' : k ≠ c := by simpa using hkc
     have hr2 : k ∈ Region.ready md ops listed := by simpa using hr
     have hfree := Region.free_spec h0 hf
     rw [show n + 1 + m = (n + m) + 1 from by omega]
     unfold wpE at h
     rcases h with ⟨ho1, hk⟩ | ⟨hg, hk⟩
     · exact first_offC β S D h0 hkc' (fun j => (behind md ops k).getD j false) (exB_T S hx).2 hbc (Region.noSelect_spec hs) (n + m) listed a E (exB_T S hx).1 (fun j oj hj hne hun hno => hfree j oj hj hne hun (behind_no (listed := listed) hj hno)) hr2 ho1
         (wpAnyC_lex m hs n (k + 1) r (listed.setIfInBounds k true) _ E hln hr' hB' hk)
     · exact first_goodC β S D h0 hkc' (fun j => (behind md ops k).getD j false) (exB_T S hx).2 hbc (Region.noSelect_spec hs) (n + m) listed a E (exB_T S hx).1 (fun j oj hj hne hun hno => ⟨hfree j oj hj hne hun (behind_no (listed := listed) hj hno), exB_spec S hx hj hne hun hno⟩) hr2 hg
         (fun v x s => wpAnyC_lex m hs n (k + 1) r (listed.setIfInBounds k true) _ _ hln hr' hB' (hk v x s))
theorem wpAnyC_at {fuel : Nat} {listed : Array Bool} {a : Act} {E : Env} (hr : Region.ready md ops listed = [c]) (h : ∀ w, VE β E w → H fuel listed a w) : wpAnyC P md ops β S D c H (fuel + 1) listed a E :=
 ⟨by rw [hr]; exact List.cons_ne_nil _ _, fun i hi => by
   rw [hr] at hi
   obtain rfl := List.mem_singleton.1 hi
   exact ⟨fun _ => h, fun hne => absurd rfl hne⟩⟩
end
theorem wp_region_cut {P : Program} {id : Nat} {Q : Exit → Act → World → Prop} {a : Act} {w0 w : World} {L : LV} {l : List Oper} (c : Nat) (ss : List Stat) (ms : List Mark) (hm : P.follows .mixedOrders = true)
   (hB : (decide (c < l.length) && Region.noSelect l.toArray && lexC .any l.toArray (fun i => ss.getD i ⟨[], none⟩) c c 0 (Array.replicate l.length false) && (Region.ready .any l.toArray (marks c 0 (Array.replicate l.length false)) == [c])) = true) (hv : Vars w0 w L)
   (h : someVals c fun vs => wpE P l.toArray ⟨w0, w.drewN 1, L.map (·.1)⟩ (fun i => ss.getD i ⟨[], none⟩) (kindOf ms vs) (fun a' E' => ∀ w', VE ⟨w0, w.drewN 1, L.map (·.1)⟩ E' w' →
     wpOp P l.toArray Q c (wpAny P .any l.toArray Q (l.length - (c + 1)) (marks (c + 1) 0 (Array.replicate l.length false))) a' w') 0 (l.take c) a (Env.of L)) : (Code.region id l.toArray true).wp P Q a w := by
 simp only [Bool.and_eq_true, decide_eq_true_eq, beq_iff_eq] at hB
 obtain ⟨⟨⟨hc, hs⟩, hl⟩, hr⟩ := hB
 refine of_someVals _ (fun vs h => ?_) h
 have hC := VE.start (hv.drewN 1)
 have hsz : l.toArray.size = l.length := by simp
 have hmk : ∀ (n k : Nat) (x : Array Bool), marks (n + 1) k x = (marks n k x).setIfInBounds (k + n) true := by
   intro n
   induction n with
   | zero => intro k x; rfl
   | succ n ih =>
     intro k x
     show marks (n + 1) (k + 1) (x.setIfInBounds k true) = _
     rw [ih (k + 1)]
     show _ = (marks n (k + 1) (x.setIfInBounds k true)).setIfInBounds (k + (n + 1)) true
     rw [show k + 1 + n = k + (n + 1) from by omega]
 refine wp_region_any hm (wpAny_of_C ⟨w0, w.drewN 1, L.map (·.1)⟩ (fun i => ss.getD i ⟨[], none⟩) (kindOf ms vs) (c := c) _ _ _ (Env.of L) _ hC ?_)
 rw [hsz]
 have key := wpAnyC_lex (P := P) (md := .any) (c := c) (H := fun fuel listed a w => wpOp P l.toArray Q c (wpAny P .any l.toArray Q fuel (listed.setIfInBounds c true)) a w) ⟨w0, w.drewN 1, L.map (·.1)⟩ (fun i => ss.getD i ⟨[], none⟩) (kindOf ms vs) (l.length - (c + 1) + 1) hs c 0 (l.take c) (Array.replicate l.length false) a (Env.of L) (by rw [List.length_take]; omega) (fun i hi => by simp [List.getElem?_take, hi]) hl
 rw [show c + (l.length - (c + 1) + 1) = l.length from by omega] at key
 refine key ?_
 have hmono : ∀ (k : Nat) (r : List Oper) (a : Act) (E : Env) {Q1 Q2 : Act → Env → Prop}, (∀ a E, Q1 a E → Q2 a E) → wpE P l.toArray ⟨w0, w.drewN 1, L.map (·.1)⟩ (fun i => ss.getD i ⟨[], none⟩) (kindOf ms vs) Q1 k r a E → wpE P l.toArray ⟨w0, w.drewN 1, L.map (·.1)⟩ (fun i => ss.getD i ⟨[], none⟩) (kindOf ms vs) Q2 k r a E := by
   intro k r
   induction r generalizing k with
   | nil => intro a E Q1 Q2 hq h; exact hq a E h
   | cons o r ih =>
     intro a E Q1 Q2 hq h
     unfold wpE at h ⊢
     rcases h with ⟨h1, h2⟩ | ⟨h1, h2⟩
     · exact .inl ⟨h1, ih _ _ _ hq h2⟩
     · exact .inr ⟨h1, fun v x s => ih _ _ _ hq (h2 v x s)⟩
 refine hmono 0 (l.take c) a (Env.of L) (fun a' E' hh => ?_) h
 refine wpAnyC_at _ _ _ hr fun w' hw' => ?_
 have e := hmk c 0 (Array.replicate l.length false)
 rw [Nat.zero_add] at e
 rw [← e]
 exact hh w' hw'
theorem wpAny_rest {P : Program} {Q : Exit → Act → World → Prop} {a : Act} {w0 w : World} {L : LV} {l : List Oper} (k : Nat) (ss : List Stat) (ms : List Mark)
   (hB : (Region.noSelect l.toArray && lexF .any l.toArray (fun i => ss.getD (i - k) ⟨[], none⟩) (l.length - k) k (marks k 0 (Array.replicate l.length false))) = true) (hv : Vars w0 w L)
   (h : someVals (l.length - k) fun vs => wpE P l.toArray ⟨w0, w, L.map (·.1)⟩ (fun i => ss.getD (i - k) ⟨[], none⟩) (fun i => kindOf ms vs (i - k)) (fun a' E' => ∀ w', VE ⟨w0, w, L.map (·.1)⟩ E' w' → Q .normal a' w') k (l.drop k) a (Env.of L)) :
   wpAny P .any l.toArray Q (l.length - k) (marks k 0 (Array.replicate l.length false)) a w := by
 simp only [Bool.and_eq_true] at hB
 refine of_someVals _ (fun vs h => ?_) h
 refine wpAny_of_F ⟨w0, w, L.map (·.1)⟩ (fun i => ss.getD (i - k) ⟨[], none⟩) (fun i => kindOf ms vs (i - k)) (Q := fun a' E' => ∀ w', VE ⟨w0, w, L.map (·.1)⟩ E' w' → Q .normal a' w') (fun _ _ w' hw' h => h w' hw') _ _ _ (Env.of L) _ (VE.start hv) ?_
 exact wpAnyF_lex (md := .any) _ _ _ hB.1 (l.length - k) k (l.drop k) _ a (Env.of L) (by rw [List.length_drop]) (fun i => by simp [List.getElem?_drop]) hB.2 h
section
variable {P : Program} {ops : Array Oper} {Q : Exit → Act → World → Prop} {a : Act} {w : World} {K : Act → World → Prop} {i : Nat}
variable {dst : Option Tmp} {ty : TypeId} {pos : String} {after : Array Edge} {g : Option (Nat × Bool)} {x : Operand}
theorem wpOp_callv {xs : Array Operand} {ts : Array TypeId} {f : FuncId} {cap : Array Value} (hi : ops[i]? = some ⟨dst, .call { callee := .value x, args := xs, argTypes := ts }, ty, pos, after, g⟩) (hw : Region.wanted (⟨dst, .call { callee := .value x, args := xs, argTypes := ts }, ty, pos, after, g⟩ : Oper) (yielded ops a.tmps) = true)
   (hf : Go.Proofs.Enters P f) (hx : a.eval x = .func (.func f) #[] cap) (vs : List Value) (hv : xs.toList.map a.eval = vs) (h : Calls P f (vs.toArray ++ cap) w fun e w' => ∃ v, e = .returned v ∧ K (a.put dst v) w') : wpOp P ops Q i K a w := by
 unfold wpOp
 simp only [hi]
 rw [if_pos hw]
 left
 refine wp_of_res (R := fun v w' => K (a.put dst v) w') ?_ fun v w' h => h
 unfold res
 rw [run_callv hf hx vs hv w]
 exact h
end
end Any
end Go
namespace Go
open Go.RowKit
theorem Any.VE.mem0 {w0 w w9 : World} {L : LV} {R : LR} {E : Any.Env} (h : Any.VE ⟨w0, w, L.map (·.1)⟩ E w9) (hm : Mem w0 w L R) (ks : List Nat) (hn : ks.Nodup) : Mem w0 w9 (ks.filterMap E) R :=
 ⟨h.vars ks hn, fun x hx => by
   obtain ⟨h1, h2⟩ := hm.rds x hx
   have h2' : x.2.2 ≠ [] → ∀ b o n cap, x.2.1 = .slice (some ⟨b, o, none⟩) n cap → b ∉ L.map (·.1) := fun hc b o n cap e hb => by
     obtain ⟨p, hp, rfl⟩ := List.mem_map.1 hb
     exact h2 hc p.1 o n cap e p hp rfl
   refine ⟨h.rdold h1 h2', fun hc b o n cap e p hp hpb => ?_⟩
   obtain ⟨i, _, hi⟩ := List.mem_filterMap.1 hp
   rcases h.inX i p.1 p.2 hi with g | g
   · exact h2' hc b o n cap e (by rw [← hpb]; exact g)
   · rw [e] at h1
     have := h1.lt hc
     simp only at g this
     omega⟩
end Go
end

section
/-
 A region that draws: append of a slice that is read; a region cut at a call, with one operation that may come before or behind it. No program in sight.
-/
namespace Go
open Go.RowKit
theorem Any.VE.memr0 {w0 w w9 : World} {L1 L : LV} {R : LR} {E : Any.Env} (h : Any.VE ⟨w0, w, L1.map (·.1)⟩ E w9) (hm : Mem w0 w (L1 ++ L) R) (ks : List Nat) (hn : ks.Nodup) : Mem w0 w9 (ks.filterMap E ++ L) R := by
 have hm1 : Mem w0 w L1 R := hm.keep (List.sublist_append_left _ _)
 have h1 := h.mem0 hm1 ks hn
 have ha := hm.vars.apart
 rw [List.map_append, List.nodup_append] at ha
 have old : ∀ p ∈ L, p.1 < w.heap.size ∧ p.1 ∉ L1.map (·.1) := fun p hp =>
   ⟨soft_lt (hm.vars.rows p (List.mem_append_right _ hp)).2.1, fun hX => ha.2.2 p.1 hX p.1 (List.mem_map_of_mem hp) rfl⟩
 refine ⟨⟨h1.vars.below, fun p hp => ?_, ?_⟩, fun x hx => ⟨(h1.rds x hx).1, fun hc b o n cap e p hp => ?_⟩⟩
 · rcases List.mem_append.1 hp with hp | hp
   · exact h1.vars.rows p hp
   · obtain ⟨g1, g2, g3⟩ := hm.vars.rows p (List.mem_append_right _ hp)
     obtain ⟨o1, o2⟩ := old p hp
     have hf := h.frame p.1 o1 o2
     exact ⟨(rowD_congr hf).trans g1, (soft_congr hf).trans g2, g3⟩
 · rw [List.map_append, List.nodup_append]
   refine ⟨h1.vars.apart, ha.2.1, fun a ha' c hc e => ?_⟩
   subst e
   obtain ⟨p, hp, rfl⟩ := List.mem_map.1 ha'
   obtain ⟨p', hp', e'⟩ := List.mem_map.1 hc
   obtain ⟨i, _, hi⟩ := List.mem_filterMap.1 hp
   obtain ⟨o1, o2⟩ := old p' hp'
   rcases h.inX i p.1 p.2 hi with g | g
   · exact o2 (by rw [e']; exact g)
   · simp only at g
     have : w.heap.size ≤ p.1 := g
     omega
 · rcases List.mem_append.1 hp with hp | hp
   · exact (h1.rds x hx).2 hc b o n cap e p hp
   · exact (hm.rds x hx).2 hc b o n cap e p (List.mem_append_right _ hp)
namespace Any
section
variable {P : Program} {ops : Array Oper} {β : Base} {S : Nat → Stat} {D : Nat → Kind} {Q : Act → Env → Prop} {k : Nat} {rest : List Oper} {a : Act} {E : Env}
variable {dst : Option Tmp} {ty t e : TypeId} {pos : String} {after : Array Edge} {g : Option (Nat × Bool)} {x y : Operand}
end
section
variable {P : Program} {ops : Array Oper} {md : Region.Mode} (β : Base) (S : Nat → Stat) (D : Nat → Kind)
end
end Any
end Go
end

section
/-
 A region that draws its order, cut at a call: its first operation is pure and waits for nothing, it may come before or behind the call. No program in sight.
-/
namespace Go
namespace Any
open Go.RowKit
end Any
end Go
end
