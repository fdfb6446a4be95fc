import Derived.Test.YthpodinbbmgfoaaGreatKit3
import Derived.Laws.Slices
import Derived.Test.YthpodinbbmgfoaaGreatIpHead
import Derived.Test.YthpodinbbmgfoaaGreatIpPlain
import Derived.Test.YthpodinbbmgfoaaGreatIpAny
import Derived.Test.YthpodinbbmgfoaaGreatPtRef
import Derived.Test.YthpodinbbmgfoaaGreatPgRef
section
/-
  append to a row, in a region that draws: what is appended was there when the region began. No program in sight.
-/
set_option linter.unusedVariables false
set_option linter.unusedSimpArgs false
namespace Go
namespace Any
open Go.RowKit
section
variable {P : Program} {ops : Array Oper} {β : Base} {S : Nat → Stat} {D : Nat → Kind} {Q : Act → Env → Prop} {k : Nat} {rest : List Oper} {a : Act} {E : Env}
variable {dst : Option Tmp} {ty t : TypeId} {pos : String} {after : Array Edge} {g : Option (Nat × Bool)} {x y : Operand}
/-- An empty row. -/
theorem AppRow.zero (B kk : Nat) : AppRow (.slice (Option.some ⟨B, 0, none⟩) 0 0) kk [] (B, #[]) :=
  ⟨0, 0, rfl, by simp, Nat.le_refl _, Nat.zero_le _, by simp, by simp⟩
theorem E_apprd {i : Nat} {x0 : Nat × Array Value} {v u : Value} {kk : Nat} {c news : List Value} {e : TypeId} (hw : Region.wanted (⟨dst, .call { callee := .builtin .append, args := #[x, y], argTypes := #[t, t] }, ty, pos, after, g⟩ : Oper) (yielded ops a.tmps) = true)
    (hD : D k = .own (AppRow · kk (c ++ news))) (hS : (S k).write = some i) (hx : a.eval x = v) (hE : E i = some x0) (hrow : AppRow v kk c x0)
    (hy : a.eval y = u) (hu : Rd β.W kk u news ∧ (news ≠ [] → ∀ b o n' cap, u = .slice (some ⟨b, o, none⟩) n' cap → b ∉ β.X))
    (z : Value) (bytes : Nat) (ht : P.underlying t = some (.slice e)) (hi : (P.info? e).map (fun i => (i.zero, i.size, i.bytes)) = some (some z, kk, bytes)) (hz : z.cells.size = kk) (hk0 : 0 < kk)
    (h1 : ∀ x ∈ news, x.oneCell' = true) (h63 : (c.length + news.length) / kk ≤ maxLen) (hbytes : (c.length + news.length) / kk * bytes ≤ 140737488355328)
    (hk : ∀ v' x', AppRow v' kk (c ++ news) x' → wpE P ops β S D Q (k + 1) rest (a.put dst v') (E.put i x')) : wpE P ops β S D Q k (⟨dst, .call { callee := .builtin .append, args := #[x, y], argTypes := #[t, t] }, ty, pos, after, g⟩ :: rest) a E := by
  obtain ⟨i0, hi1, hiz, hsz, hb⟩ := info_parts hi
  have hmem : i ∈ (S k).keys := by unfold Stat.keys; rw [hS]; simp
  refine E_own hw hD hS ?_ (fun E' he w hv => ?_) hk
  · obtain ⟨n, cap, _, g1, _⟩ := hrow
    obtain ⟨_, m, _, _, hl, _⟩ := hu.1
    have hl2 : (c ++ news).length = (n + m) * kk := by rw [List.length_append, g1, hl, Nat.add_mul]
    have : (c.length + news.length) / kk = n + m := by rw [g1, hl, ← Nat.add_mul, Nat.mul_div_cancel _ hk0]
    exact AppRow.some hl2 (by omega)
  · have hE' : E' i = Option.some x0 := by rw [he i hmem]; exact hE
    obtain ⟨q1, q2, q3⟩ := hv.own i x0.1 x0.2 hE'
    have hu' := hv.rdold hu.1 hu.2
    obtain ⟨v', w', x', r1, r2, r3⟩ := run_app_row (P := P) (w := w) t ty i0 z bytes ht hi1 hiz hsz hb hz hk0 hrow q1 q2 hu' h1 h63 hbytes
    unfold res execOp
    simp only [resolve, invoke, builtin, Sem.run_bind, Sem.run_pure, Result.andThen_ok, List.map_toArray, List.map_cons, List.map_nil, hx, hy, r1]
    refine ⟨x', r2, ?_⟩
    rcases r3 with ⟨e1, hwr⟩ | ⟨e1, hn, hr, hs⟩
    · have := hv.fill (i := i) (B := x0.1) (c0 := x0.2) hE' hwr
      rw [← e1] at this
      exact this
    · exact hv.lay (Nat.le_of_eq e1.symm) hn hr hs
end
end Any
section
open Go.RowKit
variable {P : Program} {ops : Array Oper} {rest : List Oper} {a : Act} {w0 w : World} {Q : Exit → Act → World → Prop} {L : List (Nat × Array Value)} {R : List (Nat × Value × List Value)}
variable {dst : Option Tmp} {ty t e : TypeId} {pos : String} {after : Array Edge} {g : Option (Nat × Bool)} {x y : Operand} {k : Nat}
/-- append to the row that is the call's first variable. -/
theorem wl_apph (hgd : Region.wanted (⟨dst, .call { callee := .builtin .append, args := #[x, y], argTypes := #[t, t] }, ty, pos, after, g⟩ : Oper) (yielded ops a.tmps) = true) {v : Value} {c : List Value} {x0 : Nat × Array Value} (hx : a.eval x = v) (hv : Mem w0 w (x0 :: L) R) (hrow : AppRow v k c x0) (z : Value) (bytes : Nat) (ht : P.underlying t = some (.slice e))
    (hi : (P.info? e).map (fun i => (i.zero, i.size, i.bytes)) = some (some z, k, bytes)) (hzs : z.cells.size = k) (hk : 0 < k) {u : Value} (hy : a.eval y = u) {news : List Value} (hu : Rd w k u news) (h1 : ∀ x ∈ news, x.oneCell' = true)
    (h63 : (c.length + news.length) / k ≤ maxLen) (hbytes : (c.length + news.length) / k * bytes ≤ 140737488355328)
    (hn : ∀ v' w' x', AppRow v' k (c ++ news) x' → Mem w0 w' (x' :: L) R → wpList P ops Q rest (a.put dst v') w') : wpList P ops Q (⟨dst, .call { callee := .builtin .append, args := #[x, y], argTypes := #[t, t] }, ty, pos, after, g⟩ :: rest) a w := by
  obtain ⟨i, hi1, hz, hsz, hb⟩ := info_parts hi
  obtain ⟨q1, q2, q3⟩ := hv.vars.rows x0 (List.mem_cons_self ..)
  obtain ⟨v', w', x', r1, r2, r3⟩ := run_app_row (P := P) (w := w) t ty i z bytes ht hi1 hz hsz hb hzs hk hrow q1 q2 hu h1 h63 hbytes
  refine wpList_want hgd fun K hK => ?_
  unfold Oper.wp execOp
  simp only [resolve, invoke, builtin, Sem.run_bind, Sem.run_pure, Result.andThen_ok, List.map_toArray, List.map_cons, List.map_nil, hx, hy, r1]
  refine hK _ _ (hn v' w' x' r2 ?_)
  rcases r3 with ⟨e1, hwr⟩ | ⟨e1, hnw, hr, hs⟩
  · have := hv.set 0 rfl hwr
    have e2 : x' = (x0.1, x'.2) := by rw [← e1]
    rw [e2]; exact this
  · have hm : MadeAt w w' w.heap.size x'.2 := ⟨rfl, ⟨hnw, by rw [← e1]; exact hr, by rw [← e1]; exact hs⟩⟩
    have := (hv.madeAt hm).keep (L' := (w.heap.size, x'.2) :: L) ((List.sublist_cons_self x0 L).cons_cons _)
    have e2 : x' = (w.heap.size, x'.2) := by rw [← e1]
    rw [e2]; exact this
end
end Go
end

section
/-
  A part of a slice that is read: s[lo:hi:max], whatever the slice. No program in sight.
-/
set_option linter.unusedVariables false
set_option linter.unusedSimpArgs false
namespace Go
open Go.RowKit
theorem Addr.add_none (b o j : Nat) : Addr.add ⟨b, o, none⟩ j = ⟨b, o + j, none⟩ := by
  unfold Addr.add
  by_cases h0 : j = 0
  · rw [if_pos h0, h0]; rfl
  · rw [if_neg h0]
theorem sliced_len {ao : Option Addr} {l h m k : Nat} : ∃ ao', sliced ao l h m k = .slice ao' (h - l) (m - l) := ⟨_, rfl⟩
theorem part_len {c : List Value} {n k l h : Nat} (hc : c.length = n * k) (h1 : l ≤ h) (h2 : h ≤ n) : ((c.drop (l * k)).take ((h - l) * k)).length = (h - l) * k := by
  rw [List.length_take, List.length_drop, hc]
  have := Nat.mul_le_mul_right k h2
  rw [Nat.sub_mul]; omega
theorem Rd.sliced {w : World} {k n cap : Nat} {ao : Option Addr} {c : List Value} (hr : Rd w k (.slice ao n cap) c) {l h m : Nat} (h1 : l ≤ h) (h2 : h ≤ n) (h3 : h ≤ m) (h4 : m ≤ cap) : Rd w k (Go.sliced ao l h m k) ((c.drop (l * k)).take ((h - l) * k)) := by
  obtain ⟨ao', n', cap', e, g1, g2, g3, g4, g5⟩ := hr
  cases e
  refine ⟨_, h - l, m - l, rfl, part_len g1 h1 h2, by omega, by omega, fun hn => ?_, fun i hi => ?_⟩
  · by_cases hml : m = l
    · constructor <;> omega
    · rw [if_neg hml] at hn
      cases ao with
      | none => have := (g4 rfl); constructor <;> omega
      | some a => simp at hn
  · rw [part_len g1 h1 h2] at hi
    have hlt : l * k + i < c.length := by
      rw [g1]
      have := Nat.mul_le_mul_right k h2
      have e2 : (h - l) * k = h * k - l * k := Nat.sub_mul h l k
      omega
    have hml : ¬ m = l := fun e => by
      have : h - l = 0 := by omega
      rw [this] at hi; omega
    obtain ⟨b, o, rfl, hb, hc⟩ := g5 (l * k + i) hlt
    refine ⟨b, o + l * k, ?_, hb, ?_⟩
    · rw [if_neg hml, Option.map_some, Addr.add_none]
    · rw [Nat.add_assoc, hc, List.getElem?_take, if_pos hi, List.getElem?_drop]
theorem sliced_of {ao : Option Addr} {l h m k : Nat} {b o n' cap' : Nat} (e : sliced ao l h m k = .slice (some ⟨b, o, none⟩) n' cap') : ∃ a, ao = some a ∧ (a.block = b) := by
  cases ao with
  | none => simp [sliced] at e
  | some a =>
    refine ⟨a, rfl, ?_⟩
    simp only [sliced, Value.slice.injEq] at e
    have e1 := e.1
    by_cases hml : m = l
    · rw [if_pos hml] at e1
      cases e1; rfl
    · rw [if_neg hml, Option.map_some] at e1
      have := Option.some.inj e1
      unfold Addr.add at this
      by_cases h0 : l * k = 0
      · rw [if_pos h0] at this; rw [this]
      · rw [if_neg h0] at this
        have := congrArg Addr.block this
        exact this
theorem sliced_apart {w : World} {k n cap : Nat} {ao : Option Addr} {c : List Value} (hr : Rd w k (.slice ao n cap) c) {l h m : Nat} {b o n' cap' : Nat} (hc : (c.drop (l * k)).take ((h - l) * k) ≠ []) (e : sliced ao l h m k = .slice (some ⟨b, o, none⟩) n' cap') :
    c ≠ [] ∧ ∃ o2, ao = some ⟨b, o2, none⟩ := by
  have hne : c ≠ [] := fun e => hc (by rw [e]; simp)
  refine ⟨hne, ?_⟩
  obtain ⟨b2, o2, n2, c2, e2, _⟩ := hr.some (List.length_pos_iff.2 hne)
  cases e2
  obtain ⟨a, e3, e4⟩ := sliced_of e
  cases e3
  exact ⟨o2, by rw [← e4]⟩
theorem Mem.sliced {w0 w : World} {L : List (Nat × Array Value)} {R : List (Nat × Value × List Value)} (hv : Mem w0 w L R) {k n cap : Nat} {ao : Option Addr} {c : List Value} (hm : (k, .slice ao n cap, c) ∈ R) {l h m : Nat} (h1 : l ≤ h) (h2 : h ≤ n) (h3 : h ≤ m) (h4 : m ≤ cap) :
    Mem w0 w L ((k, Go.sliced ao l h m k, (c.drop (l * k)).take ((h - l) * k)) :: R) := by
  have hr := hv.rd hm
  refine hv.add (hr.sliced h1 h2 h3 h4) fun hc b o n' cap' e p hp => ?_
  obtain ⟨hne, o2, rfl⟩ := sliced_apart hr hc e
  exact (hv.rds _ hm).2 hne b o2 n cap rfl p hp
section
variable {P : Program} {ops : Array Oper} {rest : List Oper} {a : Act} {w0 w : World} {Q : Exit → Act → World → Prop} {L : List (Nat × Array Value)} {R : List (Nat × Value × List Value)}
variable {dst : Option Tmp} {ty T e : TypeId} {pos : String} {after : Array Edge} {g : Option (Nat × Bool)} {x xl xh xm : Operand} {lo hi mx : Option Operand} {k : Nat}
theorem at_slice (h : wpList P ops Q (⟨dst, .slice T x lo hi mx, ty, pos, after, g⟩ :: rest) a w) : wpList P ops Q (⟨dst, .slice T x lo hi mx, ty, pos, after, g⟩ :: rest) a w := h
/-- How a part is taken. -/
theorem run_part {ao : Option Addr} {n cap : Nat} (ht : P.underlying T = some (.slice e)) (hi0 : (P.info? e).map (·.size) = some k) (lo hi mx : Option Value) (l h m : Nat)
    (hb : (Instr.sliceBounds true n cap lo hi mx).run P w = .ok (l, h, m) w) : (Instr.sliceAt T (.slice ao n cap) lo hi mx).run P w = .ok (sliced ao l h m k) w := by
  have he : P.elem T = e := by unfold Program.elem; rw [ht]
  have ht2 : P.underlying T = some (.slice (P.elem T)) := by rw [he]; exact ht
  obtain ⟨i, hi1, hi2⟩ := Option.map_eq_some_iff.1 hi0
  have hsz : (sizeOf e).run P w = .ok k w := by
    unfold sizeOf
    simp [run_typeInfo w hi1, hi2]
  rw [run_sliceAt_slice w T _ _ _ _ ht2, run_slice_any w T ao n cap ht2, hb, he]
  simp only [Result.andThen_ok, hsz]
theorem bounds_l {n cap l : Nat} {kl : IntKind} (h : l ≤ n) : (Instr.sliceBounds true n cap (some (.int kl (l : Nat))) none none).run P w = .ok (l, n, cap) w := by
  simp [Instr.sliceBounds, run_sliceBound, h]
theorem bounds_h {n cap h : Nat} {kh : IntKind} (h1 : h ≤ cap) : (Instr.sliceBounds true n cap none (some (.int kh (h : Nat))) none).run P w = .ok (0, h, cap) w := by
  simp [Instr.sliceBounds, run_sliceBound, h1]
theorem bounds_lh {n cap l h : Nat} {kl kh : IntKind} (h0 : l ≤ h) (h1 : h ≤ cap) : (Instr.sliceBounds true n cap (some (.int kl (l : Nat))) (some (.int kh (h : Nat))) none).run P w = .ok (l, h, cap) w := by
  simp [Instr.sliceBounds, run_sliceBound, h0, h1]
theorem bounds_lhm {n cap l h m : Nat} {kl kh km : IntKind} (h0 : l ≤ h) (h1 : h ≤ m) (h2 : m ≤ cap) : (Instr.sliceBounds true n cap (some (.int kl (l : Nat))) (some (.int kh (h : Nat))) (some (.int km (m : Nat)))).run P w = .ok (l, h, m) w := by
  simp [Instr.sliceBounds, run_sliceBound, h0, h1, h2]
theorem bounds_hm {n cap h m : Nat} {kh km : IntKind} (h1 : h ≤ m) (h2 : m ≤ cap) : (Instr.sliceBounds true n cap none (some (.int kh (h : Nat))) (some (.int km (m : Nat)))).run P w = .ok (0, h, m) w := by
  simp [Instr.sliceBounds, run_sliceBound, h1, h2]
/-- s[l:h:m] of a slice that is read. -/
theorem wl_slice (hgd : Region.wanted (⟨dst, .slice T x lo hi mx, ty, pos, after, g⟩ : Oper) (yielded ops a.tmps) = true) {ao : Option Addr} {n cap : Nat} {c : List Value} (hx : a.eval x = .slice ao n cap) (hv : Mem w0 w L R) (hm : (k, .slice ao n cap, c) ∈ R) (ht : P.underlying T = some (.slice e)) (hi0 : (P.info? e).map (·.size) = some k)
    (lv hv' mv : Option Value) (hl : lo.map a.eval = lv) (hh : hi.map a.eval = hv') (hmx : mx.map a.eval = mv) (l h m : Nat) (hb : (Instr.sliceBounds true n cap lv hv' mv).run P w = .ok (l, h, m) w) (h1 : l ≤ h) (h2 : h ≤ n) (h3 : h ≤ m) (h4 : m ≤ cap)
    (hk : ∀ ao', Mem w0 w L ((k, .slice ao' (h - l) (m - l), (c.drop (l * k)).take ((h - l) * k)) :: R) → wpList P ops Q rest (a.put dst (.slice ao' (h - l) (m - l))) w) : wpList P ops Q (⟨dst, .slice T x lo hi mx, ty, pos, after, g⟩ :: rest) a w := by
  refine wpList_want hgd fun K hK => ?_
  have hr := run_part (w := w) (ao := ao) ht hi0 lv hv' mv l h m hb
  unfold Oper.wp execOp
  simp only [Sem.run_bind, hx, hl, hh, hmx, hr, Result.andThen_ok, Sem.run_pure]
  exact hK _ _ (hk _ (hv.sliced hm h1 h2 h3 h4))
theorem wl_slice_l (hgd : Region.wanted (⟨dst, .slice T x (some xl) none none, ty, pos, after, g⟩ : Oper) (yielded ops a.tmps) = true) {ao : Option Addr} {n cap : Nat} {c : List Value} (hx : a.eval x = .slice ao n cap) (hv : Mem w0 w L R) (hm : (k, .slice ao n cap, c) ∈ R) (ht : P.underlying T = some (.slice e)) (hi0 : (P.info? e).map (·.size) = some k)
    (l : Nat) {kl : IntKind} (hl : a.eval xl = .int kl (l : Nat)) (h1 : l ≤ n)
    (hk : ∀ ao', Mem w0 w L ((k, .slice ao' (n - l) (cap - l), c.drop (l * k)) :: R) → wpList P ops Q rest (a.put dst (.slice ao' (n - l) (cap - l))) w) : wpList P ops Q (⟨dst, .slice T x (some xl) none none, ty, pos, after, g⟩ :: rest) a w := by
  obtain ⟨_, _, _, e0, g1, g2, _⟩ := id (hv.rd hm)
  cases e0
  have hd : (c.drop (l * k)).take ((n - l) * k) = c.drop (l * k) := List.take_of_length_le (by rw [List.length_drop, g1, Nat.sub_mul]; exact Nat.le_refl _)
  refine wl_slice hgd hx hv hm ht hi0 (some (.int kl (l : Nat))) none none (by rw [Option.map_some, hl]) rfl rfl l n cap (bounds_l h1) h1 (Nat.le_refl _) g2 (Nat.le_refl _) fun ao' h => hk ao' ?_
  rwa [hd] at h
theorem wl_slice_h (hgd : Region.wanted (⟨dst, .slice T x none (some xh) none, ty, pos, after, g⟩ : Oper) (yielded ops a.tmps) = true) {ao : Option Addr} {n cap : Nat} {c : List Value} (hx : a.eval x = .slice ao n cap) (hv : Mem w0 w L R) (hm : (k, .slice ao n cap, c) ∈ R) (ht : P.underlying T = some (.slice e)) (hi0 : (P.info? e).map (·.size) = some k)
    (h : Nat) {kh : IntKind} (hh : a.eval xh = .int kh (h : Nat)) (h1 : h ≤ n)
    (hk : ∀ ao', Mem w0 w L ((k, .slice ao' h cap, c.take (h * k)) :: R) → wpList P ops Q rest (a.put dst (.slice ao' h cap)) w) : wpList P ops Q (⟨dst, .slice T x none (some xh) none, ty, pos, after, g⟩ :: rest) a w := by
  obtain ⟨_, _, _, e0, g1, g2, _⟩ := id (hv.rd hm)
  cases e0
  refine wl_slice hgd hx hv hm ht hi0 none (some (.int kh (h : Nat))) none rfl (by rw [Option.map_some, hh]) rfl 0 h cap (bounds_h (by omega)) (Nat.zero_le _) h1 (by omega) (Nat.le_refl _) fun ao' h' => ?_
  simp only [Nat.zero_mul, List.drop_zero, Nat.sub_zero] at h'
  exact hk ao' h'
theorem wl_slice_lh (hgd : Region.wanted (⟨dst, .slice T x (some xl) (some xh) none, ty, pos, after, g⟩ : Oper) (yielded ops a.tmps) = true) {ao : Option Addr} {n cap : Nat} {c : List Value} (hx : a.eval x = .slice ao n cap) (hv : Mem w0 w L R) (hm : (k, .slice ao n cap, c) ∈ R) (ht : P.underlying T = some (.slice e)) (hi0 : (P.info? e).map (·.size) = some k)
    (l h : Nat) {kl kh : IntKind} (hl : a.eval xl = .int kl (l : Nat)) (hh : a.eval xh = .int kh (h : Nat)) (h0 : l ≤ h) (h1 : h ≤ n)
    (hk : ∀ ao', Mem w0 w L ((k, .slice ao' (h - l) (cap - l), (c.drop (l * k)).take ((h - l) * k)) :: R) → wpList P ops Q rest (a.put dst (.slice ao' (h - l) (cap - l))) w) : wpList P ops Q (⟨dst, .slice T x (some xl) (some xh) none, ty, pos, after, g⟩ :: rest) a w := by
  obtain ⟨_, _, _, e0, g1, g2, _⟩ := id (hv.rd hm)
  cases e0
  exact wl_slice hgd hx hv hm ht hi0 (some (.int kl (l : Nat))) (some (.int kh (h : Nat))) none (by rw [Option.map_some, hl]) (by rw [Option.map_some, hh]) rfl l h cap (bounds_lh h0 (by omega)) h0 h1 (by omega) (Nat.le_refl _) hk
theorem wl_slice_lhm (hgd : Region.wanted (⟨dst, .slice T x (some xl) (some xh) (some xm), ty, pos, after, g⟩ : Oper) (yielded ops a.tmps) = true) {ao : Option Addr} {n cap : Nat} {c : List Value} (hx : a.eval x = .slice ao n cap) (hv : Mem w0 w L R) (hm : (k, .slice ao n cap, c) ∈ R) (ht : P.underlying T = some (.slice e)) (hi0 : (P.info? e).map (·.size) = some k)
    (l h m : Nat) {kl kh km : IntKind} (hl : a.eval xl = .int kl (l : Nat)) (hh : a.eval xh = .int kh (h : Nat)) (hmm : a.eval xm = .int km (m : Nat)) (h0 : l ≤ h) (h1 : h ≤ n) (h2 : h ≤ m) (h3 : m ≤ cap)
    (hk : ∀ ao', Mem w0 w L ((k, .slice ao' (h - l) (m - l), (c.drop (l * k)).take ((h - l) * k)) :: R) → wpList P ops Q rest (a.put dst (.slice ao' (h - l) (m - l))) w) : wpList P ops Q (⟨dst, .slice T x (some xl) (some xh) (some xm), ty, pos, after, g⟩ :: rest) a w :=
  wl_slice hgd hx hv hm ht hi0 (some (.int kl (l : Nat))) (some (.int kh (h : Nat))) (some (.int km (m : Nat))) (by rw [Option.map_some, hl]) (by rw [Option.map_some, hh]) (by rw [Option.map_some, hmm]) l h m (bounds_lhm h0 h2 h3) h0 h1 h2 h3 hk
/-- append([]T{}, s...): the row was laid just now. -/
theorem wl_app0 {t : TypeId} {y : Operand} (hgd : Region.wanted (⟨dst, .call { callee := .builtin .append, args := #[x, y], argTypes := #[t, t] }, ty, pos, after, g⟩ : Oper) (yielded ops a.tmps) = true) {b : Nat} (hx : a.eval x = .slice (some ⟨b, 0, none⟩) 0 0) (hv : Mem w0 w ((b, #[]) :: L) R) (z : Value) (bytes : Nat) (ht : P.underlying t = some (.slice e))
    (hi : (P.info? e).map (fun i => (i.zero, i.size, i.bytes)) = some (some z, k, bytes)) (hzs : z.cells.size = k) (hk : 0 < k) {u : Value} (hy : a.eval y = u) {news : List Value} (hm : (k, u, news) ∈ R) (h1 : ∀ x ∈ news, x.oneCell' = true)
    (h63 : news.length / k ≤ maxLen) (hbytes : news.length / k * bytes ≤ 140737488355328)
    (hn : ∀ ao n cap w', Mem w0 w' L ((k, .slice ao n cap, news) :: R) → wpList P ops Q rest (a.put dst (.slice ao n cap)) w') : wpList P ops Q (⟨dst, .call { callee := .builtin .append, args := #[x, y], argTypes := #[t, t] }, ty, pos, after, g⟩ :: rest) a w := by
  refine wl_apph hgd hx hv (Any.AppRow.zero b k) z bytes ht hi hzs hk hy (hv.rd hm) h1 (by simpa using h63) (by simpa using hbytes) fun v' w' x' hrow hv' => ?_
  rw [List.nil_append] at hrow
  obtain ⟨n, cap, rfl, _⟩ := id hrow
  exact hn _ _ _ _ (Mem.yield (L1 := []) hv' hrow)
namespace Any
/-- .. in a region that draws: the value is known ahead. -/
theorem at_qslice {C : World → Prop} {K : Act → Prop} (h : Oper.quiet P ⟨dst, .slice T x lo hi mx, ty, pos, after, g⟩ a C K) : Oper.quiet P ⟨dst, .slice T x lo hi mx, ty, pos, after, g⟩ a C K := h
theorem q_slice {C : World → Prop} {K : Act → Prop} {ao : Option Addr} {n cap : Nat} (hx : a.eval x = .slice ao n cap) (ht : P.underlying T = some (.slice e)) (hi0 : (P.info? e).map (·.size) = some k)
    (lv hv' mv : Option Value) (hl : lo.map a.eval = lv) (hh : hi.map a.eval = hv') (hmx : mx.map a.eval = mv) (l h m : Nat) (hb : ∀ w, (Instr.sliceBounds true n cap lv hv' mv).run P w = .ok (l, h, m) w) {v : Value} (hv : sliced ao l h m k = v) (hk : K (a.put dst v)) : Oper.quiet P ⟨dst, .slice T x lo hi mx, ty, pos, after, g⟩ a C K := by
  subst hv
  refine ⟨_, fun w hw => ?_, hk⟩
  have hr := run_part (w := w) (ao := ao) ht hi0 lv hv' mv l h m (hb w)
  unfold Oper.quietAt execOp
  simp only [Sem.run_bind, hx, hl, hh, hmx, hr, Result.andThen_ok, Sem.run_pure]
  exact ⟨rfl, rfl⟩
end Any
/-- Several cells of a slice that is read. -/
theorem rd_cells {w : World} {kk b o n cap : Nat} {c : List Value} (hr : Rd w kk (.slice (some ⟨b, o, none⟩) n cap) c) (i m : Nat) (v : Array Value) (hv : (c.drop i).take m = v.toList) (hm : v.size = m) (h0 : 0 < m) : o + i + m ≤ (w.rowD b).size ∧ (w.rowD b).extract (o + i) (o + i + m) = v := by
  have hl : m ≤ c.length - i := by
    have := congrArg List.length hv
    have h2 : v.toList.length = m := by simpa using hm
    rw [h2, List.length_take, List.length_drop] at this
    omega
  obtain ⟨_, _, _, _, e, _, _, _, _, hc⟩ := hr.some (by omega)
  cases e
  have hcell : ∀ j, j < m → (w.rowD b)[o + i + j]? = v[j]? := fun j hj => by
    have := hc (i + j) (by omega)
    rw [cell_rowD] at this
    rw [Nat.add_assoc, this, ← Array.getElem?_toList, ← hv, List.getElem?_take, if_pos hj, List.getElem?_drop]
  have hs : o + i + m ≤ (w.rowD b).size := by
    have h1 := hcell (m - 1) (by omega)
    rw [Array.getElem?_eq_getElem (show m - 1 < v.size by omega)] at h1
    have := (Array.getElem?_eq_some_iff.1 h1).1
    omega
  refine ⟨hs, ?_⟩
  apply Array.ext_getElem?
  intro j
  rw [Array.getElem?_extract]
  by_cases hj : j < m
  · rw [if_pos (by omega)]; exact hcell j hj
  · rw [if_neg (by omega), Array.getElem?_eq_none (by omega)]
theorem wl_rdv (hgd : Region.wanted (⟨dst, .load T x, ty, pos, after, g⟩ : Oper) (yielded ops a.tmps) = true) {kk b o n cap : Nat} {c : List Value} (hr : Rd w kk (.slice (some ⟨b, o, none⟩) n cap) c) (i : Nat) (hx : a.eval x = .pointer (some ⟨b, o + i, none⟩)) (m : Nat) (d : TypeDesc)
    (hu : P.underlying T = some d) (hd : d.isRow = true) (hi : (P.info? T).map (·.size) = some m) (h0 : 0 < m) (v : Array Value) (hv : (c.drop i).take m = v.toList) (hm : v.size = m) (h : wpList P ops Q rest (a.put dst (.agg v)) w) : wpList P ops Q (⟨dst, .load T x, ty, pos, after, g⟩ :: rest) a w := by
  obtain ⟨h1, h2⟩ := rd_cells hr i m v hv hm h0
  exact wl_ldp hgd b (o + i) hx (w.rowD b) rfl m d hu hd hi h0 h1 v h2 h
namespace Any
theorem q_rdv {β : Base} {E' : Env} {K : Act → Prop} {kk b o n cap : Nat} {c : List Value} (hr : Rd β.W kk (.slice (some ⟨b, o, none⟩) n cap) c ∧ (c ≠ [] → ∀ b' o' n' cap', (.slice (some ⟨b, o, none⟩) n cap : Value) = .slice (some ⟨b', o', none⟩) n' cap' → b' ∉ β.X)) (i : Nat)
    (hx : a.eval x = .pointer (some ⟨b, o + i, none⟩)) (m : Nat) (d : TypeDesc) (hu : P.underlying T = some d) (hd : d.isRow = true) (hi : (P.info? T).map (·.size) = some m) (h0 : 0 < m) (v : Array Value) (hv : (c.drop i).take m = v.toList) (hm : v.size = m) (hk : K (a.put dst (.agg v))) : Oper.quiet P ⟨dst, .load T x, ty, pos, after, g⟩ a (VE β E') K :=
  quiet_load_any T x rfl b (o + i) hx m d hu hd hi h0 v (fun w hw => rd_cells (hw.rdold hr.1 hr.2) i m v hv hm h0) hk
/-- A call that makes memory, one row of which it names. -/
theorem E_callown {β : Base} {S : Nat → Stat} {D : Nat → Kind} {Q : Act → Env → Prop} {E : Env} {j i : Nat} {xs : Array Operand} {ts : Array TypeId} {f : FuncId} {cap : Array Value} {W : Value → Nat × Array Value → Prop} (hw : Region.wanted (⟨dst, .call { callee := .value x, args := xs, argTypes := ts }, ty, pos, after, g⟩ : Oper) (yielded ops a.tmps) = true)
    (hD : D j = .own W) (hS : (S j).write = some i) (hf : Go.Proofs.Enters P f) (hx : a.eval x = .func (.func f) #[] cap) (vs : List Value) (hv : xs.toList.map a.eval = vs) (hs : ∃ v x, W v x)
    (hc : ∀ E' w, VE β E' w → Calls P f (vs.toArray ++ cap) w fun e w' => ∃ v x, e = .returned v ∧ W v x ∧ New w w' ∧ w.heap.size ≤ x.1 ∧ w'.rowD x.1 = x.2 ∧ w'.soft x.1 = true)
    (hk : ∀ v x, W v x → wpE P ops β S D Q (j + 1) rest (a.put dst v) (E.put i x)) : wpE P ops β S D Q j (⟨dst, .call { callee := .value x, args := xs, argTypes := ts }, ty, pos, after, g⟩ :: rest) a E := by
  refine E_own hw hD hS hs (fun E' _ w hv' => ?_) hk
  unfold res
  rw [run_callv hf hx vs hv w]
  refine (hc E' w hv').mono fun e w' ⟨v, x, h1, h2, h3, h4, h5, h6⟩ => ⟨v, h1, x, h2, hv'.lay h4 h3 h5 h6⟩
end Any
end
end Go
end

section
/-
  The reference's Push, Pop and goes.
-/
set_option linter.unusedVariables false
set_option linter.unusedSimpArgs false
namespace Go.Proofs.YthpodinbbmgfoaaGreat
open Go.Proofs.Ip Go.Proofs.Pt Go.Proofs.Pg Go.Proofs.Cd Go.RowKit
/-- What Push answers: the row behind the new stack is named. -/
def PushW (st pc sk er : Int) (wk : Nat) (cv : Value) (c : List Value) (v : Value) (x : Nat × Array Value) : Prop :=
  ∃ n cap, v = .tuple #[.agg #[.int .i64 st, .int .i64 pc, .slice (some ⟨x.1, 0, none⟩) n cap, cv, .int .u64 (wk : Nat), .int .i64 sk, .int .i64 er], .bool true] ∧ AppRow (.slice (some ⟨x.1, 0, none⟩) n cap) 1 c x
def PushR (st pc sk er : Int) (wk : Nat) (cv : Value) (c : List Value) (w : World) (e : Ending) (w' : World) : Prop :=
  ∃ v x0, e = .returned v ∧ PushW st pc sk er wk cv c v x0 ∧ New w w' ∧ w.heap.size ≤ x0.1 ∧ w'.rowD x0.1 = x0.2 ∧ w'.soft x0.1 = true
set_option maxRecDepth 100000 in
set_option maxHeartbeats 4000000 in
theorem RPush_no (st pc sk er : Int) (wk : Nat) (sa ca : Option Addr) (sn sc cn cc : Nat) (x : Nat) (w : World) (hn : 32 ≤ sn) : Calls Tryz.prog 10 #[.agg #[.int .i64 st, .int .i64 pc, .slice sa sn sc, .slice ca cn cc, .int .u64 (wk : Nat), .int .i64 sk, .int .i64 er], .int .u64 (x : Nat)] w fun e w' => e = .returned (.tuple #[.agg #[.int .i64 st, .int .i64 pc, .slice sa sn sc, .slice ca cn cc, .int .u64 (wk : Nat), .int .i64 sk, .int .i64 er], .bool false]) ∧ New w w' := by
  have hv := Mem.nil w
  have q : (32 : Int) ≤ (sn : Int) := by omega
  clear hn
  go_enter Tryz.func10, Tryz.ntmps10
  go_wp2_with (first
    | ((with_reducible refine at_box (T := 28) (dst := some 2) ?_); refine wl_newb rfl #[.int .i64 st, .int .i64 pc, .slice sa sn sc, .slice ca cn cc, .int .u64 (wk : Nat), .int .i64 sk, .int .i64 er] 28 (fun _ => rfl) ?_; intro b2 w2 hm2; replace hv := hv.madeAt hm2; clear hm2)
    | ((with_reducible refine at_alloc (T := 28) (dst := some 4) ?_); refine wl_newb rfl #[.int .i64 0, .int .i64 0, .slice none 0 0, .slice none 0 0, .int .u64 0, .int .i64 0, .int .i64 0] 28 (fun _ => rfl) ?_; intro b4 w2 hm2; replace hv := hv.madeAt hm2; clear hm2)
    | ((with_reducible refine at_load (T := 23) ?_); refine wl_ldc rfl _ _ rfl _ (hv.vars.row (by first | exact .head _ | exact .tail _ (.head _) | exact .tail _ (.tail _ (.head _)) | exact .tail _ (.tail _ (.tail _ (.head _))) | exact .tail _ (.tail _ (.tail _ (.tail _ (.head _)))) | exact .tail _ (.tail _ (.tail _ (.tail _ (.tail _ (.head _))))) | exact .tail _ (.tail _ (.tail _ (.tail _ (.tail _ (.tail _ (.head _)))))) | exact .tail _ (.tail _ (.tail _ (.tail _ (.tail _ (.tail _ (.tail _ (.head _))))))))) _ Tryz.underlying23 rfl _ rfl ?_)
    | ((with_reducible refine at_load (T := 28) ?_); refine wl_ldv rfl b2 rfl _ (hv.vars.row (by first | exact .head _ | exact .tail _ (.head _) | exact .tail _ (.tail _ (.head _)) | exact .tail _ (.tail _ (.tail _ (.head _))) | exact .tail _ (.tail _ (.tail _ (.tail _ (.head _)))) | exact .tail _ (.tail _ (.tail _ (.tail _ (.tail _ (.head _))))) | exact .tail _ (.tail _ (.tail _ (.tail _ (.tail _ (.tail _ (.head _)))))) | exact .tail _ (.tail _ (.tail _ (.tail _ (.tail _ (.tail _ (.tail _ (.head _))))))))) 7 _ Tryz.underlying28 rfl infoT (by decide) rfl ?_)
    | ((with_reducible refine at_store (T := 28) ?_); refine wl_stv rfl b4 rfl _ rfl _ (hv.vars.row (by first | exact .head _ | exact .tail _ (.head _) | exact .tail _ (.tail _ (.head _)) | exact .tail _ (.tail _ (.tail _ (.head _))) | exact .tail _ (.tail _ (.tail _ (.tail _ (.head _)))) | exact .tail _ (.tail _ (.tail _ (.tail _ (.tail _ (.head _))))) | exact .tail _ (.tail _ (.tail _ (.tail _ (.tail _ (.tail _ (.head _)))))) | exact .tail _ (.tail _ (.tail _ (.tail _ (.tail _ (.tail _ (.tail _ (.head _))))))))) (hv.vars.sft (by first | exact .head _ | exact .tail _ (.head _) | exact .tail _ (.tail _ (.head _)) | exact .tail _ (.tail _ (.tail _ (.head _))) | exact .tail _ (.tail _ (.tail _ (.tail _ (.head _)))) | exact .tail _ (.tail _ (.tail _ (.tail _ (.tail _ (.head _))))) | exact .tail _ (.tail _ (.tail _ (.tail _ (.tail _ (.tail _ (.head _)))))) | exact .tail _ (.tail _ (.tail _ (.tail _ (.tail _ (.tail _ (.tail _ (.head _))))))))) 7 infoT rfl rfl (by simp [Value.oneCell']) ?_; intro w2 hw2; (first | (replace hv := hv.set 0 rfl hw2) | (replace hv := hv.set 1 rfl hw2) | (replace hv := hv.set 2 rfl hw2) | (replace hv := hv.set 3 rfl hw2)); clear hw2; simp only [List.set] at hv))
  refine ret_cell2 Tryz.results10 rfl (read_row _ b4 28 _ (hv.vars.row (by first | exact .head _ | exact .tail _ (.head _) | exact .tail _ (.tail _ (.head _)) | exact .tail _ (.tail _ (.tail _ (.head _))) | exact .tail _ (.tail _ (.tail _ (.tail _ (.head _)))) | exact .tail _ (.tail _ (.tail _ (.tail _ (.tail _ (.head _))))) | exact .tail _ (.tail _ (.tail _ (.tail _ (.tail _ (.tail _ (.head _)))))) | exact .tail _ (.tail _ (.tail _ (.tail _ (.tail _ (.tail _ (.tail _ (.head _))))))))) 7 _ Tryz.underlying28 rfl infoT (by decide) rfl) rfl rfl ⟨rfl, hv.below⟩
set_option maxRecDepth 100000 in
set_option maxHeartbeats 4000000 in
theorem RPush_row (st pc sk er : Int) (wk : Nat) (sa ca : Option Addr) (sn sc cn cc : Nat) (S : List Nat) (x : Nat) (w : World) (hrd : Rd w 1 (.slice sa sn sc) (cellsU S)) (hS : S.length < 32) : Calls Tryz.prog 10 #[.agg #[.int .i64 st, .int .i64 pc, .slice sa sn sc, .slice ca cn cc, .int .u64 (wk : Nat), .int .i64 sk, .int .i64 er], .int .u64 (x : Nat)] w (PushR st pc sk er wk (.slice ca cn cc) (cellsU (S ++ [x])) w) := by
  have hv := (Mem.nil w).old hrd
  obtain ⟨ao, n, cap, e, g1, g2, g3, g4, g5⟩ := hrd
  cases e
  rw [cellsU_len, Nat.mul_one] at g1
  have q : ¬ (32 : Int) ≤ (sn : Int) := by omega
  have hB0 : Hid (∀ y ∈ [Value.int .u64 (x : Nat)], y.oneCell' = true) := Lib.hid (fun y hy => by rw [List.mem_singleton.1 hy]; rfl)
  have hA1 : Hid ((([] : List Value).length + (cellsU S).length) / 1 ≤ maxLen) := Lib.hid (by rw [cellsU_len]; simp only [List.length_nil]; unfold maxLen; omega)
  have hA2 : Hid ((([] : List Value).length + (cellsU S).length) / 1 * 8 ≤ 140737488355328) := Lib.hid (by rw [cellsU_len]; simp only [List.length_nil]; omega)
  have hB1 : Hid ((([] ++ cellsU S).length + [Value.int .u64 (x : Nat)].length) / 1 ≤ maxLen) := Lib.hid (by rw [List.nil_append, cellsU_len]; simp only [List.length_cons, List.length_nil]; unfold maxLen; omega)
  have hB2 : Hid ((([] ++ cellsU S).length + [Value.int .u64 (x : Nat)].length) / 1 * 8 ≤ 140737488355328) := Lib.hid (by rw [List.nil_append, cellsU_len]; simp only [List.length_cons, List.length_nil]; omega)
  clear g1 g2 g3 g4 g5 hS
  go_enter Tryz.func10, Tryz.ntmps10
  go_wp2_with (first
    | ((with_reducible refine at_box (T := 28) (dst := some 2) ?_); refine wl_newb rfl #[.int .i64 st, .int .i64 pc, .slice sa sn sc, .slice ca cn cc, .int .u64 (wk : Nat), .int .i64 sk, .int .i64 er] 28 (fun _ => rfl) ?_; intro b2 w2 hm2; replace hv := hv.madeAt hm2; clear hm2)
    | ((with_reducible refine at_alloc (T := 28) (dst := some 4) ?_); refine wl_newb rfl #[.int .i64 0, .int .i64 0, .slice none 0 0, .slice none 0 0, .int .u64 0, .int .i64 0, .int .i64 0] 28 (fun _ => rfl) ?_; intro b4 w2 hm2; replace hv := hv.madeAt hm2; clear hm2)
    | ((with_reducible refine at_load (T := 23) ?_); replace hv := hv.madeAt ⟨rfl, made_alloc _ #[] 25⟩; refine wl_ldc rfl _ _ rfl _ (hv.vars.row (by first | exact .head _ | exact .tail _ (.head _) | exact .tail _ (.tail _ (.head _)) | exact .tail _ (.tail _ (.tail _ (.head _))) | exact .tail _ (.tail _ (.tail _ (.tail _ (.head _)))) | exact .tail _ (.tail _ (.tail _ (.tail _ (.tail _ (.head _))))) | exact .tail _ (.tail _ (.tail _ (.tail _ (.tail _ (.tail _ (.head _)))))) | exact .tail _ (.tail _ (.tail _ (.tail _ (.tail _ (.tail _ (.tail _ (.head _))))))))) _ Tryz.underlying23 rfl _ rfl ?_)
    | ((with_reducible refine at_load (T := 23) ?_); refine wl_ldc rfl _ _ rfl _ (hv.vars.row (by first | exact .head _ | exact .tail _ (.head _) | exact .tail _ (.tail _ (.head _)) | exact .tail _ (.tail _ (.tail _ (.head _))) | exact .tail _ (.tail _ (.tail _ (.tail _ (.head _)))) | exact .tail _ (.tail _ (.tail _ (.tail _ (.tail _ (.head _))))) | exact .tail _ (.tail _ (.tail _ (.tail _ (.tail _ (.tail _ (.head _)))))) | exact .tail _ (.tail _ (.tail _ (.tail _ (.tail _ (.tail _ (.tail _ (.head _))))))))) _ Tryz.underlying23 rfl _ rfl ?_)
    | ((with_reducible refine at_append (t := 23) ?_); replace hv := hv.bsl (k := 1) (n := 1) (c := [.int .u64 (x : Nat)]) ⟨rfl, made_alloc _ #[.int .u64 (x : Nat)] 25⟩ rfl rfl (by unfold maxLen; omega); refine wl_apph rfl rfl hv hrow (.int .u64 0) 8 Tryz.underlying23 infoU rfl (by decide) rfl (hv.rd Mem.z) hB0.out hB1.out hB2.out ?_; clear hrow; intro v5 w5 x5 hrow hv1; replace hv := hv1; clear hv1; obtain ⟨n5, cap5, rfl, _⟩ := id hrow)
    | ((with_reducible refine at_append (t := 23) ?_); refine wl_apph rfl rfl hv (Any.AppRow.zero _ 1) (.int .u64 0) 8 Tryz.underlying23 infoU rfl (by decide) rfl (hv.rd Mem.z) (cellsU_one _) hA1.out hA2.out ?_; intro v3 w3 x3 hrow hv1; replace hv := hv1; clear hv1)
    | ((with_reducible refine at_store (T := 23) ?_); refine wl_stc rfl b2 2 rfl (.slice (some ⟨x5.1, 0, none⟩) n5 cap5) rfl _ (hv.vars.row (by first | exact .head _ | exact .tail _ (.head _) | exact .tail _ (.tail _ (.head _)) | exact .tail _ (.tail _ (.tail _ (.head _))) | exact .tail _ (.tail _ (.tail _ (.tail _ (.head _)))) | exact .tail _ (.tail _ (.tail _ (.tail _ (.tail _ (.head _))))) | exact .tail _ (.tail _ (.tail _ (.tail _ (.tail _ (.tail _ (.head _)))))) | exact .tail _ (.tail _ (.tail _ (.tail _ (.tail _ (.tail _ (.tail _ (.head _))))))))) (hv.vars.sft (by first | exact .head _ | exact .tail _ (.head _) | exact .tail _ (.tail _ (.head _)) | exact .tail _ (.tail _ (.tail _ (.head _))) | exact .tail _ (.tail _ (.tail _ (.tail _ (.head _)))) | exact .tail _ (.tail _ (.tail _ (.tail _ (.tail _ (.head _))))) | exact .tail _ (.tail _ (.tail _ (.tail _ (.tail _ (.tail _ (.head _)))))) | exact .tail _ (.tail _ (.tail _ (.tail _ (.tail _ (.tail _ (.tail _ (.head _))))))))) (by kernel_rfl) rfl (by simp) ?_; intro w2 hw2; (first | (replace hv := hv.set 0 rfl hw2) | (replace hv := hv.set 1 rfl hw2) | (replace hv := hv.set 2 rfl hw2) | (replace hv := hv.set 3 rfl hw2)); clear hw2; simp only [List.set] at hv; simp only [List.setIfInBounds_toArray, List.set_cons_succ, List.set_cons_zero] at hv)
    | ((with_reducible refine at_load (T := 28) ?_); refine wl_ldv rfl b2 rfl _ (hv.vars.row (by first | exact .head _ | exact .tail _ (.head _) | exact .tail _ (.tail _ (.head _)) | exact .tail _ (.tail _ (.tail _ (.head _))) | exact .tail _ (.tail _ (.tail _ (.tail _ (.head _)))) | exact .tail _ (.tail _ (.tail _ (.tail _ (.tail _ (.head _))))) | exact .tail _ (.tail _ (.tail _ (.tail _ (.tail _ (.tail _ (.head _)))))) | exact .tail _ (.tail _ (.tail _ (.tail _ (.tail _ (.tail _ (.tail _ (.head _))))))))) 7 _ Tryz.underlying28 rfl infoT (by decide) rfl ?_)
    | ((with_reducible refine at_store (T := 28) ?_); refine wl_stv rfl b4 rfl _ rfl _ (hv.vars.row (by first | exact .head _ | exact .tail _ (.head _) | exact .tail _ (.tail _ (.head _)) | exact .tail _ (.tail _ (.tail _ (.head _))) | exact .tail _ (.tail _ (.tail _ (.tail _ (.head _)))) | exact .tail _ (.tail _ (.tail _ (.tail _ (.tail _ (.head _))))) | exact .tail _ (.tail _ (.tail _ (.tail _ (.tail _ (.tail _ (.head _)))))) | exact .tail _ (.tail _ (.tail _ (.tail _ (.tail _ (.tail _ (.tail _ (.head _))))))))) (hv.vars.sft (by first | exact .head _ | exact .tail _ (.head _) | exact .tail _ (.tail _ (.head _)) | exact .tail _ (.tail _ (.tail _ (.head _))) | exact .tail _ (.tail _ (.tail _ (.tail _ (.head _)))) | exact .tail _ (.tail _ (.tail _ (.tail _ (.tail _ (.head _))))) | exact .tail _ (.tail _ (.tail _ (.tail _ (.tail _ (.tail _ (.head _)))))) | exact .tail _ (.tail _ (.tail _ (.tail _ (.tail _ (.tail _ (.tail _ (.head _))))))))) 7 infoT rfl rfl (by simp [Value.oneCell']) ?_; intro w2 hw2; (first | (replace hv := hv.set 0 rfl hw2) | (replace hv := hv.set 1 rfl hw2) | (replace hv := hv.set 2 rfl hw2) | (replace hv := hv.set 3 rfl hw2)); clear hw2; simp only [List.set] at hv))
  refine ret_cell2 Tryz.results10 rfl (read_row _ b4 28 _ (hv.vars.row (by first | exact .head _ | exact .tail _ (.head _) | exact .tail _ (.tail _ (.head _)) | exact .tail _ (.tail _ (.tail _ (.head _))) | exact .tail _ (.tail _ (.tail _ (.tail _ (.head _)))) | exact .tail _ (.tail _ (.tail _ (.tail _ (.tail _ (.head _))))) | exact .tail _ (.tail _ (.tail _ (.tail _ (.tail _ (.tail _ (.head _)))))) | exact .tail _ (.tail _ (.tail _ (.tail _ (.tail _ (.tail _ (.tail _ (.head _))))))))) 7 _ Tryz.underlying28 rfl infoT (by decide) rfl) rfl rfl ⟨_, x5, rfl, ⟨n5, cap5, rfl, by rw [cellsU_snoc]; exact hrow⟩, hv.below, (hv.vars.rows x5 (List.mem_cons_self ..)).2.2, (hv.vars.rows x5 (List.mem_cons_self ..)).1, (hv.vars.rows x5 (List.mem_cons_self ..)).2.1⟩
set_option maxRecDepth 100000 in
set_option maxHeartbeats 4000000 in
theorem RPop_no (st pc sk er : Int) (wk : Nat) (sa ca : Option Addr) (sn sc cn cc : Nat) (k : Int) (w : World) (hk : k < 0 ∨ (sn : Int) < k) : Calls Tryz.prog 12 #[.agg #[.int .i64 st, .int .i64 pc, .slice sa sn sc, .slice ca cn cc, .int .u64 (wk : Nat), .int .i64 sk, .int .i64 er], .int .i64 k] w fun e w' => e = .returned (.tuple #[.agg #[.int .i64 st, .int .i64 pc, .slice sa sn sc, .slice ca cn cc, .int .u64 (wk : Nat), .int .i64 sk, .int .i64 er], .slice none 0 0, .bool false]) ∧ New w w' := by
  have hv := Mem.nil w
  by_cases h0 : k < 0
  · have q0 : decide (k < 0) = true := decide_eq_true h0
    clear hk h0
    go_enter Tryz.func12, Tryz.ntmps12
    go_wp2_with (first
      | ((with_reducible refine at_box (T := 28) (dst := some 2) ?_); refine wl_newb rfl #[.int .i64 st, .int .i64 pc, .slice sa sn sc, .slice ca cn cc, .int .u64 (wk : Nat), .int .i64 sk, .int .i64 er] 28 (fun _ => rfl) ?_; intro b2 w2 hm2; replace hv := hv.madeAt hm2; clear hm2)
      | ((with_reducible refine at_alloc (T := 28) (dst := some 4) ?_); refine wl_newb rfl #[.int .i64 0, .int .i64 0, .slice none 0 0, .slice none 0 0, .int .u64 0, .int .i64 0, .int .i64 0] 28 (fun _ => rfl) ?_; intro b4 w2 hm2; replace hv := hv.madeAt hm2; clear hm2)
      | ((with_reducible refine at_load (T := 23) ?_); refine wl_ldc rfl _ _ rfl _ (hv.vars.row (by first | exact .head _ | exact .tail _ (.head _) | exact .tail _ (.tail _ (.head _)) | exact .tail _ (.tail _ (.tail _ (.head _))) | exact .tail _ (.tail _ (.tail _ (.tail _ (.head _)))) | exact .tail _ (.tail _ (.tail _ (.tail _ (.tail _ (.head _))))) | exact .tail _ (.tail _ (.tail _ (.tail _ (.tail _ (.tail _ (.head _)))))) | exact .tail _ (.tail _ (.tail _ (.tail _ (.tail _ (.tail _ (.tail _ (.head _))))))))) _ Tryz.underlying23 rfl _ rfl ?_)
      | ((with_reducible refine at_load (T := 28) ?_); refine wl_ldv rfl b2 rfl _ (hv.vars.row (by first | exact .head _ | exact .tail _ (.head _) | exact .tail _ (.tail _ (.head _)) | exact .tail _ (.tail _ (.tail _ (.head _))) | exact .tail _ (.tail _ (.tail _ (.tail _ (.head _)))) | exact .tail _ (.tail _ (.tail _ (.tail _ (.tail _ (.head _))))) | exact .tail _ (.tail _ (.tail _ (.tail _ (.tail _ (.tail _ (.head _)))))) | exact .tail _ (.tail _ (.tail _ (.tail _ (.tail _ (.tail _ (.tail _ (.head _))))))))) 7 _ Tryz.underlying28 rfl infoT (by decide) rfl ?_)
      | ((with_reducible refine at_store (T := 28) ?_); refine wl_stv rfl b4 rfl _ rfl _ (hv.vars.row (by first | exact .head _ | exact .tail _ (.head _) | exact .tail _ (.tail _ (.head _)) | exact .tail _ (.tail _ (.tail _ (.head _))) | exact .tail _ (.tail _ (.tail _ (.tail _ (.head _)))) | exact .tail _ (.tail _ (.tail _ (.tail _ (.tail _ (.head _))))) | exact .tail _ (.tail _ (.tail _ (.tail _ (.tail _ (.tail _ (.head _)))))) | exact .tail _ (.tail _ (.tail _ (.tail _ (.tail _ (.tail _ (.tail _ (.head _))))))))) (hv.vars.sft (by first | exact .head _ | exact .tail _ (.head _) | exact .tail _ (.tail _ (.head _)) | exact .tail _ (.tail _ (.tail _ (.head _))) | exact .tail _ (.tail _ (.tail _ (.tail _ (.head _)))) | exact .tail _ (.tail _ (.tail _ (.tail _ (.tail _ (.head _))))) | exact .tail _ (.tail _ (.tail _ (.tail _ (.tail _ (.tail _ (.head _)))))) | exact .tail _ (.tail _ (.tail _ (.tail _ (.tail _ (.tail _ (.tail _ (.head _))))))))) 7 infoT rfl rfl (by simp [Value.oneCell']) ?_; intro w2 hw2; (first | (replace hv := hv.set 0 rfl hw2) | (replace hv := hv.set 1 rfl hw2) | (replace hv := hv.set 2 rfl hw2) | (replace hv := hv.set 3 rfl hw2)); clear hw2; simp only [List.set] at hv))
    refine ret_cell3 Tryz.results12 rfl (read_row _ b4 28 _ (hv.vars.row (by first | exact .head _ | exact .tail _ (.head _) | exact .tail _ (.tail _ (.head _)) | exact .tail _ (.tail _ (.tail _ (.head _))) | exact .tail _ (.tail _ (.tail _ (.tail _ (.head _)))) | exact .tail _ (.tail _ (.tail _ (.tail _ (.tail _ (.head _))))) | exact .tail _ (.tail _ (.tail _ (.tail _ (.tail _ (.tail _ (.head _)))))) | exact .tail _ (.tail _ (.tail _ (.tail _ (.tail _ (.tail _ (.tail _ (.head _))))))))) 7 _ Tryz.underlying28 rfl infoT (by decide) rfl) rfl rfl rfl ⟨rfl, hv.below⟩
  · have q0 : decide (k < 0) = false := decide_eq_false h0
    have q1 : decide ((sn : Int) < k) = true := decide_eq_true (by omega)
    clear hk h0
    go_enter Tryz.func12, Tryz.ntmps12
    go_wp2_with (first
      | ((with_reducible refine at_box (T := 28) (dst := some 2) ?_); refine wl_newb rfl #[.int .i64 st, .int .i64 pc, .slice sa sn sc, .slice ca cn cc, .int .u64 (wk : Nat), .int .i64 sk, .int .i64 er] 28 (fun _ => rfl) ?_; intro b2 w2 hm2; replace hv := hv.madeAt hm2; clear hm2)
      | ((with_reducible refine at_alloc (T := 28) (dst := some 4) ?_); refine wl_newb rfl #[.int .i64 0, .int .i64 0, .slice none 0 0, .slice none 0 0, .int .u64 0, .int .i64 0, .int .i64 0] 28 (fun _ => rfl) ?_; intro b4 w2 hm2; replace hv := hv.madeAt hm2; clear hm2)
      | ((with_reducible refine at_load (T := 23) ?_); refine wl_ldc rfl _ _ rfl _ (hv.vars.row (by first | exact .head _ | exact .tail _ (.head _) | exact .tail _ (.tail _ (.head _)) | exact .tail _ (.tail _ (.tail _ (.head _))) | exact .tail _ (.tail _ (.tail _ (.tail _ (.head _)))) | exact .tail _ (.tail _ (.tail _ (.tail _ (.tail _ (.head _))))) | exact .tail _ (.tail _ (.tail _ (.tail _ (.tail _ (.tail _ (.head _)))))) | exact .tail _ (.tail _ (.tail _ (.tail _ (.tail _ (.tail _ (.tail _ (.head _))))))))) _ Tryz.underlying23 rfl _ rfl ?_)
      | ((with_reducible refine at_load (T := 28) ?_); refine wl_ldv rfl b2 rfl _ (hv.vars.row (by first | exact .head _ | exact .tail _ (.head _) | exact .tail _ (.tail _ (.head _)) | exact .tail _ (.tail _ (.tail _ (.head _))) | exact .tail _ (.tail _ (.tail _ (.tail _ (.head _)))) | exact .tail _ (.tail _ (.tail _ (.tail _ (.tail _ (.head _))))) | exact .tail _ (.tail _ (.tail _ (.tail _ (.tail _ (.tail _ (.head _)))))) | exact .tail _ (.tail _ (.tail _ (.tail _ (.tail _ (.tail _ (.tail _ (.head _))))))))) 7 _ Tryz.underlying28 rfl infoT (by decide) rfl ?_)
      | ((with_reducible refine at_store (T := 28) ?_); refine wl_stv rfl b4 rfl _ rfl _ (hv.vars.row (by first | exact .head _ | exact .tail _ (.head _) | exact .tail _ (.tail _ (.head _)) | exact .tail _ (.tail _ (.tail _ (.head _))) | exact .tail _ (.tail _ (.tail _ (.tail _ (.head _)))) | exact .tail _ (.tail _ (.tail _ (.tail _ (.tail _ (.head _))))) | exact .tail _ (.tail _ (.tail _ (.tail _ (.tail _ (.tail _ (.head _)))))) | exact .tail _ (.tail _ (.tail _ (.tail _ (.tail _ (.tail _ (.tail _ (.head _))))))))) (hv.vars.sft (by first | exact .head _ | exact .tail _ (.head _) | exact .tail _ (.tail _ (.head _)) | exact .tail _ (.tail _ (.tail _ (.head _))) | exact .tail _ (.tail _ (.tail _ (.tail _ (.head _)))) | exact .tail _ (.tail _ (.tail _ (.tail _ (.tail _ (.head _))))) | exact .tail _ (.tail _ (.tail _ (.tail _ (.tail _ (.tail _ (.head _)))))) | exact .tail _ (.tail _ (.tail _ (.tail _ (.tail _ (.tail _ (.tail _ (.head _))))))))) 7 infoT rfl rfl (by simp [Value.oneCell']) ?_; intro w2 hw2; (first | (replace hv := hv.set 0 rfl hw2) | (replace hv := hv.set 1 rfl hw2) | (replace hv := hv.set 2 rfl hw2) | (replace hv := hv.set 3 rfl hw2)); clear hw2; simp only [List.set] at hv))
    refine ret_cell3 Tryz.results12 rfl (read_row _ b4 28 _ (hv.vars.row (by first | exact .head _ | exact .tail _ (.head _) | exact .tail _ (.tail _ (.head _)) | exact .tail _ (.tail _ (.tail _ (.head _))) | exact .tail _ (.tail _ (.tail _ (.tail _ (.head _)))) | exact .tail _ (.tail _ (.tail _ (.tail _ (.tail _ (.head _))))) | exact .tail _ (.tail _ (.tail _ (.tail _ (.tail _ (.tail _ (.head _)))))) | exact .tail _ (.tail _ (.tail _ (.tail _ (.tail _ (.tail _ (.tail _ (.head _))))))))) 7 _ Tryz.underlying28 rfl infoT (by decide) rfl) rfl rfl rfl ⟨rfl, hv.below⟩
theorem info1U : (Tryz.prog.info? 25).map (·.size) = some 1 := by kernel_rfl
theorem info1N : (Tryz.prog.info? 3).map (·.size) = some 1 := by kernel_rfl
theorem cells_one_sub {S : List Nat} {c : List Value} (h : ∀ x ∈ c, x ∈ cellsU S) : ∀ x ∈ c, x.oneCell' = true := fun x hx => cellsU_one S x (h x hx)
theorem cells_one_subN {S : List Int} {c : List Value} (h : ∀ x ∈ c, x ∈ cellsN S) : ∀ x ∈ c, x.oneCell' = true := fun x hx => cellsN_one S x (h x hx)
set_option maxRecDepth 100000 in
set_option maxHeartbeats 4000000 in
theorem RPop_yes (st pc sk er : Int) (wk : Nat) (sa ca : Option Addr) (sn sc cn cc : Nat) (S : List Nat) (k d : Nat) (w0 w : World) (L : List (Nat × Array Value)) (R : List (Nat × Value × List Value)) (hv0 : Mem w0 w L R) (hs : (1, .slice sa sn sc, cellsU S) ∈ R) (hS : S.length ≤ 1000) (hk : k + d = sn) :
    Calls Tryz.prog 12 #[.agg #[.int .i64 st, .int .i64 pc, .slice sa sn sc, .slice ca cn cc, .int .u64 (wk : Nat), .int .i64 sk, .int .i64 er], .int .i64 (k : Nat)] w fun e w' => ∃ pa pn pcp ra rn rcp, e = .returned (.tuple #[.agg #[.int .i64 st, .int .i64 pc, .slice pa pn pcp, .slice ca cn cc, .int .u64 (wk : Nat), .int .i64 sk, .int .i64 er], .slice ra rn rcp, .bool true]) ∧ Mem w0 w' L ((1, .slice pa pn pcp, cellsU (S.take d)) :: (1, .slice ra rn rcp, cellsU (S.drop d)) :: R) := by
  have hv := hv0
  obtain ⟨ao, n, cap, e, g1, g2, g3, g4, g5⟩ := hv0.rd hs
  cases e
  rw [cellsU_len, Nat.mul_one] at g1
  have hn : sn ≤ 1000 := by omega
  have hdn : d ≤ sn := by omega
  have q0 : decide ((k : Int) < 0) = false := decide_eq_false (by omega)
  have q1 : decide ((sn : Int) < (k : Int)) = false := decide_eq_false (by omega)
  have q1n : ¬ sn < k := by omega
  have q2 : IntKind.i64.wrap ((sn : Int) - (k : Int)) = (d : Int) := by rw [show (sn : Int) - (k : Int) = (d : Int) from by omega]; exact IntWalk.i64_in _ (by omega)
  have HA1 : Hid (((cellsU S).drop (d * 1)).length / 1 ≤ maxLen) := Lib.hid (by rw [List.length_drop, cellsU_len]; unfold maxLen; omega)
  have HA2 : Hid (((cellsU S).drop (d * 1)).length / 1 * 8 ≤ 140737488355328) := Lib.hid (by rw [List.length_drop, cellsU_len]; omega)
  have HB1 : Hid (((cellsU S).take (d * 1)).length / 1 ≤ maxLen) := Lib.hid (by rw [List.length_take, cellsU_len]; unfold maxLen; omega)
  have HB2 : Hid (((cellsU S).take (d * 1)).length / 1 * 8 ≤ 140737488355328) := Lib.hid (by rw [List.length_take, cellsU_len]; omega)
  have HS := Lib.hid hs
  have HD := Lib.hid hdn
  clear g1 g2 g3 g4 g5 hS hk hn hdn hs hv0
  go_enter Tryz.func12, Tryz.ntmps12
  go_wp2_with (first
    | ((with_reducible refine at_box (T := 28) (dst := some 2) ?_); refine wl_newb rfl #[.int .i64 st, .int .i64 pc, .slice sa sn sc, .slice ca cn cc, .int .u64 (wk : Nat), .int .i64 sk, .int .i64 er] 28 (fun _ => rfl) ?_; intro b2 w2 hm2; replace hv := hv.madeAt hm2; clear hm2)
    | ((with_reducible refine at_alloc (T := 28) (dst := some 4) ?_); refine wl_newb rfl #[.int .i64 0, .int .i64 0, .slice none 0 0, .slice none 0 0, .int .u64 0, .int .i64 0, .int .i64 0] 28 (fun _ => rfl) ?_; intro b4 w2 hm2; replace hv := hv.madeAt hm2; clear hm2)
    | ((with_reducible refine at_load (T := 23) ?_); replace hv := hv.madeAt ⟨rfl, made_alloc _ #[] 25⟩; refine wl_ldc rfl _ _ rfl _ (hv.vars.row (by first | exact .head _ | exact .tail _ (.head _) | exact .tail _ (.tail _ (.head _)) | exact .tail _ (.tail _ (.tail _ (.head _))) | exact .tail _ (.tail _ (.tail _ (.tail _ (.head _)))) | exact .tail _ (.tail _ (.tail _ (.tail _ (.tail _ (.head _))))) | exact .tail _ (.tail _ (.tail _ (.tail _ (.tail _ (.tail _ (.head _)))))) | exact .tail _ (.tail _ (.tail _ (.tail _ (.tail _ (.tail _ (.tail _ (.head _))))))))) _ Tryz.underlying23 rfl _ rfl ?_)
    | ((with_reducible refine at_load (T := 23) ?_); refine wl_ldc rfl _ _ rfl _ (hv.vars.row (by first | exact .head _ | exact .tail _ (.head _) | exact .tail _ (.tail _ (.head _)) | exact .tail _ (.tail _ (.tail _ (.head _))) | exact .tail _ (.tail _ (.tail _ (.tail _ (.head _)))) | exact .tail _ (.tail _ (.tail _ (.tail _ (.tail _ (.head _))))) | exact .tail _ (.tail _ (.tail _ (.tail _ (.tail _ (.tail _ (.head _)))))) | exact .tail _ (.tail _ (.tail _ (.tail _ (.tail _ (.tail _ (.tail _ (.head _))))))))) _ Tryz.underlying23 rfl _ rfl ?_)
    | ((with_reducible refine at_slice (T := 23) ?_); refine wl_slice_l rfl rfl hv (by first | exact HS.out | exact Mem.s (Mem.s HS.out)) Tryz.underlying23 info1U d rfl HD.out ?_; intro aoN hvN; replace hv := hvN; clear hvN)
    | ((with_reducible refine at_slice (T := 23) ?_); refine wl_slice_h rfl rfl hv (by first | exact HS.out | exact Mem.s (Mem.s HS.out)) Tryz.underlying23 info1U d rfl HD.out ?_; intro aoN hvN; replace hv := hvN; clear hvN)
    | ((with_reducible refine at_append (t := 23) ?_); refine wl_app0 rfl rfl hv (.int .u64 0) 8 Tryz.underlying23 infoU rfl (by decide) rfl Mem.z (cells_one_sub (List.drop_sublist _ _).subset) HA1.out HA2.out ?_; intro ao5 n5 cap5 w5 hvN; replace hv := hvN; clear hvN)
    | ((with_reducible refine at_append (t := 23) ?_); refine wl_app0 rfl rfl hv (.int .u64 0) 8 Tryz.underlying23 infoU rfl (by decide) rfl Mem.z (cells_one_sub (List.take_sublist _ _).subset) HB1.out HB2.out ?_; intro ao6 n6 cap6 w6 hvN; replace hv := hvN; clear hvN)
    | ((with_reducible refine at_store (T := 23) ?_); refine wl_stc rfl b2 2 rfl (.slice ao6 n6 cap6) rfl _ (hv.vars.row (by first | exact .head _ | exact .tail _ (.head _) | exact .tail _ (.tail _ (.head _)) | exact .tail _ (.tail _ (.tail _ (.head _))) | exact .tail _ (.tail _ (.tail _ (.tail _ (.head _)))) | exact .tail _ (.tail _ (.tail _ (.tail _ (.tail _ (.head _))))) | exact .tail _ (.tail _ (.tail _ (.tail _ (.tail _ (.tail _ (.head _)))))) | exact .tail _ (.tail _ (.tail _ (.tail _ (.tail _ (.tail _ (.tail _ (.head _))))))))) (hv.vars.sft (by first | exact .head _ | exact .tail _ (.head _) | exact .tail _ (.tail _ (.head _)) | exact .tail _ (.tail _ (.tail _ (.head _))) | exact .tail _ (.tail _ (.tail _ (.tail _ (.head _)))) | exact .tail _ (.tail _ (.tail _ (.tail _ (.tail _ (.head _))))) | exact .tail _ (.tail _ (.tail _ (.tail _ (.tail _ (.tail _ (.head _)))))) | exact .tail _ (.tail _ (.tail _ (.tail _ (.tail _ (.tail _ (.tail _ (.head _))))))))) (by kernel_rfl) rfl (by simp) ?_; intro w2 hw2; (first | (replace hv := hv.set 0 rfl hw2) | (replace hv := hv.set 1 rfl hw2) | (replace hv := hv.set 2 rfl hw2) | (replace hv := hv.set 3 rfl hw2)); clear hw2; simp only [List.set] at hv; simp only [List.setIfInBounds_toArray, List.set_cons_succ, List.set_cons_zero] at hv)
    | ((with_reducible refine at_load (T := 28) ?_); refine wl_ldv rfl b2 rfl _ (hv.vars.row (by first | exact .head _ | exact .tail _ (.head _) | exact .tail _ (.tail _ (.head _)) | exact .tail _ (.tail _ (.tail _ (.head _))) | exact .tail _ (.tail _ (.tail _ (.tail _ (.head _)))) | exact .tail _ (.tail _ (.tail _ (.tail _ (.tail _ (.head _))))) | exact .tail _ (.tail _ (.tail _ (.tail _ (.tail _ (.tail _ (.head _)))))) | exact .tail _ (.tail _ (.tail _ (.tail _ (.tail _ (.tail _ (.tail _ (.head _))))))))) 7 _ Tryz.underlying28 rfl infoT (by decide) rfl ?_)
    | ((with_reducible refine at_store (T := 28) ?_); refine wl_stv rfl b4 rfl _ rfl _ (hv.vars.row (by first | exact .head _ | exact .tail _ (.head _) | exact .tail _ (.tail _ (.head _)) | exact .tail _ (.tail _ (.tail _ (.head _))) | exact .tail _ (.tail _ (.tail _ (.tail _ (.head _)))) | exact .tail _ (.tail _ (.tail _ (.tail _ (.tail _ (.head _))))) | exact .tail _ (.tail _ (.tail _ (.tail _ (.tail _ (.tail _ (.head _)))))) | exact .tail _ (.tail _ (.tail _ (.tail _ (.tail _ (.tail _ (.tail _ (.head _))))))))) (hv.vars.sft (by first | exact .head _ | exact .tail _ (.head _) | exact .tail _ (.tail _ (.head _)) | exact .tail _ (.tail _ (.tail _ (.head _))) | exact .tail _ (.tail _ (.tail _ (.tail _ (.head _)))) | exact .tail _ (.tail _ (.tail _ (.tail _ (.tail _ (.head _))))) | exact .tail _ (.tail _ (.tail _ (.tail _ (.tail _ (.tail _ (.head _)))))) | exact .tail _ (.tail _ (.tail _ (.tail _ (.tail _ (.tail _ (.tail _ (.head _))))))))) 7 infoT rfl rfl (by simp [Value.oneCell']) ?_; intro w2 hw2; (first | (replace hv := hv.set 0 rfl hw2) | (replace hv := hv.set 1 rfl hw2) | (replace hv := hv.set 2 rfl hw2) | (replace hv := hv.set 3 rfl hw2)); clear hw2; simp only [List.set] at hv))
  rw [Nat.mul_one] at hv
  refine ret_cell3 Tryz.results12 rfl (read_row _ b4 28 _ (hv.vars.row (by first | exact .head _ | exact .tail _ (.head _) | exact .tail _ (.tail _ (.head _)) | exact .tail _ (.tail _ (.tail _ (.head _))) | exact .tail _ (.tail _ (.tail _ (.tail _ (.head _)))) | exact .tail _ (.tail _ (.tail _ (.tail _ (.tail _ (.head _))))) | exact .tail _ (.tail _ (.tail _ (.tail _ (.tail _ (.tail _ (.head _)))))) | exact .tail _ (.tail _ (.tail _ (.tail _ (.tail _ (.tail _ (.tail _ (.head _))))))))) 7 _ Tryz.underlying28 rfl infoT (by decide) rfl) rfl rfl rfl ⟨_, _, _, _, _, _, rfl, by rw [cellsU_take, cellsU_drop]; exact (hv.keepR (mem_two Mem.z (Mem.s (Mem.s Mem.z)) (fun y hy => Mem.s (Mem.s (Mem.s (Mem.s hy)))))).drop.drop⟩
end Go.Proofs.YthpodinbbmgfoaaGreat
end

section
/-
  The reference's values of two words, and of one.
-/
set_option linter.unusedVariables false
set_option linter.unusedSimpArgs false
namespace Go.Proofs.YthpodinbbmgfoaaGreat
open Go.Proofs.Ip Go.Proofs.Pt Go.Proofs.Pg Go.RowKit
theorem ret_u2 {a b c : Int} (h : a = b) : Ending.returned (.tuple #[.int .u64 a, .int .i64 c]) = .returned (.tuple #[.int .u64 b, .int .i64 c]) := by rw [h]
theorem Rone_any (b : Bool) (w : World) : Calls Tryz.prog 68 #[.bool b] w fun e w' => e = .returned (.int .u64 (bit b : Nat)) ∧ w = w' := by
  cases b <;>
  · go_enter Tryz.func68, Tryz.ntmps68
    go_wp2
    go_ret
    exact ⟨rfl, rfl⟩
theorem Rmoved_l (x y : Nat) (hx : x < 18446744073709551616) (hy : y < 18446744073709551616) (v : Nat) (hv : v = (x * 2 ^ y % 18446744073709551616 : Nat)) (w : World) : Calls Tryz.prog 73 #[.int .u64 (x : Nat), .int .u64 (y : Nat), .bool true] w fun e w' => e = .returned (.int .u64 ((v : Nat) : Int)) ∧ w = w' := by
  have HV := Lib.hid hv
  clear hv
  have HX := Lib.hid hx
  go_enter Tryz.func73, Tryz.ntmps73
  go_wp2
  go_loopw [0, 7] (fun u i wr => ∃ k : Nat, k ≤ 64 ∧ k ≤ y ∧ i = .int .u64 (k : Nat) ∧ u = .int .u64 ((x * 2 ^ k % 18446744073709551616 : Nat) : Int) ∧ w = wr) (fun _ i _ => 64 - (intOf i).toNat)
  case atStart => exact ⟨0, by omega, by omega, rfl, by (congr 1; simp; exact (Int.emod_eq_of_lt (by omega) (by omega)).symm), rfl⟩
  case round =>
    obtain ⟨k, hk, hky, rfl, rfl, rfl⟩ := hrel
    obtain ⟨z, hz⟩ : ∃ z, x * 2 ^ k % 18446744073709551616 = z := ⟨_, rfl⟩
    rw [hz]
    have HZ := Lib.hid hz
    clear hz
    have hzl : z < 18446744073709551616 := by (rw [← HZ.out]; exact Nat.mod_lt _ (by decide))
    by_cases h1 : k < y
    · have h1i : (k : Int) < (y : Int) := by omega
      by_cases h2 : k < 64
      · have h2i : (k : Int) < 64 := by omega
        clear h1 h2
        go_wp2
        go_roundw
        case rel => exact ⟨k + 1, by omega, by omega, by go_num, by (rw [show x * 2 ^ (k + 1) % 18446744073709551616 = 2 * z % 18446744073709551616 from by rw [Nat.pow_succ, ← Nat.mul_assoc, ← HZ.out]; generalize x * 2 ^ k = t; omega]; first | (rw [IntKind.wrap_u64]; congr 1; omega) | (congr 1; omega) | rfl), by first | rfl | trivial⟩
        case measure => simp [intOf]; omega
      · have h2i : ¬ (k : Int) < 64 := by omega
        go_wp2
        go_ret
        refine ⟨ret_u ?_, rfl⟩
        (congr 1; rw [HV.out, ← HZ.out]; have e : k = 64 := (by omega); subst e; obtain ⟨d, rfl⟩ : ∃ d, y = 64 + d := ⟨y - 64, by omega⟩; rw [Nat.pow_add, ← Nat.mul_assoc, Nat.mul_right_comm]; have h64 : (2 : Nat) ^ 64 = 18446744073709551616 := (by decide); rw [h64, Nat.mul_mod_left, Nat.mul_mod_left])
    · have h1i : ¬ (k : Int) < (y : Int) := by omega
      go_wp2
      go_ret
      refine ⟨ret_u ?_, rfl⟩
      (congr 1; rw [HV.out, ← HZ.out, show k = y from by omega])
theorem Rmoved_r (x y : Nat) (hx : x < 18446744073709551616) (hy : y < 18446744073709551616) (v : Nat) (hv : v = (x / 2 ^ y : Nat)) (w : World) : Calls Tryz.prog 73 #[.int .u64 (x : Nat), .int .u64 (y : Nat), .bool false] w fun e w' => e = .returned (.int .u64 ((v : Nat) : Int)) ∧ w = w' := by
  have HV := Lib.hid hv
  clear hv
  have HX := Lib.hid hx
  go_enter Tryz.func73, Tryz.ntmps73
  go_wp2
  go_loopw [0, 7] (fun u i wr => ∃ k : Nat, k ≤ 64 ∧ k ≤ y ∧ i = .int .u64 (k : Nat) ∧ u = .int .u64 ((x / 2 ^ k : Nat) : Int) ∧ w = wr) (fun _ i _ => 64 - (intOf i).toNat)
  case atStart => exact ⟨0, by omega, by omega, rfl, by (congr 1; simp), rfl⟩
  case round =>
    obtain ⟨k, hk, hky, rfl, rfl, rfl⟩ := hrel
    obtain ⟨z, hz⟩ : ∃ z, x / 2 ^ k = z := ⟨_, rfl⟩
    rw [hz]
    have HZ := Lib.hid hz
    clear hz
    have hzl : z < 18446744073709551616 := by (rw [← HZ.out]; exact Nat.lt_of_le_of_lt (Nat.div_le_self _ _) HX.out)
    by_cases h1 : k < y
    · have h1i : (k : Int) < (y : Int) := by omega
      by_cases h2 : k < 64
      · have h2i : (k : Int) < 64 := by omega
        clear h1 h2
        go_wp2
        go_roundw
        case rel => exact ⟨k + 1, by omega, by omega, by go_num, by (rw [show x / 2 ^ (k + 1) = z / 2 from by rw [Nat.pow_succ, ← Nat.div_div_eq_div_mul, HZ.out]]; first | (rw [IntKind.wrap_u64]; congr 1; omega) | (congr 1; omega) | rfl), by first | rfl | trivial⟩
        case measure => simp [intOf]; omega
      · have h2i : ¬ (k : Int) < 64 := by omega
        go_wp2
        go_ret
        refine ⟨ret_u ?_, rfl⟩
        (congr 1; rw [HV.out, ← HZ.out]; have e : k = 64 := (by omega); subst e; have h64 : (2 : Nat) ^ 64 = 18446744073709551616 := (by decide); have h2 : (2 : Nat) ^ 64 ≤ 2 ^ y := Nat.pow_le_pow_right (by omega) (by omega); have := HX.out; rw [Nat.div_eq_of_lt (by omega), Nat.div_eq_of_lt (by omega)])
    · have h1i : ¬ (k : Int) < (y : Int) := by omega
      go_wp2
      go_ret
      refine ⟨ret_u ?_, rfl⟩
      (congr 1; rw [HV.out, ← HZ.out, show k = y from by omega])
theorem RP_26 (x y : Nat) (hx : x < 18446744073709551616) (hy : y < 18446744073709551616) (w : World) : Calls Tryz.prog 74 #[.int .i64 26, .int .u64 (x : Nat), .int .u64 (y : Nat)] w fun e w' => e = .returned (.int .u64 ((opF .add x y : Nat) : Int)) ∧ New w w' := by
  go_enter Tryz.func74, Tryz.ntmps74
  go_wp2_with (first
    | (go_at_call 92; (with_reducible refine (RAdd_any _ _ _).mono ?_); rintro e w1 ⟨n1, rfl, rfl⟩))
  go_ret
  exact ⟨rfl, drewN_new rfl⟩
theorem RP_27 (x y : Nat) (hx : x < 18446744073709551616) (hy : y < 18446744073709551616) (w : World) : Calls Tryz.prog 74 #[.int .i64 27, .int .u64 (x : Nat), .int .u64 (y : Nat)] w fun e w' => e = .returned (.int .u64 ((opF .sub x y : Nat) : Int)) ∧ New w w' := by
  go_enter Tryz.func74, Tryz.ntmps74
  go_wp2_with (first
    | (go_at_call 93; (with_reducible refine (RSub_any _ _ _).mono ?_); rintro e w1 ⟨n1, rfl, rfl⟩))
  go_ret
  exact ⟨rfl, drewN_new rfl⟩
theorem RP_28 (x y : Nat) (hx : x < 18446744073709551616) (hy : y < 18446744073709551616) (w : World) : Calls Tryz.prog 74 #[.int .i64 28, .int .u64 (x : Nat), .int .u64 (y : Nat)] w fun e w' => e = .returned (.int .u64 ((opF .mul x y : Nat) : Int)) ∧ New w w' := by
  go_enter Tryz.func74, Tryz.ntmps74
  go_wp2_with (first
    | (go_at_call 94; (with_reducible refine (RMul_any _ _ _).mono ?_); rintro e w1 ⟨n1, rfl, rfl⟩))
  go_ret
  exact ⟨rfl, drewN_new rfl⟩
theorem RP_29 (x y : Nat) (hx : x < 18446744073709551616) (hy : y < 18446744073709551616) (w : World) : Calls Tryz.prog 74 #[.int .i64 29, .int .u64 (x : Nat), .int .u64 (y : Nat)] w fun e w' => e = .returned (.int .u64 ((opF .quo x y : Nat) : Int)) ∧ New w w' := by
  go_enter Tryz.func74, Tryz.ntmps74
  go_wp2_with (first
    | (go_at_call 95; (with_reducible refine (RDiv_any _ _ _).mono ?_); rintro e w1 ⟨n1, rfl, rfl⟩))
  go_ret
  exact ⟨rfl, drewN_new rfl⟩
theorem RP_30 (x y : Nat) (hx : x < 18446744073709551616) (hy : y < 18446744073709551616) (w : World) : Calls Tryz.prog 74 #[.int .i64 30, .int .u64 (x : Nat), .int .u64 (y : Nat)] w fun e w' => e = .returned (.int .u64 ((minF x y : Nat) : Int)) ∧ New w w' := by
  go_enter Tryz.func74, Tryz.ntmps74
  go_wp2_with (first
    | (go_at_call 96; (with_reducible refine (RMin_any _ _ hx hy _).mono ?_); rintro e w1 ⟨rfl, rfl⟩))
  go_ret
  exact ⟨rfl, same_new rfl⟩
theorem RP_31 (x y : Nat) (hx : x < 18446744073709551616) (hy : y < 18446744073709551616) (w : World) : Calls Tryz.prog 74 #[.int .i64 31, .int .u64 (x : Nat), .int .u64 (y : Nat)] w fun e w' => e = .returned (.int .u64 ((maxF x y : Nat) : Int)) ∧ New w w' := by
  go_enter Tryz.func74, Tryz.ntmps74
  go_wp2_with (first
    | (go_at_call 97; (with_reducible refine (RMax_any _ _ hx hy _).mono ?_); rintro e w1 ⟨rfl, rfl⟩))
  go_ret
  exact ⟨rfl, same_new rfl⟩
theorem RP_32 (x y : Nat) (hx : x < 18446744073709551616) (hy : y < 18446744073709551616) (w : World) : Calls Tryz.prog 74 #[.int .i64 32, .int .u64 (x : Nat), .int .u64 (y : Nat)] w fun e w' => e = .returned (.int .u64 ((bit (ltF x y) : Nat) : Int)) ∧ New w w' := by
  go_enter Tryz.func74, Tryz.ntmps74
  go_wp2_with (first
    | (go_at_call 98; (with_reducible refine (RLess_any _ _ hx hy _).mono ?_); rintro e w1 ⟨rfl, rfl⟩)
    | (go_at_call 68; (with_reducible refine (Rone_any _ _).mono ?_); rintro e w1 ⟨rfl, rfl⟩))
  go_ret
  exact ⟨rfl, same_new rfl⟩
theorem RP_33 (x y : Nat) (hx : x < 18446744073709551616) (hy : y < 18446744073709551616) (w : World) : Calls Tryz.prog 74 #[.int .i64 33, .int .u64 (x : Nat), .int .u64 (y : Nat)] w fun e w' => e = .returned (.int .u64 ((bit (eqF x y) : Nat) : Int)) ∧ New w w' := by
  go_enter Tryz.func74, Tryz.ntmps74
  go_wp2_with (first
    | (go_at_call 99; (with_reducible refine (REqual_any _ _ hx hy _).mono ?_); rintro e w1 ⟨rfl, rfl⟩)
    | (go_at_call 68; (with_reducible refine (Rone_any _ _).mono ?_); rintro e w1 ⟨rfl, rfl⟩))
  go_ret
  exact ⟨rfl, same_new rfl⟩
theorem RW_6 (x y : Nat) (hx : x < 18446744073709551616) (hy : y < 18446744073709551616) (w : World) : Calls Tryz.prog 34 #[.int .i64 6, .int .u64 (x : Nat), .int .u64 (y : Nat)] w fun e w' => e = .returned (.tuple #[.int .u64 (((x + y) % 18446744073709551616 : Nat) : Int), .int .i64 0]) ∧ New w w' := by
  go_enter Tryz.func34, Tryz.ntmps34
  go_wp2
  go_ret2
  refine ⟨ret_u2 ?_, same_new rfl⟩
  rw [IntKind.wrap_u64]; omega
theorem RW_7 (x y : Nat) (hx : x < 18446744073709551616) (hy : y < 18446744073709551616) (w : World) : Calls Tryz.prog 34 #[.int .i64 7, .int .u64 (x : Nat), .int .u64 (y : Nat)] w fun e w' => e = .returned (.tuple #[.int .u64 (((x + (18446744073709551616 - y)) % 18446744073709551616 : Nat) : Int), .int .i64 0]) ∧ New w w' := by
  go_enter Tryz.func34, Tryz.ntmps34
  go_wp2
  go_ret2
  refine ⟨ret_u2 ?_, same_new rfl⟩
  rw [IntKind.wrap_u64]; omega
theorem RW_8 (x y : Nat) (hx : x < 18446744073709551616) (hy : y < 18446744073709551616) (w : World) : Calls Tryz.prog 34 #[.int .i64 8, .int .u64 (x : Nat), .int .u64 (y : Nat)] w fun e w' => e = .returned (.tuple #[.int .u64 ((x * y % 18446744073709551616 : Nat) : Int), .int .i64 0]) ∧ New w w' := by
  go_enter Tryz.func34, Tryz.ntmps34
  go_wp2
  go_ret2
  refine ⟨ret_u2 ?_, same_new rfl⟩
  rw [IntKind.wrap_u64, Int.natCast_emod, Int.natCast_mul]; rfl
theorem RW_9 (x y : Nat) (hx : x < 18446744073709551616) (hy : y < 18446744073709551616) (h0 : y ≠ 0) (w : World) : Calls Tryz.prog 34 #[.int .i64 9, .int .u64 (x : Nat), .int .u64 (y : Nat)] w fun e w' => e = .returned (.tuple #[.int .u64 ((x / y : Nat) : Int), .int .i64 0]) ∧ New w w' := by
  have h0i : ¬ (y : Int) = 0 := by omega
  have h0b : ((y : Int) == 0) = false := by rw [beq_eq_false_iff_ne]; omega
  go_enter Tryz.func34, Tryz.ntmps34
  go_wp2
  go_ret2
  refine ⟨ret_u2 ?_, same_new rfl⟩
  have h := Nat.div_le_self x y
  rw [← Int.natCast_ediv, IntKind.wrap_u64]
  generalize x / y = z at *
  omega
theorem RW_10 (x y : Nat) (hx : x < 18446744073709551616) (hy : y < 18446744073709551616) (h0 : y ≠ 0) (w : World) : Calls Tryz.prog 34 #[.int .i64 10, .int .u64 (x : Nat), .int .u64 (y : Nat)] w fun e w' => e = .returned (.tuple #[.int .u64 ((x % y : Nat) : Int), .int .i64 0]) ∧ New w w' := by
  have h0i : ¬ (y : Int) = 0 := by omega
  have h0b : ((y : Int) == 0) = false := by rw [beq_eq_false_iff_ne]; omega
  go_enter Tryz.func34, Tryz.ntmps34
  go_wp2
  go_ret2
  refine ⟨ret_u2 ?_, same_new rfl⟩
  exact (Int.natCast_emod x y).symm
theorem RW_11 (x y : Nat) (hx : x < 18446744073709551616) (hy : y < 18446744073709551616) (w : World) : Calls Tryz.prog 34 #[.int .i64 11, .int .u64 (x : Nat), .int .u64 (y : Nat)] w fun e w' => e = .returned (.tuple #[.int .u64 ((x &&& y : Nat) : Int), .int .i64 0]) ∧ New w w' := by
  go_enter Tryz.func34, Tryz.ntmps34
  go_wp2
  go_ret2
  refine ⟨ret_u2 ?_, same_new rfl⟩
  exact bits_and_u64_nat x y hx hy
theorem RW_12 (x y : Nat) (hx : x < 18446744073709551616) (hy : y < 18446744073709551616) (w : World) : Calls Tryz.prog 34 #[.int .i64 12, .int .u64 (x : Nat), .int .u64 (y : Nat)] w fun e w' => e = .returned (.tuple #[.int .u64 ((x ||| y : Nat) : Int), .int .i64 0]) ∧ New w w' := by
  go_enter Tryz.func34, Tryz.ntmps34
  go_wp2
  go_ret2
  refine ⟨ret_u2 ?_, same_new rfl⟩
  exact bits_or_u64_nat x y hx hy
theorem RW_13 (x y : Nat) (hx : x < 18446744073709551616) (hy : y < 18446744073709551616) (w : World) : Calls Tryz.prog 34 #[.int .i64 13, .int .u64 (x : Nat), .int .u64 (y : Nat)] w fun e w' => e = .returned (.tuple #[.int .u64 ((x ^^^ y : Nat) : Int), .int .i64 0]) ∧ New w w' := by
  go_enter Tryz.func34, Tryz.ntmps34
  go_wp2
  go_ret2
  refine ⟨ret_u2 ?_, same_new rfl⟩
  exact bits_xor_u64_nat x y hx hy
theorem RW_14 (x y : Nat) (hx : x < 18446744073709551616) (hy : y < 18446744073709551616) (w : World) : Calls Tryz.prog 34 #[.int .i64 14, .int .u64 (x : Nat), .int .u64 (y : Nat)] w fun e w' => e = .returned (.tuple #[.int .u64 ((x * 2 ^ y % 18446744073709551616 : Nat) : Int), .int .i64 0]) ∧ New w w' := by
  go_enter Tryz.func34, Tryz.ntmps34
  go_wp2_with (first
    | (go_at_call 73; (with_reducible refine (Rmoved_l _ _ hx hy _ rfl _).mono ?_); rintro e w1 ⟨rfl, rfl⟩))
  go_ret2
  exact ⟨rfl, same_new rfl⟩
theorem RW_15 (x y : Nat) (hx : x < 18446744073709551616) (hy : y < 18446744073709551616) (w : World) : Calls Tryz.prog 34 #[.int .i64 15, .int .u64 (x : Nat), .int .u64 (y : Nat)] w fun e w' => e = .returned (.tuple #[.int .u64 ((x / 2 ^ y : Nat) : Int), .int .i64 0]) ∧ New w w' := by
  go_enter Tryz.func34, Tryz.ntmps34
  go_wp2_with (first
    | (go_at_call 73; (with_reducible refine (Rmoved_r _ _ hx hy _ rfl _).mono ?_); rintro e w1 ⟨rfl, rfl⟩))
  go_ret2
  exact ⟨rfl, same_new rfl⟩
theorem RW_16 (x y : Nat) (hx : x < 18446744073709551616) (hy : y < 18446744073709551616) (w : World) : Calls Tryz.prog 34 #[.int .i64 16, .int .u64 (x : Nat), .int .u64 (y : Nat)] w fun e w' => e = .returned (.tuple #[.int .u64 ((bit (decide (x = y)) : Nat) : Int), .int .i64 0]) ∧ New w w' := by
  have hb : ((x : Int) == (y : Int)) = decide (x = y) := by
    by_cases h : x = y
    · subst h; simp
    · rw [decide_eq_false h, beq_eq_false_iff_ne]; omega
  go_enter Tryz.func34, Tryz.ntmps34
  go_wp2_with (first
    | (go_at_call 68; (with_reducible refine (Rone_any _ _).mono ?_); rintro e w1 ⟨rfl, rfl⟩))
  go_ret2
  refine ⟨ret_u2 ?_, same_new rfl⟩
  first | rfl | (rw [hb])
theorem RW_17 (x y : Nat) (hx : x < 18446744073709551616) (hy : y < 18446744073709551616) (w : World) : Calls Tryz.prog 34 #[.int .i64 17, .int .u64 (x : Nat), .int .u64 (y : Nat)] w fun e w' => e = .returned (.tuple #[.int .u64 ((bit (decide (x < y)) : Nat) : Int), .int .i64 0]) ∧ New w w' := by
  have hb : decide ((x : Int) < (y : Int)) = decide (x < y) := decide_eq_decide.2 (by omega)
  go_enter Tryz.func34, Tryz.ntmps34
  go_wp2_with (first
    | (go_at_call 68; (with_reducible refine (Rone_any _ _).mono ?_); rintro e w1 ⟨rfl, rfl⟩))
  go_ret2
  refine ⟨ret_u2 ?_, same_new rfl⟩
  first | rfl | (rw [hb])
theorem RW_18 (x y : Nat) (hx : x < 18446744073709551616) (hy : y < 18446744073709551616) (w : World) : Calls Tryz.prog 34 #[.int .i64 18, .int .u64 (x : Nat), .int .u64 (y : Nat)] w fun e w' => e = .returned (.tuple #[.int .u64 ((bit (decide (wrap64 (x : Int) < wrap64 (y : Int))) : Nat) : Int), .int .i64 0]) ∧ New w w' := by
  go_enter Tryz.func34, Tryz.ntmps34
  go_wp2_with (first
    | (go_at_call 68; (with_reducible refine (Rone_any _ _).mono ?_); rintro e w1 ⟨rfl, rfl⟩))
  go_ret2
  refine ⟨ret_u2 ?_, same_new rfl⟩
  first | rfl | (rw [hb])
theorem RWz_9 (x : Nat) (w : World) : Calls Tryz.prog 34 #[.int .i64 9, .int .u64 (x : Nat), .int .u64 0] w fun e w' => e = .returned (.tuple #[.int .u64 0, .int .i64 301]) ∧ New w w' := by
  go_enter Tryz.func34, Tryz.ntmps34
  go_wp2
  go_ret2
  exact ⟨rfl, same_new rfl⟩
theorem RWz_10 (x : Nat) (w : World) : Calls Tryz.prog 34 #[.int .i64 10, .int .u64 (x : Nat), .int .u64 0] w fun e w' => e = .returned (.tuple #[.int .u64 0, .int .i64 301]) ∧ New w w' := by
  go_enter Tryz.func34, Tryz.ntmps34
  go_wp2
  go_ret2
  exact ⟨rfl, same_new rfl⟩
theorem RW_26 (x y : Nat) (hx : x < 18446744073709551616) (hy : y < 18446744073709551616) (w : World) : Calls Tryz.prog 34 #[.int .i64 26, .int .u64 (x : Nat), .int .u64 (y : Nat)] w fun e w' => e = .returned (.tuple #[.int .u64 ((opF .add x y : Nat) : Int), .int .i64 0]) ∧ New w w' := by
  go_enter Tryz.func34, Tryz.ntmps34
  go_wp2_with (go_at_call 74; (with_reducible refine (RP_26 _ _ hx hy _).mono ?_); rintro e w1 ⟨rfl, hn1⟩)
  go_ret2
  exact ⟨rfl, hn1⟩
theorem RW_27 (x y : Nat) (hx : x < 18446744073709551616) (hy : y < 18446744073709551616) (w : World) : Calls Tryz.prog 34 #[.int .i64 27, .int .u64 (x : Nat), .int .u64 (y : Nat)] w fun e w' => e = .returned (.tuple #[.int .u64 ((opF .sub x y : Nat) : Int), .int .i64 0]) ∧ New w w' := by
  go_enter Tryz.func34, Tryz.ntmps34
  go_wp2_with (go_at_call 74; (with_reducible refine (RP_27 _ _ hx hy _).mono ?_); rintro e w1 ⟨rfl, hn1⟩)
  go_ret2
  exact ⟨rfl, hn1⟩
theorem RW_28 (x y : Nat) (hx : x < 18446744073709551616) (hy : y < 18446744073709551616) (w : World) : Calls Tryz.prog 34 #[.int .i64 28, .int .u64 (x : Nat), .int .u64 (y : Nat)] w fun e w' => e = .returned (.tuple #[.int .u64 ((opF .mul x y : Nat) : Int), .int .i64 0]) ∧ New w w' := by
  go_enter Tryz.func34, Tryz.ntmps34
  go_wp2_with (go_at_call 74; (with_reducible refine (RP_28 _ _ hx hy _).mono ?_); rintro e w1 ⟨rfl, hn1⟩)
  go_ret2
  exact ⟨rfl, hn1⟩
theorem RW_29 (x y : Nat) (hx : x < 18446744073709551616) (hy : y < 18446744073709551616) (w : World) : Calls Tryz.prog 34 #[.int .i64 29, .int .u64 (x : Nat), .int .u64 (y : Nat)] w fun e w' => e = .returned (.tuple #[.int .u64 ((opF .quo x y : Nat) : Int), .int .i64 0]) ∧ New w w' := by
  go_enter Tryz.func34, Tryz.ntmps34
  go_wp2_with (go_at_call 74; (with_reducible refine (RP_29 _ _ hx hy _).mono ?_); rintro e w1 ⟨rfl, hn1⟩)
  go_ret2
  exact ⟨rfl, hn1⟩
theorem RW_30 (x y : Nat) (hx : x < 18446744073709551616) (hy : y < 18446744073709551616) (w : World) : Calls Tryz.prog 34 #[.int .i64 30, .int .u64 (x : Nat), .int .u64 (y : Nat)] w fun e w' => e = .returned (.tuple #[.int .u64 ((minF x y : Nat) : Int), .int .i64 0]) ∧ New w w' := by
  go_enter Tryz.func34, Tryz.ntmps34
  go_wp2_with (go_at_call 74; (with_reducible refine (RP_30 _ _ hx hy _).mono ?_); rintro e w1 ⟨rfl, hn1⟩)
  go_ret2
  exact ⟨rfl, hn1⟩
theorem RW_31 (x y : Nat) (hx : x < 18446744073709551616) (hy : y < 18446744073709551616) (w : World) : Calls Tryz.prog 34 #[.int .i64 31, .int .u64 (x : Nat), .int .u64 (y : Nat)] w fun e w' => e = .returned (.tuple #[.int .u64 ((maxF x y : Nat) : Int), .int .i64 0]) ∧ New w w' := by
  go_enter Tryz.func34, Tryz.ntmps34
  go_wp2_with (go_at_call 74; (with_reducible refine (RP_31 _ _ hx hy _).mono ?_); rintro e w1 ⟨rfl, hn1⟩)
  go_ret2
  exact ⟨rfl, hn1⟩
theorem RW_32 (x y : Nat) (hx : x < 18446744073709551616) (hy : y < 18446744073709551616) (w : World) : Calls Tryz.prog 34 #[.int .i64 32, .int .u64 (x : Nat), .int .u64 (y : Nat)] w fun e w' => e = .returned (.tuple #[.int .u64 ((bit (ltF x y) : Nat) : Int), .int .i64 0]) ∧ New w w' := by
  go_enter Tryz.func34, Tryz.ntmps34
  go_wp2_with (go_at_call 74; (with_reducible refine (RP_32 _ _ hx hy _).mono ?_); rintro e w1 ⟨rfl, hn1⟩)
  go_ret2
  exact ⟨rfl, hn1⟩
theorem RW_33 (x y : Nat) (hx : x < 18446744073709551616) (hy : y < 18446744073709551616) (w : World) : Calls Tryz.prog 34 #[.int .i64 33, .int .u64 (x : Nat), .int .u64 (y : Nat)] w fun e w' => e = .returned (.tuple #[.int .u64 ((bit (eqF x y) : Nat) : Int), .int .i64 0]) ∧ New w w' := by
  go_enter Tryz.func34, Tryz.ntmps34
  go_wp2_with (go_at_call 74; (with_reducible refine (RP_33 _ _ hx hy _).mono ?_); rintro e w1 ⟨rfl, hn1⟩)
  go_ret2
  exact ⟨rfl, hn1⟩
theorem RWhole_any (op : Int) (h : isTwo op = true) (x y : Nat) (hx : x < 18446744073709551616) (hy : y < 18446744073709551616) (hz : (op = 9 ∨ op = 10) → y ≠ 0) (w : World) : Calls Tryz.prog 34 #[.int .i64 op, .int .u64 (x : Nat), .int .u64 (y : Nat)] w fun e w' => e = .returned (.tuple #[.int .u64 ((twoF op x y : Nat) : Int), .int .i64 0]) ∧ New w w' := by
  have hr : op = 6 ∨ op = 7 ∨ op = 8 ∨ op = 9 ∨ op = 10 ∨ op = 11 ∨ op = 12 ∨ op = 13 ∨ op = 14 ∨ op = 15 ∨ op = 16 ∨ op = 17 ∨ op = 18 ∨ op = 26 ∨ op = 27 ∨ op = 28 ∨ op = 29 ∨ op = 30 ∨ op = 31 ∨ op = 32 ∨ op = 33 := by
    unfold isTwo at h
    simp only [Bool.or_eq_true, Bool.and_eq_true, decide_eq_true_eq] at h
    omega
  rcases hr with rfl | rfl | rfl | rfl | rfl | rfl | rfl | rfl | rfl | rfl | rfl | rfl | rfl | rfl | rfl | rfl | rfl | rfl | rfl | rfl | rfl
  · rw [show twoF 6 x y = (x + y) % 18446744073709551616 from by unfold Ip.twoF; rw [if_pos rfl]]
    exact RW_6 x y hx hy w
  · rw [show twoF 7 x y = (x + (18446744073709551616 - y)) % 18446744073709551616 from by unfold Ip.twoF; rw [if_neg (by decide), if_pos rfl]]
    exact RW_7 x y hx hy w
  · rw [show twoF 8 x y = x * y % 18446744073709551616 from by unfold Ip.twoF; rw [if_neg (by decide), if_neg (by decide), if_pos rfl]]
    exact RW_8 x y hx hy w
  · rw [show twoF 9 x y = x / y from by unfold Ip.twoF; rw [if_neg (by decide), if_neg (by decide), if_neg (by decide), if_pos rfl]]
    exact RW_9 x y hx hy (hz (by omega)) w
  · rw [show twoF 10 x y = x % y from by unfold Ip.twoF; rw [if_neg (by decide), if_neg (by decide), if_neg (by decide), if_neg (by decide), if_pos rfl]]
    exact RW_10 x y hx hy (hz (by omega)) w
  · rw [show twoF 11 x y = x &&& y from by unfold Ip.twoF; rw [if_neg (by decide), if_neg (by decide), if_neg (by decide), if_neg (by decide), if_neg (by decide), if_pos rfl]]
    exact RW_11 x y hx hy w
  · rw [show twoF 12 x y = x ||| y from by unfold Ip.twoF; rw [if_neg (by decide), if_neg (by decide), if_neg (by decide), if_neg (by decide), if_neg (by decide), if_neg (by decide), if_pos rfl]]
    exact RW_12 x y hx hy w
  · rw [show twoF 13 x y = x ^^^ y from by unfold Ip.twoF; rw [if_neg (by decide), if_neg (by decide), if_neg (by decide), if_neg (by decide), if_neg (by decide), if_neg (by decide), if_neg (by decide), if_pos rfl]]
    exact RW_13 x y hx hy w
  · rw [show twoF 14 x y = x * 2 ^ y % 18446744073709551616 from by unfold Ip.twoF; rw [if_neg (by decide), if_neg (by decide), if_neg (by decide), if_neg (by decide), if_neg (by decide), if_neg (by decide), if_neg (by decide), if_neg (by decide), if_pos rfl]]
    exact RW_14 x y hx hy w
  · rw [show twoF 15 x y = x / 2 ^ y from by unfold Ip.twoF; rw [if_neg (by decide), if_neg (by decide), if_neg (by decide), if_neg (by decide), if_neg (by decide), if_neg (by decide), if_neg (by decide), if_neg (by decide), if_neg (by decide), if_pos rfl]]
    exact RW_15 x y hx hy w
  · rw [show twoF 16 x y = bit (decide (x = y)) from by unfold Ip.twoF; rw [if_neg (by decide), if_neg (by decide), if_neg (by decide), if_neg (by decide), if_neg (by decide), if_neg (by decide), if_neg (by decide), if_neg (by decide), if_neg (by decide), if_neg (by decide), if_pos rfl]]
    exact RW_16 x y hx hy w
  · rw [show twoF 17 x y = bit (decide (x < y)) from by unfold Ip.twoF; rw [if_neg (by decide), if_neg (by decide), if_neg (by decide), if_neg (by decide), if_neg (by decide), if_neg (by decide), if_neg (by decide), if_neg (by decide), if_neg (by decide), if_neg (by decide), if_neg (by decide), if_pos rfl]]
    exact RW_17 x y hx hy w
  · rw [show twoF 18 x y = bit (decide (wrap64 (x : Int) < wrap64 (y : Int))) from by unfold Ip.twoF; rw [if_neg (by decide), if_neg (by decide), if_neg (by decide), if_neg (by decide), if_neg (by decide), if_neg (by decide), if_neg (by decide), if_neg (by decide), if_neg (by decide), if_neg (by decide), if_neg (by decide), if_neg (by decide), if_pos rfl]]
    exact RW_18 x y hx hy w
  · rw [show twoF 26 x y = opF .add x y from by unfold Ip.twoF; rw [if_neg (by decide), if_neg (by decide), if_neg (by decide), if_neg (by decide), if_neg (by decide), if_neg (by decide), if_neg (by decide), if_neg (by decide), if_neg (by decide), if_neg (by decide), if_neg (by decide), if_neg (by decide), if_neg (by decide), if_pos rfl]]
    exact RW_26 x y hx hy w
  · rw [show twoF 27 x y = opF .sub x y from by unfold Ip.twoF; rw [if_neg (by decide), if_neg (by decide), if_neg (by decide), if_neg (by decide), if_neg (by decide), if_neg (by decide), if_neg (by decide), if_neg (by decide), if_neg (by decide), if_neg (by decide), if_neg (by decide), if_neg (by decide), if_neg (by decide), if_neg (by decide), if_pos rfl]]
    exact RW_27 x y hx hy w
  · rw [show twoF 28 x y = opF .mul x y from by unfold Ip.twoF; rw [if_neg (by decide), if_neg (by decide), if_neg (by decide), if_neg (by decide), if_neg (by decide), if_neg (by decide), if_neg (by decide), if_neg (by decide), if_neg (by decide), if_neg (by decide), if_neg (by decide), if_neg (by decide), if_neg (by decide), if_neg (by decide), if_neg (by decide), if_pos rfl]]
    exact RW_28 x y hx hy w
  · rw [show twoF 29 x y = opF .quo x y from by unfold Ip.twoF; rw [if_neg (by decide), if_neg (by decide), if_neg (by decide), if_neg (by decide), if_neg (by decide), if_neg (by decide), if_neg (by decide), if_neg (by decide), if_neg (by decide), if_neg (by decide), if_neg (by decide), if_neg (by decide), if_neg (by decide), if_neg (by decide), if_neg (by decide), if_neg (by decide), if_pos rfl]]
    exact RW_29 x y hx hy w
  · rw [show twoF 30 x y = minF x y from by unfold Ip.twoF; rw [if_neg (by decide), if_neg (by decide), if_neg (by decide), if_neg (by decide), if_neg (by decide), if_neg (by decide), if_neg (by decide), if_neg (by decide), if_neg (by decide), if_neg (by decide), if_neg (by decide), if_neg (by decide), if_neg (by decide), if_neg (by decide), if_neg (by decide), if_neg (by decide), if_neg (by decide), if_pos rfl]]
    exact RW_30 x y hx hy w
  · rw [show twoF 31 x y = maxF x y from by unfold Ip.twoF; rw [if_neg (by decide), if_neg (by decide), if_neg (by decide), if_neg (by decide), if_neg (by decide), if_neg (by decide), if_neg (by decide), if_neg (by decide), if_neg (by decide), if_neg (by decide), if_neg (by decide), if_neg (by decide), if_neg (by decide), if_neg (by decide), if_neg (by decide), if_neg (by decide), if_neg (by decide), if_neg (by decide), if_pos rfl]]
    exact RW_31 x y hx hy w
  · rw [show twoF 32 x y = bit (ltF x y) from by unfold Ip.twoF; rw [if_neg (by decide), if_neg (by decide), if_neg (by decide), if_neg (by decide), if_neg (by decide), if_neg (by decide), if_neg (by decide), if_neg (by decide), if_neg (by decide), if_neg (by decide), if_neg (by decide), if_neg (by decide), if_neg (by decide), if_neg (by decide), if_neg (by decide), if_neg (by decide), if_neg (by decide), if_neg (by decide), if_neg (by decide), if_pos rfl]]
    exact RW_32 x y hx hy w
  · rw [show twoF 33 x y = bit (eqF x y) from by unfold Ip.twoF; rw [if_neg (by decide), if_neg (by decide), if_neg (by decide), if_neg (by decide), if_neg (by decide), if_neg (by decide), if_neg (by decide), if_neg (by decide), if_neg (by decide), if_neg (by decide), if_neg (by decide), if_neg (by decide), if_neg (by decide), if_neg (by decide), if_neg (by decide), if_neg (by decide), if_neg (by decide), if_neg (by decide), if_neg (by decide), if_neg (by decide)]]
    exact RW_33 x y hx hy w
theorem RS_19 (x : Nat) (hx : x < 18446744073709551616) (b : Nat → Bool) (q : Nat → Nat → Nat) (w : World) : Calls Tryz.prog 33 #[.int .i64 19, .int .u64 (x : Nat), .agg (pg b q)] w fun e w' => e = .returned (.tuple #[.int .u64 ((bit (decide (x = 0)) : Nat) : Int), .int .i64 0]) ∧ New w w' := by
  have hb : ((x : Int) == 0) = decide (x = 0) := by
    by_cases h : x = 0
    · subst h; simp
    · rw [decide_eq_false h, beq_eq_false_iff_ne]; omega
  have hv := Mem.nil w
  go_enter Tryz.func33, Tryz.ntmps33
  go_wp2_with (first
    | ((with_reducible refine at_box (T := 32)  ?_); refine wl_newb rfl (pg b q) 32 (fun _ => rfl) ?_; intro b9 w2 hm2; replace hv := hv.madeAt hm2; clear hm2)
    | (go_at_call 68; (with_reducible refine (Rone_any _ _).mono ?_); rintro e w1 ⟨rfl, rfl⟩))
  go_ret2
  refine ⟨ret_u2 ?_, hv.below⟩
  first | rfl | (rw [hb])
theorem RS_34 (x : Nat) (hx : x < 18446744073709551616) (b : Nat → Bool) (q : Nat → Nat → Nat) (w : World) : Calls Tryz.prog 33 #[.int .i64 34, .int .u64 (x : Nat), .agg (pg b q)] w fun e w' => e = .returned (.tuple #[.int .u64 ((negF x : Nat) : Int), .int .i64 0]) ∧ New w w' := by
  have hv := Mem.nil w
  go_enter Tryz.func33, Tryz.ntmps33
  go_wp2_with (first
    | ((with_reducible refine at_box (T := 32)  ?_); refine wl_newb rfl (pg b q) 32 (fun _ => rfl) ?_; intro b9 w2 hm2; replace hv := hv.madeAt hm2; clear hm2)
    | (go_at_call 70; (with_reducible refine (RNeg_any _ hx _).mono ?_); rintro e w1 ⟨rfl, rfl⟩))
  go_ret2
  exact ⟨rfl, hv.below⟩
theorem RS_35 (x : Nat) (hx : x < 18446744073709551616) (b : Nat → Bool) (q : Nat → Nat → Nat) (w : World) : Calls Tryz.prog 33 #[.int .i64 35, .int .u64 (x : Nat), .agg (pg b q)] w fun e w' => e = .returned (.tuple #[.int .u64 ((fromI (IntKind.i64.wrap (x : Int)) : Nat) : Int), .int .i64 0]) ∧ New w w' := by
  have hv := Mem.nil w
  go_enter Tryz.func33, Tryz.ntmps33
  go_wp2_with (first
    | ((with_reducible refine at_box (T := 32)  ?_); refine wl_newb rfl (pg b q) 32 (fun _ => rfl) ?_; intro b9 w2 hm2; replace hv := hv.madeAt hm2; clear hm2)
    | (go_at_call 71; (with_reducible refine (RFromInt_any _ _).mono ?_); rintro e w1 ⟨rfl, rfl⟩))
  go_ret2
  exact ⟨rfl, hv.below⟩
theorem RS_36 (x : Nat) (hx : x < 18446744073709551616) (b : Nat → Bool) (q : Nat → Nat → Nat) (w : World) : Calls Tryz.prog 33 #[.int .i64 36, .int .u64 (x : Nat), .agg (pg b q)] w fun e w' => e = .returned (.tuple #[.int .u64 ((toW x : Nat) : Int), .int .i64 0]) ∧ New w w' := by
  have hv := Mem.nil w
  go_enter Tryz.func33, Tryz.ntmps33
  go_wp2_with (first
    | ((with_reducible refine at_box (T := 32)  ?_); refine wl_newb rfl (pg b q) 32 (fun _ => rfl) ?_; intro b9 w2 hm2; replace hv := hv.madeAt hm2; clear hm2)
    | (go_at_call 72; (with_reducible refine (RToInt_any _ hx _).mono ?_); rintro e w1 ⟨rfl, rfl⟩))
  go_ret2
  exact ⟨rfl, hv.below⟩
theorem RS_24 (x : Nat) (hx : x < 18446744073709551616) (b : Nat → Bool) (q : Nat → Nat → Nat) (w : World) : Calls Tryz.prog 33 #[.int .i64 24, .int .u64 (x : Nat), .agg (pg b q)] w fun e w' => e = .returned (.tuple #[.int .u64 ((loadV b q x : Nat) : Int), .int .i64 (loadE b x)]) ∧ New w w' := by
  have hv := Mem.nil w
  go_enter Tryz.func33, Tryz.ntmps33
  go_wp2_with (first
    | ((with_reducible refine at_box (T := 32)  ?_); refine wl_newb rfl (pg b q) 32 (fun _ => rfl) ?_; intro b9 w2 hm2; replace hv := hv.madeAt hm2; clear hm2)
    | ((with_reducible refine at_load (T := 32) ?_); refine wl_ldv rfl b9 rfl _ (hv.vars.row (by first | exact .head _ | exact .tail _ (.head _) | exact .tail _ (.tail _ (.head _)) | exact .tail _ (.tail _ (.tail _ (.head _))) | exact .tail _ (.tail _ (.tail _ (.tail _ (.head _)))) | exact .tail _ (.tail _ (.tail _ (.tail _ (.tail _ (.head _))))) | exact .tail _ (.tail _ (.tail _ (.tail _ (.tail _ (.tail _ (.head _)))))) | exact .tail _ (.tail _ (.tail _ (.tail _ (.tail _ (.tail _ (.tail _ (.head _))))))))) 144 _ Tryz.underlying32 rfl infoPs (by decide) (size_pg _ _) ?_)
    | (go_at_call 69; (with_reducible refine (RLoad_any _ _ _ _).mono ?_); rintro e w1 ⟨rfl, hn1⟩; replace hv := hv.new hn1; clear hn1))
  go_ret2
  exact ⟨rfl, hv.below⟩
theorem RSingle_any (op : Int) (h : isOne op = true) (x : Nat) (hx : x < 18446744073709551616) (b : Nat → Bool) (q : Nat → Nat → Nat) (w : World) : Calls Tryz.prog 33 #[.int .i64 op, .int .u64 (x : Nat), .agg (pg b q)] w fun e w' => e = .returned (.tuple #[.int .u64 ((Ip.oneF op x : Nat) : Int), .int .i64 0]) ∧ New w w' := by
  have hr : op = 19 ∨ op = 34 ∨ op = 35 ∨ op = 36 := by
    unfold isOne at h
    simp only [Bool.or_eq_true, beq_iff_eq] at h
    omega
  rcases hr with rfl | rfl | rfl | rfl
  · rw [show Ip.oneF 19 x = bit (decide (x = 0)) from by unfold Ip.oneF; rw [if_pos rfl]]
    exact RS_19 x hx b q w
  · rw [show Ip.oneF 34 x = negF x from by unfold Ip.oneF; rw [if_neg (by decide), if_pos rfl]]
    exact RS_34 x hx b q w
  · rw [show Ip.oneF 35 x = fromI (IntKind.i64.wrap (x : Int)) from by unfold Ip.oneF; rw [if_neg (by decide), if_neg (by decide), if_pos rfl]]
    exact RS_35 x hx b q w
  · rw [show Ip.oneF 36 x = toW x from by unfold Ip.oneF; rw [if_neg (by decide), if_neg (by decide), if_neg (by decide)]]
    exact RS_36 x hx b q w
end Go.Proofs.YthpodinbbmgfoaaGreat
end

section
/-
  The reference's goes.
-/
set_option linter.unusedVariables false
set_option linter.unusedSimpArgs false
namespace Go.Proofs.YthpodinbbmgfoaaGreat
open Go.Proofs.Ip Go.Proofs.Pt Go.Proofs.Pg Go.Proofs.Cd Go.RowKit
/-- What goes answers: a thread, a number, whether it is one that goes. -/
def GoesR (w0 : World) (L : List (Nat × Array Value)) (R : List (Nat × Value × List Value)) (st sk er : Int) (wk : Nat) (sv : Value) (pc : Int) (C : List Int) (n : Int) (e : Ending) (w' : World) : Prop :=
  ∃ ra rn rcp, e = .returned (.tuple #[.agg #[.int .i64 st, .int .i64 pc, sv, .slice ra rn rcp, .int .u64 (wk : Nat), .int .i64 sk, .int .i64 er], .int .i64 n, .bool true]) ∧ Mem w0 w' L ((1, .slice ra rn rcp, cellsN C) :: R)
set_option maxRecDepth 100000 in
set_option maxHeartbeats 4000000 in
theorem goes_0 (st pc sk er : Int) (wk : Nat) (sa ca : Option Addr) (sn sc cn cc : Nat) (C : List Int) (arg : Nat) (w0 w : World) (L : List (Nat × Array Value)) (R : List (Nat × Value × List Value)) (hv0 : Mem w0 w L R) (hc : (1, .slice ca cn cc, cellsN C) ∈ R) : Calls Tryz.prog 18 #[.agg #[.int .i64 0, .int .u64 (arg : Nat)], .agg #[.int .i64 st, .int .i64 pc, .slice sa sn sc, .slice ca cn cc, .int .u64 (wk : Nat), .int .i64 sk, .int .i64 er]] w (GoesR w0 L R st sk er wk (.slice sa sn sc) pc C 310) := by
  have hv := hv0
  have HC := Lib.hid hc
  clear hv0 hc
  go_enter Tryz.func18, Tryz.ntmps18
  go_wp2_with (first
    | ((with_reducible refine at_box (T := 48) (dst := some 2) ?_); refine wl_newb rfl #[.int .i64 0, .int .u64 (arg : Nat)] 48 (fun _ => rfl) ?_; intro b2 w2 hm2; replace hv := hv.madeAt hm2; clear hm2)
    | ((with_reducible refine at_box (T := 28) (dst := some 3) ?_); refine wl_newb rfl #[.int .i64 st, .int .i64 pc, .slice sa sn sc, .slice ca cn cc, .int .u64 (wk : Nat), .int .i64 sk, .int .i64 er] 28 (fun _ => rfl) ?_; intro b3 w2 hm2; replace hv := hv.madeAt hm2; clear hm2)
    | ((with_reducible refine at_alloc (T := 28) (dst := some 4) ?_); refine wl_newb rfl #[.int .i64 0, .int .i64 0, .slice none 0 0, .slice none 0 0, .int .u64 0, .int .i64 0, .int .i64 0] 28 (fun _ => rfl) ?_; intro b4 w2 hm2; replace hv := hv.madeAt hm2; clear hm2)
    | ((with_reducible refine at_load (T := 3) ?_); refine wl_ldc rfl _ _ rfl _ (hv.vars.row (by first | exact .head _ | exact .tail _ (.head _) | exact .tail _ (.tail _ (.head _)) | exact .tail _ (.tail _ (.tail _ (.head _))) | exact .tail _ (.tail _ (.tail _ (.tail _ (.head _)))) | exact .tail _ (.tail _ (.tail _ (.tail _ (.tail _ (.head _))))) | exact .tail _ (.tail _ (.tail _ (.tail _ (.tail _ (.tail _ (.head _)))))) | exact .tail _ (.tail _ (.tail _ (.tail _ (.tail _ (.tail _ (.tail _ (.head _))))))))) _ Tryz.underlying3 rfl _ rfl ?_)
    | ((with_reducible refine at_load (T := 28) ?_); refine wl_ldv rfl b3 rfl _ (hv.vars.row (by first | exact .head _ | exact .tail _ (.head _) | exact .tail _ (.tail _ (.head _)) | exact .tail _ (.tail _ (.tail _ (.head _))) | exact .tail _ (.tail _ (.tail _ (.tail _ (.head _)))) | exact .tail _ (.tail _ (.tail _ (.tail _ (.tail _ (.head _))))) | exact .tail _ (.tail _ (.tail _ (.tail _ (.tail _ (.tail _ (.head _)))))) | exact .tail _ (.tail _ (.tail _ (.tail _ (.tail _ (.tail _ (.tail _ (.head _))))))))) 7 _ Tryz.underlying28 rfl infoT (by decide) rfl ?_)
    | ((with_reducible refine at_store (T := 28) ?_); refine wl_stv rfl b4 rfl _ rfl _ (hv.vars.row (by first | exact .head _ | exact .tail _ (.head _) | exact .tail _ (.tail _ (.head _)) | exact .tail _ (.tail _ (.tail _ (.head _))) | exact .tail _ (.tail _ (.tail _ (.tail _ (.head _)))) | exact .tail _ (.tail _ (.tail _ (.tail _ (.tail _ (.head _))))) | exact .tail _ (.tail _ (.tail _ (.tail _ (.tail _ (.tail _ (.head _)))))) | exact .tail _ (.tail _ (.tail _ (.tail _ (.tail _ (.tail _ (.tail _ (.head _))))))))) (hv.vars.sft (by first | exact .head _ | exact .tail _ (.head _) | exact .tail _ (.tail _ (.head _)) | exact .tail _ (.tail _ (.tail _ (.head _))) | exact .tail _ (.tail _ (.tail _ (.tail _ (.head _)))) | exact .tail _ (.tail _ (.tail _ (.tail _ (.tail _ (.head _))))) | exact .tail _ (.tail _ (.tail _ (.tail _ (.tail _ (.tail _ (.head _)))))) | exact .tail _ (.tail _ (.tail _ (.tail _ (.tail _ (.tail _ (.tail _ (.head _))))))))) 7 infoT rfl rfl (by simp [Value.oneCell']) ?_; intro w2 hw2; (first | (replace hv := hv.set 0 rfl hw2) | (replace hv := hv.set 1 rfl hw2) | (replace hv := hv.set 2 rfl hw2) | (replace hv := hv.set 3 rfl hw2)); clear hw2; simp only [List.set] at hv))
  refine ret_cell3 Tryz.results18 rfl (read_row _ b4 28 _ (hv.vars.row (by first | exact .head _ | exact .tail _ (.head _) | exact .tail _ (.tail _ (.head _)) | exact .tail _ (.tail _ (.tail _ (.head _))) | exact .tail _ (.tail _ (.tail _ (.tail _ (.head _)))) | exact .tail _ (.tail _ (.tail _ (.tail _ (.tail _ (.head _))))) | exact .tail _ (.tail _ (.tail _ (.tail _ (.tail _ (.tail _ (.head _)))))) | exact .tail _ (.tail _ (.tail _ (.tail _ (.tail _ (.tail _ (.tail _ (.head _))))))))) 7 _ Tryz.underlying28 rfl infoT (by decide) rfl) rfl rfl rfl ⟨_, _, _, rfl, hv.drop.drop.drop.keepR (fun y hy => (List.mem_cons.1 hy).elim (fun e => e ▸ HC.out) id)⟩
set_option maxRecDepth 100000 in
set_option maxHeartbeats 4000000 in
theorem goes_37 (st pc sk er : Int) (wk : Nat) (sa ca : Option Addr) (sn sc cn cc : Nat) (C : List Int) (arg : Nat) (w0 w : World) (L : List (Nat × Array Value)) (R : List (Nat × Value × List Value)) (hv0 : Mem w0 w L R) (hc : (1, .slice ca cn cc, cellsN C) ∈ R) : Calls Tryz.prog 18 #[.agg #[.int .i64 37, .int .u64 (arg : Nat)], .agg #[.int .i64 st, .int .i64 pc, .slice sa sn sc, .slice ca cn cc, .int .u64 (wk : Nat), .int .i64 sk, .int .i64 er]] w (GoesR w0 L R st sk er wk (.slice sa sn sc) pc C 302) := by
  have hv := hv0
  have HC := Lib.hid hc
  clear hv0 hc
  go_enter Tryz.func18, Tryz.ntmps18
  go_wp2_with (first
    | ((with_reducible refine at_box (T := 48) (dst := some 2) ?_); refine wl_newb rfl #[.int .i64 37, .int .u64 (arg : Nat)] 48 (fun _ => rfl) ?_; intro b2 w2 hm2; replace hv := hv.madeAt hm2; clear hm2)
    | ((with_reducible refine at_box (T := 28) (dst := some 3) ?_); refine wl_newb rfl #[.int .i64 st, .int .i64 pc, .slice sa sn sc, .slice ca cn cc, .int .u64 (wk : Nat), .int .i64 sk, .int .i64 er] 28 (fun _ => rfl) ?_; intro b3 w2 hm2; replace hv := hv.madeAt hm2; clear hm2)
    | ((with_reducible refine at_alloc (T := 28) (dst := some 4) ?_); refine wl_newb rfl #[.int .i64 0, .int .i64 0, .slice none 0 0, .slice none 0 0, .int .u64 0, .int .i64 0, .int .i64 0] 28 (fun _ => rfl) ?_; intro b4 w2 hm2; replace hv := hv.madeAt hm2; clear hm2)
    | ((with_reducible refine at_load (T := 3) ?_); refine wl_ldc rfl _ _ rfl _ (hv.vars.row (by first | exact .head _ | exact .tail _ (.head _) | exact .tail _ (.tail _ (.head _)) | exact .tail _ (.tail _ (.tail _ (.head _))) | exact .tail _ (.tail _ (.tail _ (.tail _ (.head _)))) | exact .tail _ (.tail _ (.tail _ (.tail _ (.tail _ (.head _))))) | exact .tail _ (.tail _ (.tail _ (.tail _ (.tail _ (.tail _ (.head _)))))) | exact .tail _ (.tail _ (.tail _ (.tail _ (.tail _ (.tail _ (.tail _ (.head _))))))))) _ Tryz.underlying3 rfl _ rfl ?_)
    | ((with_reducible refine at_load (T := 28) ?_); refine wl_ldv rfl b3 rfl _ (hv.vars.row (by first | exact .head _ | exact .tail _ (.head _) | exact .tail _ (.tail _ (.head _)) | exact .tail _ (.tail _ (.tail _ (.head _))) | exact .tail _ (.tail _ (.tail _ (.tail _ (.head _)))) | exact .tail _ (.tail _ (.tail _ (.tail _ (.tail _ (.head _))))) | exact .tail _ (.tail _ (.tail _ (.tail _ (.tail _ (.tail _ (.head _)))))) | exact .tail _ (.tail _ (.tail _ (.tail _ (.tail _ (.tail _ (.tail _ (.head _))))))))) 7 _ Tryz.underlying28 rfl infoT (by decide) rfl ?_)
    | ((with_reducible refine at_store (T := 28) ?_); refine wl_stv rfl b4 rfl _ rfl _ (hv.vars.row (by first | exact .head _ | exact .tail _ (.head _) | exact .tail _ (.tail _ (.head _)) | exact .tail _ (.tail _ (.tail _ (.head _))) | exact .tail _ (.tail _ (.tail _ (.tail _ (.head _)))) | exact .tail _ (.tail _ (.tail _ (.tail _ (.tail _ (.head _))))) | exact .tail _ (.tail _ (.tail _ (.tail _ (.tail _ (.tail _ (.head _)))))) | exact .tail _ (.tail _ (.tail _ (.tail _ (.tail _ (.tail _ (.tail _ (.head _))))))))) (hv.vars.sft (by first | exact .head _ | exact .tail _ (.head _) | exact .tail _ (.tail _ (.head _)) | exact .tail _ (.tail _ (.tail _ (.head _))) | exact .tail _ (.tail _ (.tail _ (.tail _ (.head _)))) | exact .tail _ (.tail _ (.tail _ (.tail _ (.tail _ (.head _))))) | exact .tail _ (.tail _ (.tail _ (.tail _ (.tail _ (.tail _ (.head _)))))) | exact .tail _ (.tail _ (.tail _ (.tail _ (.tail _ (.tail _ (.tail _ (.head _))))))))) 7 infoT rfl rfl (by simp [Value.oneCell']) ?_; intro w2 hw2; (first | (replace hv := hv.set 0 rfl hw2) | (replace hv := hv.set 1 rfl hw2) | (replace hv := hv.set 2 rfl hw2) | (replace hv := hv.set 3 rfl hw2)); clear hw2; simp only [List.set] at hv))
  refine ret_cell3 Tryz.results18 rfl (read_row _ b4 28 _ (hv.vars.row (by first | exact .head _ | exact .tail _ (.head _) | exact .tail _ (.tail _ (.head _)) | exact .tail _ (.tail _ (.tail _ (.head _))) | exact .tail _ (.tail _ (.tail _ (.tail _ (.head _)))) | exact .tail _ (.tail _ (.tail _ (.tail _ (.tail _ (.head _))))) | exact .tail _ (.tail _ (.tail _ (.tail _ (.tail _ (.tail _ (.head _)))))) | exact .tail _ (.tail _ (.tail _ (.tail _ (.tail _ (.tail _ (.tail _ (.head _))))))))) 7 _ Tryz.underlying28 rfl infoT (by decide) rfl) rfl rfl rfl ⟨_, _, _, rfl, hv.drop.drop.drop.keepR (fun y hy => (List.mem_cons.1 hy).elim (fun e => e ▸ HC.out) id)⟩
set_option maxRecDepth 100000 in
set_option maxHeartbeats 4000000 in
theorem goes_20 (st pc sk er : Int) (wk : Nat) (sa ca : Option Addr) (sn sc cn cc : Nat) (C : List Int) (arg : Nat) (w0 w : World) (L : List (Nat × Array Value)) (R : List (Nat × Value × List Value)) (hv0 : Mem w0 w L R) (hc : (1, .slice ca cn cc, cellsN C) ∈ R) (ha : arg < 9223372036854775808) : Calls Tryz.prog 18 #[.agg #[.int .i64 20, .int .u64 (arg : Nat)], .agg #[.int .i64 st, .int .i64 pc, .slice sa sn sc, .slice ca cn cc, .int .u64 (wk : Nat), .int .i64 sk, .int .i64 er]] w (GoesR w0 L R st sk er wk (.slice sa sn sc) (arg : Nat) C 0) := by
  have hv := hv0
  have HC := Lib.hid hc
  have qw : IntKind.i64.wrap (arg : Int) = (arg : Int) := IntWalk.i64_in _ (by omega)
  clear ha
  clear hv0 hc
  go_enter Tryz.func18, Tryz.ntmps18
  go_wp2_with (first
    | ((with_reducible refine at_box (T := 48) (dst := some 2) ?_); refine wl_newb rfl #[.int .i64 20, .int .u64 (arg : Nat)] 48 (fun _ => rfl) ?_; intro b2 w2 hm2; replace hv := hv.madeAt hm2; clear hm2)
    | ((with_reducible refine at_box (T := 28) (dst := some 3) ?_); refine wl_newb rfl #[.int .i64 st, .int .i64 pc, .slice sa sn sc, .slice ca cn cc, .int .u64 (wk : Nat), .int .i64 sk, .int .i64 er] 28 (fun _ => rfl) ?_; intro b3 w2 hm2; replace hv := hv.madeAt hm2; clear hm2)
    | ((with_reducible refine at_alloc (T := 28) (dst := some 4) ?_); refine wl_newb rfl #[.int .i64 0, .int .i64 0, .slice none 0 0, .slice none 0 0, .int .u64 0, .int .i64 0, .int .i64 0] 28 (fun _ => rfl) ?_; intro b4 w2 hm2; replace hv := hv.madeAt hm2; clear hm2)
    | ((with_reducible refine at_load (T := 3) ?_); refine wl_ldc rfl _ _ rfl _ (hv.vars.row (by first | exact .head _ | exact .tail _ (.head _) | exact .tail _ (.tail _ (.head _)) | exact .tail _ (.tail _ (.tail _ (.head _))) | exact .tail _ (.tail _ (.tail _ (.tail _ (.head _)))) | exact .tail _ (.tail _ (.tail _ (.tail _ (.tail _ (.head _))))) | exact .tail _ (.tail _ (.tail _ (.tail _ (.tail _ (.tail _ (.head _)))))) | exact .tail _ (.tail _ (.tail _ (.tail _ (.tail _ (.tail _ (.tail _ (.head _))))))))) _ Tryz.underlying3 rfl _ rfl ?_)
    | ((with_reducible refine at_load (T := 25) ?_); refine wl_ldc rfl _ _ rfl _ (hv.vars.row (by first | exact .head _ | exact .tail _ (.head _) | exact .tail _ (.tail _ (.head _)) | exact .tail _ (.tail _ (.tail _ (.head _))) | exact .tail _ (.tail _ (.tail _ (.tail _ (.head _)))) | exact .tail _ (.tail _ (.tail _ (.tail _ (.tail _ (.head _))))) | exact .tail _ (.tail _ (.tail _ (.tail _ (.tail _ (.tail _ (.head _)))))) | exact .tail _ (.tail _ (.tail _ (.tail _ (.tail _ (.tail _ (.tail _ (.head _))))))))) _ Tryz.underlying25 rfl _ rfl ?_)
    | ((with_reducible refine at_store (T := 3) ?_); refine wl_stc rfl b3 1 rfl (.int .i64 (arg : Int)) rfl _ (hv.vars.row (by first | exact .head _ | exact .tail _ (.head _) | exact .tail _ (.tail _ (.head _)) | exact .tail _ (.tail _ (.tail _ (.head _))) | exact .tail _ (.tail _ (.tail _ (.tail _ (.head _)))) | exact .tail _ (.tail _ (.tail _ (.tail _ (.tail _ (.head _))))) | exact .tail _ (.tail _ (.tail _ (.tail _ (.tail _ (.tail _ (.head _)))))) | exact .tail _ (.tail _ (.tail _ (.tail _ (.tail _ (.tail _ (.tail _ (.head _))))))))) (hv.vars.sft (by first | exact .head _ | exact .tail _ (.head _) | exact .tail _ (.tail _ (.head _)) | exact .tail _ (.tail _ (.tail _ (.head _))) | exact .tail _ (.tail _ (.tail _ (.tail _ (.head _)))) | exact .tail _ (.tail _ (.tail _ (.tail _ (.tail _ (.head _))))) | exact .tail _ (.tail _ (.tail _ (.tail _ (.tail _ (.tail _ (.head _)))))) | exact .tail _ (.tail _ (.tail _ (.tail _ (.tail _ (.tail _ (.tail _ (.head _))))))))) (by kernel_rfl) rfl (by simp) ?_; intro w2 hw2; (first | (replace hv := hv.set 0 rfl hw2) | (replace hv := hv.set 1 rfl hw2) | (replace hv := hv.set 2 rfl hw2) | (replace hv := hv.set 3 rfl hw2)); clear hw2; simp only [List.set] at hv; simp only [List.setIfInBounds_toArray, List.set_cons_succ, List.set_cons_zero] at hv)
    | ((with_reducible refine at_load (T := 28) ?_); refine wl_ldv rfl b3 rfl _ (hv.vars.row (by first | exact .head _ | exact .tail _ (.head _) | exact .tail _ (.tail _ (.head _)) | exact .tail _ (.tail _ (.tail _ (.head _))) | exact .tail _ (.tail _ (.tail _ (.tail _ (.head _)))) | exact .tail _ (.tail _ (.tail _ (.tail _ (.tail _ (.head _))))) | exact .tail _ (.tail _ (.tail _ (.tail _ (.tail _ (.tail _ (.head _)))))) | exact .tail _ (.tail _ (.tail _ (.tail _ (.tail _ (.tail _ (.tail _ (.head _))))))))) 7 _ Tryz.underlying28 rfl infoT (by decide) rfl ?_)
    | ((with_reducible refine at_store (T := 28) ?_); refine wl_stv rfl b4 rfl _ rfl _ (hv.vars.row (by first | exact .head _ | exact .tail _ (.head _) | exact .tail _ (.tail _ (.head _)) | exact .tail _ (.tail _ (.tail _ (.head _))) | exact .tail _ (.tail _ (.tail _ (.tail _ (.head _)))) | exact .tail _ (.tail _ (.tail _ (.tail _ (.tail _ (.head _))))) | exact .tail _ (.tail _ (.tail _ (.tail _ (.tail _ (.tail _ (.head _)))))) | exact .tail _ (.tail _ (.tail _ (.tail _ (.tail _ (.tail _ (.tail _ (.head _))))))))) (hv.vars.sft (by first | exact .head _ | exact .tail _ (.head _) | exact .tail _ (.tail _ (.head _)) | exact .tail _ (.tail _ (.tail _ (.head _))) | exact .tail _ (.tail _ (.tail _ (.tail _ (.head _)))) | exact .tail _ (.tail _ (.tail _ (.tail _ (.tail _ (.head _))))) | exact .tail _ (.tail _ (.tail _ (.tail _ (.tail _ (.tail _ (.head _)))))) | exact .tail _ (.tail _ (.tail _ (.tail _ (.tail _ (.tail _ (.tail _ (.head _))))))))) 7 infoT rfl rfl (by simp [Value.oneCell']) ?_; intro w2 hw2; (first | (replace hv := hv.set 0 rfl hw2) | (replace hv := hv.set 1 rfl hw2) | (replace hv := hv.set 2 rfl hw2) | (replace hv := hv.set 3 rfl hw2)); clear hw2; simp only [List.set] at hv))
  refine ret_cell3 Tryz.results18 rfl (read_row _ b4 28 _ (hv.vars.row (by first | exact .head _ | exact .tail _ (.head _) | exact .tail _ (.tail _ (.head _)) | exact .tail _ (.tail _ (.tail _ (.head _))) | exact .tail _ (.tail _ (.tail _ (.tail _ (.head _)))) | exact .tail _ (.tail _ (.tail _ (.tail _ (.tail _ (.head _))))) | exact .tail _ (.tail _ (.tail _ (.tail _ (.tail _ (.tail _ (.head _)))))) | exact .tail _ (.tail _ (.tail _ (.tail _ (.tail _ (.tail _ (.tail _ (.head _))))))))) 7 _ Tryz.underlying28 rfl infoT (by decide) rfl) rfl rfl rfl ⟨_, _, _, rfl, hv.drop.drop.drop.keepR (fun y hy => (List.mem_cons.1 hy).elim (fun e => e ▸ HC.out) id)⟩
set_option maxRecDepth 100000 in
set_option maxHeartbeats 4000000 in
theorem goes_22n (st pc sk er : Int) (wk : Nat) (sa ca : Option Addr) (sn sc cn cc : Nat) (C : List Int) (arg : Nat) (w0 w : World) (L : List (Nat × Array Value)) (R : List (Nat × Value × List Value)) (hv0 : Mem w0 w L R) (hc : (1, .slice ca cn cc, cellsN C) ∈ R) (hn : 16 ≤ cn) : Calls Tryz.prog 18 #[.agg #[.int .i64 22, .int .u64 (arg : Nat)], .agg #[.int .i64 st, .int .i64 pc, .slice sa sn sc, .slice ca cn cc, .int .u64 (wk : Nat), .int .i64 sk, .int .i64 er]] w (GoesR w0 L R st sk er wk (.slice sa sn sc) pc C 300) := by
  have hv := hv0
  have HC := Lib.hid hc
  have q : (16 : Int) ≤ (cn : Int) := by omega
  clear hn
  clear hv0 hc
  go_enter Tryz.func18, Tryz.ntmps18
  go_wp2_with (first
    | ((with_reducible refine at_box (T := 48) (dst := some 2) ?_); refine wl_newb rfl #[.int .i64 22, .int .u64 (arg : Nat)] 48 (fun _ => rfl) ?_; intro b2 w2 hm2; replace hv := hv.madeAt hm2; clear hm2)
    | ((with_reducible refine at_box (T := 28) (dst := some 3) ?_); refine wl_newb rfl #[.int .i64 st, .int .i64 pc, .slice sa sn sc, .slice ca cn cc, .int .u64 (wk : Nat), .int .i64 sk, .int .i64 er] 28 (fun _ => rfl) ?_; intro b3 w2 hm2; replace hv := hv.madeAt hm2; clear hm2)
    | ((with_reducible refine at_alloc (T := 28) (dst := some 4) ?_); refine wl_newb rfl #[.int .i64 0, .int .i64 0, .slice none 0 0, .slice none 0 0, .int .u64 0, .int .i64 0, .int .i64 0] 28 (fun _ => rfl) ?_; intro b4 w2 hm2; replace hv := hv.madeAt hm2; clear hm2)
    | ((with_reducible refine at_load (T := 3) ?_); refine wl_ldc rfl _ _ rfl _ (hv.vars.row (by first | exact .head _ | exact .tail _ (.head _) | exact .tail _ (.tail _ (.head _)) | exact .tail _ (.tail _ (.tail _ (.head _))) | exact .tail _ (.tail _ (.tail _ (.tail _ (.head _)))) | exact .tail _ (.tail _ (.tail _ (.tail _ (.tail _ (.head _))))) | exact .tail _ (.tail _ (.tail _ (.tail _ (.tail _ (.tail _ (.head _)))))) | exact .tail _ (.tail _ (.tail _ (.tail _ (.tail _ (.tail _ (.tail _ (.head _))))))))) _ Tryz.underlying3 rfl _ rfl ?_)
    | ((with_reducible refine at_load (T := 24) ?_); refine wl_ldc rfl _ _ rfl _ (hv.vars.row (by first | exact .head _ | exact .tail _ (.head _) | exact .tail _ (.tail _ (.head _)) | exact .tail _ (.tail _ (.tail _ (.head _))) | exact .tail _ (.tail _ (.tail _ (.tail _ (.head _)))) | exact .tail _ (.tail _ (.tail _ (.tail _ (.tail _ (.head _))))) | exact .tail _ (.tail _ (.tail _ (.tail _ (.tail _ (.tail _ (.head _)))))) | exact .tail _ (.tail _ (.tail _ (.tail _ (.tail _ (.tail _ (.tail _ (.head _))))))))) _ Tryz.underlying24 rfl _ rfl ?_)
    | ((with_reducible refine at_load (T := 28) ?_); refine wl_ldv rfl b3 rfl _ (hv.vars.row (by first | exact .head _ | exact .tail _ (.head _) | exact .tail _ (.tail _ (.head _)) | exact .tail _ (.tail _ (.tail _ (.head _))) | exact .tail _ (.tail _ (.tail _ (.tail _ (.head _)))) | exact .tail _ (.tail _ (.tail _ (.tail _ (.tail _ (.head _))))) | exact .tail _ (.tail _ (.tail _ (.tail _ (.tail _ (.tail _ (.head _)))))) | exact .tail _ (.tail _ (.tail _ (.tail _ (.tail _ (.tail _ (.tail _ (.head _))))))))) 7 _ Tryz.underlying28 rfl infoT (by decide) rfl ?_)
    | ((with_reducible refine at_store (T := 28) ?_); refine wl_stv rfl b4 rfl _ rfl _ (hv.vars.row (by first | exact .head _ | exact .tail _ (.head _) | exact .tail _ (.tail _ (.head _)) | exact .tail _ (.tail _ (.tail _ (.head _))) | exact .tail _ (.tail _ (.tail _ (.tail _ (.head _)))) | exact .tail _ (.tail _ (.tail _ (.tail _ (.tail _ (.head _))))) | exact .tail _ (.tail _ (.tail _ (.tail _ (.tail _ (.tail _ (.head _)))))) | exact .tail _ (.tail _ (.tail _ (.tail _ (.tail _ (.tail _ (.tail _ (.head _))))))))) (hv.vars.sft (by first | exact .head _ | exact .tail _ (.head _) | exact .tail _ (.tail _ (.head _)) | exact .tail _ (.tail _ (.tail _ (.head _))) | exact .tail _ (.tail _ (.tail _ (.tail _ (.head _)))) | exact .tail _ (.tail _ (.tail _ (.tail _ (.tail _ (.head _))))) | exact .tail _ (.tail _ (.tail _ (.tail _ (.tail _ (.tail _ (.head _)))))) | exact .tail _ (.tail _ (.tail _ (.tail _ (.tail _ (.tail _ (.tail _ (.head _))))))))) 7 infoT rfl rfl (by simp [Value.oneCell']) ?_; intro w2 hw2; (first | (replace hv := hv.set 0 rfl hw2) | (replace hv := hv.set 1 rfl hw2) | (replace hv := hv.set 2 rfl hw2) | (replace hv := hv.set 3 rfl hw2)); clear hw2; simp only [List.set] at hv))
  refine ret_cell3 Tryz.results18 rfl (read_row _ b4 28 _ (hv.vars.row (by first | exact .head _ | exact .tail _ (.head _) | exact .tail _ (.tail _ (.head _)) | exact .tail _ (.tail _ (.tail _ (.head _))) | exact .tail _ (.tail _ (.tail _ (.tail _ (.head _)))) | exact .tail _ (.tail _ (.tail _ (.tail _ (.tail _ (.head _))))) | exact .tail _ (.tail _ (.tail _ (.tail _ (.tail _ (.tail _ (.head _)))))) | exact .tail _ (.tail _ (.tail _ (.tail _ (.tail _ (.tail _ (.tail _ (.head _))))))))) 7 _ Tryz.underlying28 rfl infoT (by decide) rfl) rfl rfl rfl ⟨_, _, _, rfl, hv.drop.drop.drop.keepR (fun y hy => (List.mem_cons.1 hy).elim (fun e => e ▸ HC.out) id)⟩
set_option maxRecDepth 100000 in
set_option maxHeartbeats 4000000 in
theorem goes_23n (st pc sk er : Int) (wk : Nat) (sa ca : Option Addr) (sn sc cn cc : Nat) (C : List Int) (arg : Nat) (w0 w : World) (L : List (Nat × Array Value)) (R : List (Nat × Value × List Value)) (hv0 : Mem w0 w L R) (hc : (1, .slice ca cn cc, cellsN C) ∈ R) (hn : cn = 0) : Calls Tryz.prog 18 #[.agg #[.int .i64 23, .int .u64 (arg : Nat)], .agg #[.int .i64 st, .int .i64 pc, .slice sa sn sc, .slice ca cn cc, .int .u64 (wk : Nat), .int .i64 sk, .int .i64 er]] w (GoesR w0 L R st sk er wk (.slice sa sn sc) pc C 310) := by
  have hv := hv0
  have HC := Lib.hid hc
  have q : ((cn : Int) == 0) = true := by rw [hn]; rfl
  clear hn
  clear hv0 hc
  go_enter Tryz.func18, Tryz.ntmps18
  go_wp2_with (first
    | ((with_reducible refine at_box (T := 48) (dst := some 2) ?_); refine wl_newb rfl #[.int .i64 23, .int .u64 (arg : Nat)] 48 (fun _ => rfl) ?_; intro b2 w2 hm2; replace hv := hv.madeAt hm2; clear hm2)
    | ((with_reducible refine at_box (T := 28) (dst := some 3) ?_); refine wl_newb rfl #[.int .i64 st, .int .i64 pc, .slice sa sn sc, .slice ca cn cc, .int .u64 (wk : Nat), .int .i64 sk, .int .i64 er] 28 (fun _ => rfl) ?_; intro b3 w2 hm2; replace hv := hv.madeAt hm2; clear hm2)
    | ((with_reducible refine at_alloc (T := 28) (dst := some 4) ?_); refine wl_newb rfl #[.int .i64 0, .int .i64 0, .slice none 0 0, .slice none 0 0, .int .u64 0, .int .i64 0, .int .i64 0] 28 (fun _ => rfl) ?_; intro b4 w2 hm2; replace hv := hv.madeAt hm2; clear hm2)
    | ((with_reducible refine at_load (T := 3) ?_); refine wl_ldc rfl _ _ rfl _ (hv.vars.row (by first | exact .head _ | exact .tail _ (.head _) | exact .tail _ (.tail _ (.head _)) | exact .tail _ (.tail _ (.tail _ (.head _))) | exact .tail _ (.tail _ (.tail _ (.tail _ (.head _)))) | exact .tail _ (.tail _ (.tail _ (.tail _ (.tail _ (.head _))))) | exact .tail _ (.tail _ (.tail _ (.tail _ (.tail _ (.tail _ (.head _)))))) | exact .tail _ (.tail _ (.tail _ (.tail _ (.tail _ (.tail _ (.tail _ (.head _))))))))) _ Tryz.underlying3 rfl _ rfl ?_)
    | ((with_reducible refine at_load (T := 24) ?_); refine wl_ldc rfl _ _ rfl _ (hv.vars.row (by first | exact .head _ | exact .tail _ (.head _) | exact .tail _ (.tail _ (.head _)) | exact .tail _ (.tail _ (.tail _ (.head _))) | exact .tail _ (.tail _ (.tail _ (.tail _ (.head _)))) | exact .tail _ (.tail _ (.tail _ (.tail _ (.tail _ (.head _))))) | exact .tail _ (.tail _ (.tail _ (.tail _ (.tail _ (.tail _ (.head _)))))) | exact .tail _ (.tail _ (.tail _ (.tail _ (.tail _ (.tail _ (.tail _ (.head _))))))))) _ Tryz.underlying24 rfl _ rfl ?_)
    | ((with_reducible refine at_load (T := 28) ?_); refine wl_ldv rfl b3 rfl _ (hv.vars.row (by first | exact .head _ | exact .tail _ (.head _) | exact .tail _ (.tail _ (.head _)) | exact .tail _ (.tail _ (.tail _ (.head _))) | exact .tail _ (.tail _ (.tail _ (.tail _ (.head _)))) | exact .tail _ (.tail _ (.tail _ (.tail _ (.tail _ (.head _))))) | exact .tail _ (.tail _ (.tail _ (.tail _ (.tail _ (.tail _ (.head _)))))) | exact .tail _ (.tail _ (.tail _ (.tail _ (.tail _ (.tail _ (.tail _ (.head _))))))))) 7 _ Tryz.underlying28 rfl infoT (by decide) rfl ?_)
    | ((with_reducible refine at_store (T := 28) ?_); refine wl_stv rfl b4 rfl _ rfl _ (hv.vars.row (by first | exact .head _ | exact .tail _ (.head _) | exact .tail _ (.tail _ (.head _)) | exact .tail _ (.tail _ (.tail _ (.head _))) | exact .tail _ (.tail _ (.tail _ (.tail _ (.head _)))) | exact .tail _ (.tail _ (.tail _ (.tail _ (.tail _ (.head _))))) | exact .tail _ (.tail _ (.tail _ (.tail _ (.tail _ (.tail _ (.head _)))))) | exact .tail _ (.tail _ (.tail _ (.tail _ (.tail _ (.tail _ (.tail _ (.head _))))))))) (hv.vars.sft (by first | exact .head _ | exact .tail _ (.head _) | exact .tail _ (.tail _ (.head _)) | exact .tail _ (.tail _ (.tail _ (.head _))) | exact .tail _ (.tail _ (.tail _ (.tail _ (.head _)))) | exact .tail _ (.tail _ (.tail _ (.tail _ (.tail _ (.head _))))) | exact .tail _ (.tail _ (.tail _ (.tail _ (.tail _ (.tail _ (.head _)))))) | exact .tail _ (.tail _ (.tail _ (.tail _ (.tail _ (.tail _ (.tail _ (.head _))))))))) 7 infoT rfl rfl (by simp [Value.oneCell']) ?_; intro w2 hw2; (first | (replace hv := hv.set 0 rfl hw2) | (replace hv := hv.set 1 rfl hw2) | (replace hv := hv.set 2 rfl hw2) | (replace hv := hv.set 3 rfl hw2)); clear hw2; simp only [List.set] at hv))
  refine ret_cell3 Tryz.results18 rfl (read_row _ b4 28 _ (hv.vars.row (by first | exact .head _ | exact .tail _ (.head _) | exact .tail _ (.tail _ (.head _)) | exact .tail _ (.tail _ (.tail _ (.head _))) | exact .tail _ (.tail _ (.tail _ (.tail _ (.head _)))) | exact .tail _ (.tail _ (.tail _ (.tail _ (.tail _ (.head _))))) | exact .tail _ (.tail _ (.tail _ (.tail _ (.tail _ (.tail _ (.head _)))))) | exact .tail _ (.tail _ (.tail _ (.tail _ (.tail _ (.tail _ (.tail _ (.head _))))))))) 7 _ Tryz.underlying28 rfl infoT (by decide) rfl) rfl rfl rfl ⟨_, _, _, rfl, hv.drop.drop.drop.keepR (fun y hy => (List.mem_cons.1 hy).elim (fun e => e ▸ HC.out) id)⟩
set_option maxRecDepth 100000 in
set_option maxHeartbeats 4000000 in
theorem goes_23 (st pc sk er : Int) (wk : Nat) (sa ca : Option Addr) (sn sc cn cc : Nat) (C : List Int) (arg : Nat) (w0 w : World) (L : List (Nat × Array Value)) (R : List (Nat × Value × List Value)) (hv0 : Mem w0 w L R) (hc : (1, .slice ca cn cc, cellsN C) ∈ R) (m : Nat) (hcn : cn = m + 1) (hm : m < 1000) : Calls Tryz.prog 18 #[.agg #[.int .i64 23, .int .u64 (arg : Nat)], .agg #[.int .i64 st, .int .i64 pc, .slice sa sn sc, .slice ca cn cc, .int .u64 (wk : Nat), .int .i64 sk, .int .i64 er]] w (GoesR w0 L R st sk er wk (.slice sa sn sc) (C.getLastD 0) C.dropLast 0) := by
  have hv := hv0
  have HC := Lib.hid hc
  subst hcn
  have HL : Hid (C.length = m + 1) := Lib.hid (by
    obtain ⟨_, _, _, e, g, _⟩ := hv0.rd hc
    cases e
    rw [cellsN_len] at g; omega)
  obtain ⟨cb, co, _, _, e, e9⟩ := (hv0.rd hc).some (by rw [cellsN_len, HL.out]; omega)
  cases e
  clear e9
  obtain ⟨x, hx⟩ : ∃ x, C.getLastD 0 = x := ⟨_, rfl⟩
  have HX : Hid ((cellsN C)[m]? = some (.int .i64 x)) := Lib.hid (by
    have hne : C ≠ [] := fun e => by have := HL.out; rw [e] at this; simp at this
    have h1 := last_split hne
    have h2 : C.dropLast.length = m := by rw [List.length_dropLast, HL.out]; omega
    rw [h1, hx, cellsN_snoc, List.getElem?_append_right (by rw [cellsN_len, h2]; exact Nat.le_refl _), cellsN_len, h2, Nat.sub_self]; rfl)
  rw [hx]
  have q0 : ((m + 1 : Nat) : Int) - 1 = (m : Int) := by omega
  have q1 : (m : Int) < ((m + 1 : Nat) : Int) := by omega
  have q2 : ¬ ((m + 1 : Nat) : Int) = 0 := by omega
  have q3 : IntKind.i64.wrap ((m + 1 : Nat) : Int) = ((m + 1 : Nat) : Int) := IntWalk.i64_in _ (by omega)
  have q4 : IntKind.i64.wrap (m : Int) = (m : Int) := IntWalk.i64_in _ (by omega)
  have HM : Hid (m ≤ m + 1) := Lib.hid (by omega)
  have HA1 : Hid (((cellsN C).take (m * 1)).length / 1 ≤ maxLen) := Lib.hid (by rw [List.length_take, cellsN_len]; unfold maxLen; omega)
  have HA2 : Hid (((cellsN C).take (m * 1)).length / 1 * 8 ≤ 140737488355328) := Lib.hid (by rw [List.length_take, cellsN_len]; omega)
  have HD : Hid ((cellsN C).take (m * 1) = cellsN C.dropLast) := Lib.hid (by rw [Nat.mul_one, ← cellsN_take, List.dropLast_eq_take, HL.out]; rfl)
  clear hx hm
  clear hv0 hc
  go_enter Tryz.func18, Tryz.ntmps18
  go_wp2_with (first
    | ((with_reducible refine at_box (T := 48) (dst := some 2) ?_); refine wl_newb rfl #[.int .i64 23, .int .u64 (arg : Nat)] 48 (fun _ => rfl) ?_; intro b2 w2 hm2; replace hv := hv.madeAt hm2; clear hm2)
    | ((with_reducible refine at_box (T := 28) (dst := some 3) ?_); refine wl_newb rfl #[.int .i64 st, .int .i64 pc, .slice sa sn sc, .slice (some ⟨cb, co, none⟩) (m + 1) cc, .int .u64 (wk : Nat), .int .i64 sk, .int .i64 er] 28 (fun _ => rfl) ?_; intro b3 w2 hm2; replace hv := hv.madeAt hm2; clear hm2)
    | ((with_reducible refine at_alloc (T := 28) (dst := some 4) ?_); refine wl_newb rfl #[.int .i64 0, .int .i64 0, .slice none 0 0, .slice none 0 0, .int .u64 0, .int .i64 0, .int .i64 0] 28 (fun _ => rfl) ?_; intro b4 w2 hm2; replace hv := hv.madeAt hm2; clear hm2)
    | ((with_reducible refine at_load (T := 3) ?_); refine wl_ldc rfl _ _ rfl _ (hv.vars.row (by first | exact .head _ | exact .tail _ (.head _) | exact .tail _ (.tail _ (.head _)) | exact .tail _ (.tail _ (.tail _ (.head _))) | exact .tail _ (.tail _ (.tail _ (.tail _ (.head _)))) | exact .tail _ (.tail _ (.tail _ (.tail _ (.tail _ (.head _))))) | exact .tail _ (.tail _ (.tail _ (.tail _ (.tail _ (.tail _ (.head _)))))) | exact .tail _ (.tail _ (.tail _ (.tail _ (.tail _ (.tail _ (.tail _ (.head _))))))))) _ Tryz.underlying3 rfl _ rfl ?_)
    | ((with_reducible refine at_load (T := 24) ?_); replace hv := hv.madeAt ⟨rfl, made_alloc _ #[] 3⟩; refine wl_ldc rfl _ _ rfl _ (hv.vars.row (by first | exact .head _ | exact .tail _ (.head _) | exact .tail _ (.tail _ (.head _)) | exact .tail _ (.tail _ (.tail _ (.head _))) | exact .tail _ (.tail _ (.tail _ (.tail _ (.head _)))) | exact .tail _ (.tail _ (.tail _ (.tail _ (.tail _ (.head _))))) | exact .tail _ (.tail _ (.tail _ (.tail _ (.tail _ (.tail _ (.head _)))))) | exact .tail _ (.tail _ (.tail _ (.tail _ (.tail _ (.tail _ (.tail _ (.head _))))))))) _ Tryz.underlying24 rfl _ rfl ?_)
    | ((with_reducible refine at_load (T := 24) ?_); refine wl_ldc rfl _ _ rfl _ (hv.vars.row (by first | exact .head _ | exact .tail _ (.head _) | exact .tail _ (.tail _ (.head _)) | exact .tail _ (.tail _ (.tail _ (.head _))) | exact .tail _ (.tail _ (.tail _ (.tail _ (.head _)))) | exact .tail _ (.tail _ (.tail _ (.tail _ (.tail _ (.head _))))) | exact .tail _ (.tail _ (.tail _ (.tail _ (.tail _ (.tail _ (.head _)))))) | exact .tail _ (.tail _ (.tail _ (.tail _ (.tail _ (.tail _ (.tail _ (.head _))))))))) _ Tryz.underlying24 rfl _ rfl ?_)
    | ((with_reducible refine at_load (T := 3) ?_); refine wl_rd rfl (hv.rd HC.out) m rfl _ Tryz.underlying3 rfl (.int .i64 x) HX.out ?_)
    | ((with_reducible refine at_store (T := 3) ?_); refine wl_stc rfl b3 1 rfl (.int .i64 x) rfl _ (hv.vars.row (by first | exact .head _ | exact .tail _ (.head _) | exact .tail _ (.tail _ (.head _)) | exact .tail _ (.tail _ (.tail _ (.head _))) | exact .tail _ (.tail _ (.tail _ (.tail _ (.head _)))) | exact .tail _ (.tail _ (.tail _ (.tail _ (.tail _ (.head _))))) | exact .tail _ (.tail _ (.tail _ (.tail _ (.tail _ (.tail _ (.head _)))))) | exact .tail _ (.tail _ (.tail _ (.tail _ (.tail _ (.tail _ (.tail _ (.head _))))))))) (hv.vars.sft (by first | exact .head _ | exact .tail _ (.head _) | exact .tail _ (.tail _ (.head _)) | exact .tail _ (.tail _ (.tail _ (.head _))) | exact .tail _ (.tail _ (.tail _ (.tail _ (.head _)))) | exact .tail _ (.tail _ (.tail _ (.tail _ (.tail _ (.head _))))) | exact .tail _ (.tail _ (.tail _ (.tail _ (.tail _ (.tail _ (.head _)))))) | exact .tail _ (.tail _ (.tail _ (.tail _ (.tail _ (.tail _ (.tail _ (.head _))))))))) (by kernel_rfl) rfl (by simp) ?_; intro w2 hw2; (first | (replace hv := hv.set 0 rfl hw2) | (replace hv := hv.set 1 rfl hw2) | (replace hv := hv.set 2 rfl hw2) | (replace hv := hv.set 3 rfl hw2)); clear hw2; simp only [List.set] at hv; simp only [List.setIfInBounds_toArray, List.set_cons_succ, List.set_cons_zero] at hv)
    | ((with_reducible refine at_slice (T := 24) ?_); refine wl_slice_h rfl rfl hv (by first | exact HC.out | exact Mem.s HC.out) Tryz.underlying24 info1N m rfl HM.out ?_; intro aoN hvN; replace hv := hvN; clear hvN)
    | ((with_reducible refine at_append (t := 24) ?_); refine wl_app0 rfl rfl hv (.int .i64 0) 8 Tryz.underlying24 infoN rfl (by decide) rfl Mem.z (cells_one_subN (List.take_sublist _ _).subset) HA1.out HA2.out ?_; intro ao6 n6 cap6 w6 hvN; replace hv := hvN; clear hvN)
    | ((with_reducible refine at_store (T := 24) ?_); refine wl_stc rfl b3 3 rfl (.slice ao6 n6 cap6) rfl _ (hv.vars.row (by first | exact .head _ | exact .tail _ (.head _) | exact .tail _ (.tail _ (.head _)) | exact .tail _ (.tail _ (.tail _ (.head _))) | exact .tail _ (.tail _ (.tail _ (.tail _ (.head _)))) | exact .tail _ (.tail _ (.tail _ (.tail _ (.tail _ (.head _))))) | exact .tail _ (.tail _ (.tail _ (.tail _ (.tail _ (.tail _ (.head _)))))) | exact .tail _ (.tail _ (.tail _ (.tail _ (.tail _ (.tail _ (.tail _ (.head _))))))))) (hv.vars.sft (by first | exact .head _ | exact .tail _ (.head _) | exact .tail _ (.tail _ (.head _)) | exact .tail _ (.tail _ (.tail _ (.head _))) | exact .tail _ (.tail _ (.tail _ (.tail _ (.head _)))) | exact .tail _ (.tail _ (.tail _ (.tail _ (.tail _ (.head _))))) | exact .tail _ (.tail _ (.tail _ (.tail _ (.tail _ (.tail _ (.head _)))))) | exact .tail _ (.tail _ (.tail _ (.tail _ (.tail _ (.tail _ (.tail _ (.head _))))))))) (by kernel_rfl) rfl (by simp) ?_; intro w2 hw2; (first | (replace hv := hv.set 0 rfl hw2) | (replace hv := hv.set 1 rfl hw2) | (replace hv := hv.set 2 rfl hw2) | (replace hv := hv.set 3 rfl hw2)); clear hw2; simp only [List.set] at hv; simp only [List.setIfInBounds_toArray, List.set_cons_succ, List.set_cons_zero] at hv)
    | ((with_reducible refine at_load (T := 28) ?_); refine wl_ldv rfl b3 rfl _ (hv.vars.row (by first | exact .head _ | exact .tail _ (.head _) | exact .tail _ (.tail _ (.head _)) | exact .tail _ (.tail _ (.tail _ (.head _))) | exact .tail _ (.tail _ (.tail _ (.tail _ (.head _)))) | exact .tail _ (.tail _ (.tail _ (.tail _ (.tail _ (.head _))))) | exact .tail _ (.tail _ (.tail _ (.tail _ (.tail _ (.tail _ (.head _)))))) | exact .tail _ (.tail _ (.tail _ (.tail _ (.tail _ (.tail _ (.tail _ (.head _))))))))) 7 _ Tryz.underlying28 rfl infoT (by decide) rfl ?_)
    | ((with_reducible refine at_store (T := 28) ?_); refine wl_stv rfl b4 rfl _ rfl _ (hv.vars.row (by first | exact .head _ | exact .tail _ (.head _) | exact .tail _ (.tail _ (.head _)) | exact .tail _ (.tail _ (.tail _ (.head _))) | exact .tail _ (.tail _ (.tail _ (.tail _ (.head _)))) | exact .tail _ (.tail _ (.tail _ (.tail _ (.tail _ (.head _))))) | exact .tail _ (.tail _ (.tail _ (.tail _ (.tail _ (.tail _ (.head _)))))) | exact .tail _ (.tail _ (.tail _ (.tail _ (.tail _ (.tail _ (.tail _ (.head _))))))))) (hv.vars.sft (by first | exact .head _ | exact .tail _ (.head _) | exact .tail _ (.tail _ (.head _)) | exact .tail _ (.tail _ (.tail _ (.head _))) | exact .tail _ (.tail _ (.tail _ (.tail _ (.head _)))) | exact .tail _ (.tail _ (.tail _ (.tail _ (.tail _ (.head _))))) | exact .tail _ (.tail _ (.tail _ (.tail _ (.tail _ (.tail _ (.head _)))))) | exact .tail _ (.tail _ (.tail _ (.tail _ (.tail _ (.tail _ (.tail _ (.head _))))))))) 7 infoT rfl rfl (by simp [Value.oneCell']) ?_; intro w2 hw2; (first | (replace hv := hv.set 0 rfl hw2) | (replace hv := hv.set 1 rfl hw2) | (replace hv := hv.set 2 rfl hw2) | (replace hv := hv.set 3 rfl hw2)); clear hw2; simp only [List.set] at hv))
  rw [HD.out] at hv
  refine ret_cell3 Tryz.results18 rfl (read_row _ b4 28 _ (hv.vars.row (by first | exact .head _ | exact .tail _ (.head _) | exact .tail _ (.tail _ (.head _)) | exact .tail _ (.tail _ (.tail _ (.head _))) | exact .tail _ (.tail _ (.tail _ (.tail _ (.head _)))) | exact .tail _ (.tail _ (.tail _ (.tail _ (.tail _ (.head _))))) | exact .tail _ (.tail _ (.tail _ (.tail _ (.tail _ (.tail _ (.head _)))))) | exact .tail _ (.tail _ (.tail _ (.tail _ (.tail _ (.tail _ (.tail _ (.head _))))))))) 7 _ Tryz.underlying28 rfl infoT (by decide) rfl) rfl rfl rfl ⟨_, _, _, rfl, (hv.keepR (fun y hy => (List.mem_cons.1 hy).elim (fun e => e ▸ Mem.z) (fun h => Mem.s (Mem.s h)))).drop.drop.drop⟩
set_option maxRecDepth 100000 in
set_option maxHeartbeats 4000000 in
theorem goes_22 (st pc sk er : Int) (wk : Nat) (sa ca : Option Addr) (sn sc cn cc : Nat) (C : List Int) (arg : Nat) (w0 w : World) (L : List (Nat × Array Value)) (R : List (Nat × Value × List Value)) (hv0 : Mem w0 w L R) (hc : (1, .slice ca cn cc, cellsN C) ∈ R) (ha : arg < 9223372036854775808) (hn : cn < 16) (hp0 : 0 ≤ pc) (hp1 : pc < 1000) : Calls Tryz.prog 18 #[.agg #[.int .i64 22, .int .u64 (arg : Nat)], .agg #[.int .i64 st, .int .i64 pc, .slice sa sn sc, .slice ca cn cc, .int .u64 (wk : Nat), .int .i64 sk, .int .i64 er]] w (GoesR w0 L R st sk er wk (.slice sa sn sc) (arg : Nat) (C ++ [pc + 1]) 0) := by
  have hv := hv0
  have HC := Lib.hid hc
  have qw : IntKind.i64.wrap (arg : Int) = (arg : Int) := IntWalk.i64_in _ (by omega)
  clear ha
  have hcn2 : C.length = cn := by
    obtain ⟨_, _, _, e, g, _⟩ := hv0.rd hc
    cases e
    rw [cellsN_len] at g; omega
  have q : ¬ (16 : Int) ≤ (cn : Int) := by omega
  have qp : IntKind.i64.wrap (pc + 1) = pc + 1 := IntWalk.i64_in _ (by omega)
  have hB0 : Hid (∀ y ∈ [Value.int .i64 (pc + 1)], y.oneCell' = true) := Lib.hid (fun y hy => by rw [List.mem_singleton.1 hy]; rfl)
  have hB3 : 1 ≤ maxLen := by unfold maxLen; omega
  have hA1 : Hid ((([] : List Value).length + (cellsN C).length) / 1 ≤ maxLen) := Lib.hid (by rw [cellsN_len]; simp only [List.length_nil]; unfold maxLen; omega)
  have hA2 : Hid ((([] : List Value).length + (cellsN C).length) / 1 * 8 ≤ 140737488355328) := Lib.hid (by rw [cellsN_len]; simp only [List.length_nil]; omega)
  have hB1 : Hid ((([] ++ cellsN C).length + [Value.int .i64 (pc + 1)].length) / 1 ≤ maxLen) := Lib.hid (by rw [List.nil_append, cellsN_len]; simp only [List.length_cons, List.length_nil]; unfold maxLen; omega)
  have hB2 : Hid ((([] ++ cellsN C).length + [Value.int .i64 (pc + 1)].length) / 1 * 8 ≤ 140737488355328) := Lib.hid (by rw [List.nil_append, cellsN_len]; simp only [List.length_cons, List.length_nil]; omega)
  have HE : Hid ([] ++ cellsN C ++ [Value.int .i64 (pc + 1)] = cellsN (C ++ [pc + 1])) := Lib.hid (by rw [cellsN_snoc]; rfl)
  clear hcn2 hn hp0 hp1
  clear hv0 hc
  go_enter Tryz.func18, Tryz.ntmps18
  go_wp2_with (first
    | ((with_reducible refine at_box (T := 48) (dst := some 2) ?_); refine wl_newb rfl #[.int .i64 22, .int .u64 (arg : Nat)] 48 (fun _ => rfl) ?_; intro b2 w2 hm2; replace hv := hv.madeAt hm2; clear hm2)
    | ((with_reducible refine at_box (T := 28) (dst := some 3) ?_); refine wl_newb rfl #[.int .i64 st, .int .i64 pc, .slice sa sn sc, .slice ca cn cc, .int .u64 (wk : Nat), .int .i64 sk, .int .i64 er] 28 (fun _ => rfl) ?_; intro b3 w2 hm2; replace hv := hv.madeAt hm2; clear hm2)
    | ((with_reducible refine at_alloc (T := 28) (dst := some 4) ?_); refine wl_newb rfl #[.int .i64 0, .int .i64 0, .slice none 0 0, .slice none 0 0, .int .u64 0, .int .i64 0, .int .i64 0] 28 (fun _ => rfl) ?_; intro b4 w2 hm2; replace hv := hv.madeAt hm2; clear hm2)
    | ((with_reducible refine at_load (T := 3) ?_); refine wl_ldc rfl _ _ rfl _ (hv.vars.row (by first | exact .head _ | exact .tail _ (.head _) | exact .tail _ (.tail _ (.head _)) | exact .tail _ (.tail _ (.tail _ (.head _))) | exact .tail _ (.tail _ (.tail _ (.tail _ (.head _)))) | exact .tail _ (.tail _ (.tail _ (.tail _ (.tail _ (.head _))))) | exact .tail _ (.tail _ (.tail _ (.tail _ (.tail _ (.tail _ (.head _)))))) | exact .tail _ (.tail _ (.tail _ (.tail _ (.tail _ (.tail _ (.tail _ (.head _))))))))) _ Tryz.underlying3 rfl _ rfl ?_)
    | ((with_reducible refine at_load (T := 24) ?_); refine wl_ldc rfl _ _ rfl _ (hv.vars.row (by first | exact .head _ | exact .tail _ (.head _) | exact .tail _ (.tail _ (.head _)) | exact .tail _ (.tail _ (.tail _ (.head _))) | exact .tail _ (.tail _ (.tail _ (.tail _ (.head _)))) | exact .tail _ (.tail _ (.tail _ (.tail _ (.tail _ (.head _))))) | exact .tail _ (.tail _ (.tail _ (.tail _ (.tail _ (.tail _ (.head _)))))) | exact .tail _ (.tail _ (.tail _ (.tail _ (.tail _ (.tail _ (.tail _ (.head _))))))))) _ Tryz.underlying24 rfl _ rfl ?_))
  have HR := Lib.hid (Any.rd_start (hv.keep (List.sublist_append_left [(b4, #[.int .i64 0, .int .i64 0, .slice none 0 0, .slice none 0 0, .int .u64 0, .int .i64 0, .int .i64 0]), (b3, #[.int .i64 st, .int .i64 pc, .slice sa sn sc, .slice ca cn cc, .int .u64 (wk : Nat), .int .i64 sk, .int .i64 er]), (b2, #[.int .i64 22, .int .u64 (arg : Nat)])] L)) HC.out)
  refine Any.wp_region_walk [⟨[], some 5⟩, ⟨[], none⟩, ⟨[1001], none⟩, ⟨[], some 5⟩, ⟨[], none⟩, ⟨[1001], none⟩, ⟨[], none⟩, ⟨[], some 6⟩, ⟨[6], some 5⟩, ⟨[], none⟩, ⟨[1001], some 1001⟩] [.bsl 0 #[], .val, .val, .own (AppRow · 1 ([] ++ cellsN C)), .val, .val, .val, .bsl 1 #[.int .i64 (pc + 1)], .own (AppRow · 1 (([] ++ cellsN C) ++ [Value.int .i64 (pc + 1)])), .val, .put] (by kernel_rfl) (by kernel_rfl) (hv.vars.keep (List.sublist_append_left [(b4, #[.int .i64 0, .int .i64 0, .slice none 0 0, .slice none 0 0, .int .u64 0, .int .i64 0, .int .i64 0]), (b3, #[.int .i64 st, .int .i64 pc, .slice sa sn sc, .slice ca cn cc, .int .u64 (wk : Nat), .int .i64 sk, .int .i64 er]), (b2, #[.int .i64 22, .int .u64 (arg : Nat)])] L)) ?_
  simp only [List.length_cons, List.length_nil, Nat.zero_add, Any.someVals]
  iterate 11 apply Exists.intro
  repeat (first
    | (refine Any.E_off rfl ?_; simp only [Act.put, List.setIfInBounds_toArray, List.set_cons_succ, List.set_cons_zero])
    | (apply Any.E_pureq rfl rfl rfl
       case h => intro K hK; go_big_quiet_op; (refine hK _ ?_; rfl)
       case hr => exact fun _ => rfl
       simp only [Act.put, List.setIfInBounds_toArray, List.set_cons_succ, List.set_cons_zero])
    | (apply Any.E_val rfl rfl rfl rfl
       case h =>
         intro E' hA K hK
         first
           | ((with_reducible refine Any.at_qload (T := 3) ?_); refine Any.q_ldc 1001 hA (by decide) rfl rfl _ Tryz.underlying3 rfl _ rfl ?_; refine hK _ ?_; rfl)
           | ((with_reducible refine Any.at_qload (T := 24) ?_); refine Any.q_ldc 1001 hA (by decide) rfl rfl _ Tryz.underlying24 rfl _ rfl ?_; refine hK _ ?_; rfl)
           | (go_big_quiet_op; first
             | (refine hK _ ?_; rfl)
             | (refine ⟨_, fun _ _ => rfl, ?_⟩; refine hK _ ?_; rfl)
             | (apply Exists.intro; refine ⟨fun w1 hw1 => ?_, ?_⟩; · (first
                 | fail)
                refine hK _ ?_; rfl))
       case hD => rfl
       simp only [Act.put, List.setIfInBounds_toArray, List.set_cons_succ, List.set_cons_zero])
    | ((with_reducible refine Any.at_ealloc ?_); refine Any.E_lay rfl rfl rfl (fun _ => rfl) ?_; intro B; simp only [Act.put, List.setIfInBounds_toArray, List.set_cons_succ, List.set_cons_zero])
    | ((with_reducible refine Any.at_eapp (t := 24) ?_); refine Any.E_app (j := 6) rfl rfl rfl rfl rfl ha8 rfl (by decide) rfl rfl rfl hB3 (.int .i64 0) 8 Tryz.underlying24 infoN rfl (by decide) hB0.out hB1.out hB2.out ?_; intro v9 x9 ha9; simp only [Act.put, List.setIfInBounds_toArray, List.set_cons_succ, List.set_cons_zero])
    | ((with_reducible refine Any.at_eapp (t := 24) ?_); refine Any.E_apprd rfl rfl rfl rfl rfl (Any.AppRow.zero _ _) rfl HR.out (.int .i64 0) 8 Tryz.underlying24 infoN rfl (by decide) (cellsN_one _) hA1.out hA2.out ?_; intro v8 x8 ha8; simp only [Act.put, List.setIfInBounds_toArray, List.set_cons_succ, List.set_cons_zero])
    | ((with_reducible refine Any.at_estore ?_); obtain ⟨n9, c9, rfl, g9⟩ := id ha9; replace g9 := Lib.hid g9; refine Any.E_putc rfl rfl rfl rfl rfl rfl (by kernel_rfl) rfl (by simp) ?_; simp only [Act.put, List.setIfInBounds_toArray, List.set_cons_succ, List.set_cons_zero])
    | ((with_reducible refine Any.at_ebsl ?_); refine Any.E_bsl (t := 3) rfl rfl rfl (fun w' => (by unfold execOp; go_simp)) ?_; intro B; simp only [Act.put, List.setIfInBounds_toArray, List.set_cons_succ, List.set_cons_zero]))
  try any_goals exact undef
  refine Any.E_nil ?_
  intro w9 hE9
  replace hv : Mem w0 w9 ([(b3, #[.int .i64 st, .int .i64 pc, .slice sa sn sc, .slice (some ⟨x9.1, 0, none⟩) n9 c9, .int .u64 (wk : Nat), .int .i64 sk, .int .i64 er]), (b4, #[.int .i64 0, .int .i64 0, .slice none 0 0, .slice none 0 0, .int .u64 0, .int .i64 0, .int .i64 0]), (b2, #[.int .i64 22, .int .u64 (arg : Nat)]), x9] ++ L) R := hE9.memr hv [1001, 1000, 1002, 5] (by decide)
  clear hE9
  simp only [List.cons_append, List.nil_append] at hv
  replace hv := Mem.yield (L1 := [_, _, _]) hv ha9
  simp only [List.cons_append, List.nil_append] at hv
  rw [show cellsN C ++ [Value.int .i64 (pc + 1)] = cellsN (C ++ [pc + 1]) from HE.out] at hv
  go_wp2_with (first
    | ((with_reducible refine at_load (T := 3) ?_); refine wl_ldc rfl _ _ rfl _ (hv.vars.row (by first | exact .head _ | exact .tail _ (.head _) | exact .tail _ (.tail _ (.head _)) | exact .tail _ (.tail _ (.tail _ (.head _))) | exact .tail _ (.tail _ (.tail _ (.tail _ (.head _)))) | exact .tail _ (.tail _ (.tail _ (.tail _ (.tail _ (.head _))))) | exact .tail _ (.tail _ (.tail _ (.tail _ (.tail _ (.tail _ (.head _)))))) | exact .tail _ (.tail _ (.tail _ (.tail _ (.tail _ (.tail _ (.tail _ (.head _))))))))) _ Tryz.underlying3 rfl _ rfl ?_)
    | ((with_reducible refine at_load (T := 25) ?_); refine wl_ldc rfl _ _ rfl _ (hv.vars.row (by first | exact .head _ | exact .tail _ (.head _) | exact .tail _ (.tail _ (.head _)) | exact .tail _ (.tail _ (.tail _ (.head _))) | exact .tail _ (.tail _ (.tail _ (.tail _ (.head _)))) | exact .tail _ (.tail _ (.tail _ (.tail _ (.tail _ (.head _))))) | exact .tail _ (.tail _ (.tail _ (.tail _ (.tail _ (.tail _ (.head _)))))) | exact .tail _ (.tail _ (.tail _ (.tail _ (.tail _ (.tail _ (.tail _ (.head _))))))))) _ Tryz.underlying25 rfl _ rfl ?_)
    | ((with_reducible refine at_store (T := 3) ?_); refine wl_stc rfl b3 1 rfl (.int .i64 (arg : Int)) rfl _ (hv.vars.row (by first | exact .head _ | exact .tail _ (.head _) | exact .tail _ (.tail _ (.head _)) | exact .tail _ (.tail _ (.tail _ (.head _))) | exact .tail _ (.tail _ (.tail _ (.tail _ (.head _)))) | exact .tail _ (.tail _ (.tail _ (.tail _ (.tail _ (.head _))))) | exact .tail _ (.tail _ (.tail _ (.tail _ (.tail _ (.tail _ (.head _)))))) | exact .tail _ (.tail _ (.tail _ (.tail _ (.tail _ (.tail _ (.tail _ (.head _))))))))) (hv.vars.sft (by first | exact .head _ | exact .tail _ (.head _) | exact .tail _ (.tail _ (.head _)) | exact .tail _ (.tail _ (.tail _ (.head _))) | exact .tail _ (.tail _ (.tail _ (.tail _ (.head _)))) | exact .tail _ (.tail _ (.tail _ (.tail _ (.tail _ (.head _))))) | exact .tail _ (.tail _ (.tail _ (.tail _ (.tail _ (.tail _ (.head _)))))) | exact .tail _ (.tail _ (.tail _ (.tail _ (.tail _ (.tail _ (.tail _ (.head _))))))))) (by kernel_rfl) rfl (by simp) ?_; intro w2 hw2; (first | (replace hv := hv.set 0 rfl hw2) | (replace hv := hv.set 1 rfl hw2) | (replace hv := hv.set 2 rfl hw2) | (replace hv := hv.set 3 rfl hw2)); clear hw2; simp only [List.set] at hv; simp only [List.setIfInBounds_toArray, List.set_cons_succ, List.set_cons_zero] at hv)
    | ((with_reducible refine at_load (T := 28) ?_); refine wl_ldv rfl b3 rfl _ (hv.vars.row (by first | exact .head _ | exact .tail _ (.head _) | exact .tail _ (.tail _ (.head _)) | exact .tail _ (.tail _ (.tail _ (.head _))) | exact .tail _ (.tail _ (.tail _ (.tail _ (.head _)))) | exact .tail _ (.tail _ (.tail _ (.tail _ (.tail _ (.head _))))) | exact .tail _ (.tail _ (.tail _ (.tail _ (.tail _ (.tail _ (.head _)))))) | exact .tail _ (.tail _ (.tail _ (.tail _ (.tail _ (.tail _ (.tail _ (.head _))))))))) 7 _ Tryz.underlying28 rfl infoT (by decide) rfl ?_)
    | ((with_reducible refine at_store (T := 28) ?_); refine wl_stv rfl b4 rfl _ rfl _ (hv.vars.row (by first | exact .head _ | exact .tail _ (.head _) | exact .tail _ (.tail _ (.head _)) | exact .tail _ (.tail _ (.tail _ (.head _))) | exact .tail _ (.tail _ (.tail _ (.tail _ (.head _)))) | exact .tail _ (.tail _ (.tail _ (.tail _ (.tail _ (.head _))))) | exact .tail _ (.tail _ (.tail _ (.tail _ (.tail _ (.tail _ (.head _)))))) | exact .tail _ (.tail _ (.tail _ (.tail _ (.tail _ (.tail _ (.tail _ (.head _))))))))) (hv.vars.sft (by first | exact .head _ | exact .tail _ (.head _) | exact .tail _ (.tail _ (.head _)) | exact .tail _ (.tail _ (.tail _ (.head _))) | exact .tail _ (.tail _ (.tail _ (.tail _ (.head _)))) | exact .tail _ (.tail _ (.tail _ (.tail _ (.tail _ (.head _))))) | exact .tail _ (.tail _ (.tail _ (.tail _ (.tail _ (.tail _ (.head _)))))) | exact .tail _ (.tail _ (.tail _ (.tail _ (.tail _ (.tail _ (.tail _ (.head _))))))))) 7 infoT rfl rfl (by simp [Value.oneCell']) ?_; intro w2 hw2; (first | (replace hv := hv.set 0 rfl hw2) | (replace hv := hv.set 1 rfl hw2) | (replace hv := hv.set 2 rfl hw2) | (replace hv := hv.set 3 rfl hw2)); clear hw2; simp only [List.set] at hv))
  refine ret_cell3 Tryz.results18 rfl (read_row _ b4 28 _ (hv.vars.row (by first | exact .head _ | exact .tail _ (.head _) | exact .tail _ (.tail _ (.head _)) | exact .tail _ (.tail _ (.tail _ (.head _))) | exact .tail _ (.tail _ (.tail _ (.tail _ (.head _)))) | exact .tail _ (.tail _ (.tail _ (.tail _ (.tail _ (.head _))))) | exact .tail _ (.tail _ (.tail _ (.tail _ (.tail _ (.tail _ (.head _)))))) | exact .tail _ (.tail _ (.tail _ (.tail _ (.tail _ (.tail _ (.tail _ (.head _))))))))) 7 _ Tryz.underlying28 rfl infoT (by decide) rfl) rfl rfl rfl ⟨_, _, _, rfl, hv.drop.drop.drop⟩
set_option maxRecDepth 100000 in
set_option maxHeartbeats 4000000 in
theorem goes_no (st pc sk er : Int) (wk : Nat) (sa ca : Option Addr) (sn sc cn cc : Nat) (op : Int) (arg : Nat) (w : World) (hop : isMove op = false) : Calls Tryz.prog 18 #[.agg #[.int .i64 op, .int .u64 (arg : Nat)], .agg #[.int .i64 st, .int .i64 pc, .slice sa sn sc, .slice ca cn cc, .int .u64 (wk : Nat), .int .i64 sk, .int .i64 er]] w fun e w' => e = .returned (.tuple #[.agg #[.int .i64 st, .int .i64 pc, .slice sa sn sc, .slice ca cn cc, .int .u64 (wk : Nat), .int .i64 sk, .int .i64 er], .int .i64 0, .bool false]) ∧ New w w' := by
  have hv := Mem.nil w
  simp only [isMove, Bool.or_eq_false_iff, beq_eq_false_iff_ne, ne_eq] at hop
  obtain ⟨⟨⟨⟨h0, h20⟩, h22⟩, h23⟩, h37⟩ := hop
  have q0 : (op == 0) = false := beq_eq_false_iff_ne.2 h0
  have q37 : (op == 37) = false := beq_eq_false_iff_ne.2 h37
  have q20 : (op == 20) = false := beq_eq_false_iff_ne.2 h20
  have q22 : (op == 22) = false := beq_eq_false_iff_ne.2 h22
  have q23 : (op == 23) = false := beq_eq_false_iff_ne.2 h23
  clear h0 h20 h22 h23 h37
  go_enter Tryz.func18, Tryz.ntmps18
  go_wp2_with (first
    | ((with_reducible refine at_box (T := 48) (dst := some 2) ?_); refine wl_newb rfl #[.int .i64 op, .int .u64 (arg : Nat)] 48 (fun _ => rfl) ?_; intro b2 w2 hm2; replace hv := hv.madeAt hm2; clear hm2)
    | ((with_reducible refine at_box (T := 28) (dst := some 3) ?_); refine wl_newb rfl #[.int .i64 st, .int .i64 pc, .slice sa sn sc, .slice ca cn cc, .int .u64 (wk : Nat), .int .i64 sk, .int .i64 er] 28 (fun _ => rfl) ?_; intro b3 w2 hm2; replace hv := hv.madeAt hm2; clear hm2)
    | ((with_reducible refine at_alloc (T := 28) (dst := some 4) ?_); refine wl_newb rfl #[.int .i64 0, .int .i64 0, .slice none 0 0, .slice none 0 0, .int .u64 0, .int .i64 0, .int .i64 0] 28 (fun _ => rfl) ?_; intro b4 w2 hm2; replace hv := hv.madeAt hm2; clear hm2)
    | ((with_reducible refine at_load (T := 3) ?_); refine wl_ldc rfl _ _ rfl _ (hv.vars.row (by first | exact .head _ | exact .tail _ (.head _) | exact .tail _ (.tail _ (.head _)) | exact .tail _ (.tail _ (.tail _ (.head _))) | exact .tail _ (.tail _ (.tail _ (.tail _ (.head _)))) | exact .tail _ (.tail _ (.tail _ (.tail _ (.tail _ (.head _))))) | exact .tail _ (.tail _ (.tail _ (.tail _ (.tail _ (.tail _ (.head _)))))) | exact .tail _ (.tail _ (.tail _ (.tail _ (.tail _ (.tail _ (.tail _ (.head _))))))))) _ Tryz.underlying3 rfl _ rfl ?_)
    | ((with_reducible refine at_load (T := 28) ?_); refine wl_ldv rfl b3 rfl _ (hv.vars.row (by first | exact .head _ | exact .tail _ (.head _) | exact .tail _ (.tail _ (.head _)) | exact .tail _ (.tail _ (.tail _ (.head _))) | exact .tail _ (.tail _ (.tail _ (.tail _ (.head _)))) | exact .tail _ (.tail _ (.tail _ (.tail _ (.tail _ (.head _))))) | exact .tail _ (.tail _ (.tail _ (.tail _ (.tail _ (.tail _ (.head _)))))) | exact .tail _ (.tail _ (.tail _ (.tail _ (.tail _ (.tail _ (.tail _ (.head _))))))))) 7 _ Tryz.underlying28 rfl infoT (by decide) rfl ?_)
    | ((with_reducible refine at_store (T := 28) ?_); refine wl_stv rfl b4 rfl _ rfl _ (hv.vars.row (by first | exact .head _ | exact .tail _ (.head _) | exact .tail _ (.tail _ (.head _)) | exact .tail _ (.tail _ (.tail _ (.head _))) | exact .tail _ (.tail _ (.tail _ (.tail _ (.head _)))) | exact .tail _ (.tail _ (.tail _ (.tail _ (.tail _ (.head _))))) | exact .tail _ (.tail _ (.tail _ (.tail _ (.tail _ (.tail _ (.head _)))))) | exact .tail _ (.tail _ (.tail _ (.tail _ (.tail _ (.tail _ (.tail _ (.head _))))))))) (hv.vars.sft (by first | exact .head _ | exact .tail _ (.head _) | exact .tail _ (.tail _ (.head _)) | exact .tail _ (.tail _ (.tail _ (.head _))) | exact .tail _ (.tail _ (.tail _ (.tail _ (.head _)))) | exact .tail _ (.tail _ (.tail _ (.tail _ (.tail _ (.head _))))) | exact .tail _ (.tail _ (.tail _ (.tail _ (.tail _ (.tail _ (.head _)))))) | exact .tail _ (.tail _ (.tail _ (.tail _ (.tail _ (.tail _ (.tail _ (.head _))))))))) 7 infoT rfl rfl (by simp [Value.oneCell']) ?_; intro w2 hw2; (first | (replace hv := hv.set 0 rfl hw2) | (replace hv := hv.set 1 rfl hw2) | (replace hv := hv.set 2 rfl hw2) | (replace hv := hv.set 3 rfl hw2)); clear hw2; simp only [List.set] at hv))
  refine ret_cell3 Tryz.results18 rfl (read_row _ b4 28 _ (hv.vars.row (by first | exact .head _ | exact .tail _ (.head _) | exact .tail _ (.tail _ (.head _)) | exact .tail _ (.tail _ (.tail _ (.head _))) | exact .tail _ (.tail _ (.tail _ (.tail _ (.head _)))) | exact .tail _ (.tail _ (.tail _ (.tail _ (.tail _ (.head _))))) | exact .tail _ (.tail _ (.tail _ (.tail _ (.tail _ (.tail _ (.head _)))))) | exact .tail _ (.tail _ (.tail _ (.tail _ (.tail _ (.tail _ (.tail _ (.head _))))))))) 7 _ Tryz.underlying28 rfl infoT (by decide) rfl) rfl rfl rfl ⟨rfl, hv.below⟩
end Go.Proofs.YthpodinbbmgfoaaGreat
end
