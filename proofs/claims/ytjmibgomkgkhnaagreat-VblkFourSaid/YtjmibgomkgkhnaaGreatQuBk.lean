import Derived.Test.YtjmibgomkgkhnaaGreatQuAd
import Derived.Shelf.Spec.SlicesGrow
set_option linter.unusedSimpArgs false
set_option linter.unusedVariables false
set_option maxRecDepth 100000
set_option maxHeartbeats 16000000
section
/-
 slices.Concat of ints.
-/
namespace Go
open Go.RowKit
theorem Mem.base {w0 w : World} {L : List (Nat × Array Value)} {R : List (Nat × Value × List Value)} (h : Mem w0 w L R) : Mem w w [] R :=
 ⟨Vars.nil w, fun x hx => ⟨(h.rds x hx).1, fun _ _ _ _ _ _ p hp => (List.not_mem_nil hp).elim⟩⟩
end Go
namespace Go.Proofs.YtjmibgomkgkhnaaGreat
open Go.Proofs.Qu Go.Proofs.Nm Go.RowKit Go.Proofs
theorem len_rdI {w : World} {a : Option Addr} {n c : Nat} {d : List Nat} (h : Rd w 1 (.slice a n c) (intsI d)) : d.length = n := by
 obtain ⟨_, _, _, e, g, _⟩ := h
 cases e
 rw [intsI_len] at g; omega
def OwnR (k : Nat) (c : List Value) (w : World) (e : Ending) (w' : World) : Prop := ∃ v x, e = .returned v ∧ AppRow v k c x ∧ New w w' ∧ w.heap.size ≤ x.1 ∧ w'.rowD x.1 = x.2 ∧ w'.soft x.1 = true
theorem OwnR.of {k : Nat} {c : List Value} {w w' : World} {v : Value} {x : Nat × Array Value} {L : List (Nat × Array Value)} {R : List (Nat × Value × List Value)} (hr : AppRow v k c x) (hv : Mem w w' (x :: L) R) : OwnR k c w (.returned v) w' :=
 ⟨v, x, rfl, hr, hv.below, (hv.vars.rows x (List.mem_cons_self ..)).2.2, (hv.vars.rows x (List.mem_cons_self ..)).1, (hv.vars.rows x (List.mem_cons_self ..)).2.1⟩
theorem new_drew (w : World) : New w w.drew := ⟨rfl, rfl, rfl, Nat.le_refl _, fun _ _ => rfl⟩
def GrowR (w : World) (t : TypeId) (e : Ending) (w' : World) : Prop := ∃ G z, e = .returned (.slice (some ⟨w.heap.size, 0, none⟩) 0 G) ∧ G ≤ maxLen ∧ z.size = G ∧ w' = w.drew.alloc (.cells z t)
theorem GrowI_nil (n : Nat) (h0 : 0 < n) (hn : n ≤ 1000000) (w : World) : Calls Tryz.prog 119 #[.slice none 0 0, .int .i64 n] w (GrowR w 3) := by
 obtain ⟨i0, hi0, hz0, hs0, hb0⟩ := info_parts infoIz
 have hrz : ∀ ty, (Builtin.append_ #[22, 3] ty #[.slice none 0 0, .int .i64 n]).run Tryz.prog w =
     .ok (.slice (some ⟨w.heap.size, 0, none⟩) (0 + n) (grownCap w (0 + n) 0 3)) (w.drew.alloc (.cells (([] : List Value).toArray ++ Builtin.zeroCells (Value.int .i64 0).cells n ++ Builtin.zeroCells (Value.int .i64 0).cells (grownCap w (0 + n) 0 3 - (0 + n))) 3)) := fun ty =>
   Lib.run_append_grow_zeros w 22 3 ty 3 i0 (.int .i64 0) .i64 .i64 Tryz.underlying22 Tryz.underlying3 hi0 hz0 none 0 0 [] (run_firstCells_none w.drew i0.size 0 0 0) n h0 (by rw [hs0]; exact Nat.one_pos) (by first | omega | (unfold maxLen; omega)) (by first | omega | (unfold maxLen; omega)) (by rw [hb0]; omega) (growslice_fits (by omega) (by rw [hb0]; omega))
 obtain ⟨G, hG⟩ : ∃ G, grownCap w (0 + n) 0 3 = G := ⟨_, rfl⟩
 have hge := grownCap_ge w (0 + n) 0 3
 have hle := grownCap_le_maxLen w (0 + n) 0 3 (by unfold maxLen; omega)
 rw [hG] at hrz hge hle
 have q1 : IntKind.i64.wrap (n : Int) = (n : Int) := IntWalk.i64_in _ (by omega)
 have q2 : (0 : Int) < (n : Int) := by omega
 have q3 : ¬ (n : Int) < 0 := by omega
 obtain ⟨z, hz⟩ : ∃ z, (([] : List Value).toArray ++ Builtin.zeroCells (Value.int .i64 0).cells n ++ Builtin.zeroCells (Value.int .i64 0).cells (G - (0 + n))) = z := ⟨_, rfl⟩
 have hzs : z.size = G := by
   rw [← hz]
   simp only [Array.size_append, List.size_toArray, size_zeroCells, List.length_nil]
   simp [Value.cells]
   omega
 rw [hz] at hrz
 have HG : Hid (0 + n ≤ G ∧ G ≤ maxLen) := Lib.hid ⟨hge, hle⟩
 have HZ := Lib.hid hzs
 clear hz hG hge hle hn hzs
 go_enter Tryz.func119, Tryz.ntmps119
 go_wp2_with (at_builtin; refine Lib.wpList_append_run _ rfl _ _ _ _ rfl _ _ rfl rfl _ _ (hrz _) ?_)
 all_goals (go_ret; exact ⟨G, z, rfl, HG.out.2, HZ.out, rfl⟩)
theorem ConcatI_any (parts : List (Value × List Nat)) (sb so m mc : Nat) (w0 w : World) (L : List (Nat × Array Value)) (R : List (Nat × Value × List Value)) (hv0 : Mem w0 w L R) (hs : (1, .slice (some ⟨sb, so, none⟩) m mc, parts.map (·.1)) ∈ R) (hal : ∀ p ∈ parts, (1, p.1, intsI p.2) ∈ R) (hm : m ≤ 1000)
   (ht0 : 0 < (parts.flatMap (·.2)).length) (htm : (parts.flatMap (·.2)).length ≤ 1000000) : Calls Tryz.prog 101 #[.slice (some ⟨sb, so, none⟩) m mc] w (OwnR 1 (intsI (parts.flatMap (·.2))) w) := by
 have hv := hv0.base
 have HS := Lib.hid hs
 have HA := Lib.hid hal
 have hpm : parts.length = m := by
   obtain ⟨_, _, _, e, g, _⟩ := hv0.rd hs
   cases e
   simpa using g
 have HPM := Lib.hid hpm
 obtain ⟨tot, htot⟩ : ∃ tot, tot = (parts.flatMap (·.2)).length := ⟨_, rfl⟩
 have HT0 : Hid (0 < tot) := Lib.hid (by rw [htot]; exact ht0)
 have HTM : Hid (tot ≤ 1000000) := Lib.hid (by rw [htot]; exact htm)
 have HTE := Lib.hid htot
 have hsum : ∀ k, ((parts.take k).flatMap (·.2)).length ≤ tot := fun k => by
   rw [htot]
   conv => rhs; rw [← List.take_append_drop k parts, List.flatMap_append, List.length_append]
   omega
 have HSUM := Lib.hid hsum
 clear hs hal hpm ht0 htm htot hsum hv0
 go_enter Tryz.func101, Tryz.ntmps101
 go_wp2
 go_loopw [3, 11] (fun sv i wr => ∃ k : Nat, k ≤ m ∧ i = .int .i64 k ∧ sv = .int .i64 ((((parts.take k).flatMap (·.2)).length : Nat) : Int) ∧ Mem w wr [] R) (fun _ i _ => m - (intOf i).toNat)
 case atStart => exact ⟨0, Nat.zero_le _, rfl, rfl, hv⟩
 case round =>
   clear hv
   obtain ⟨k, hk, rfl, rfl, hv⟩ := hrel
   by_cases hk2 : k < m
   · have hki : (k : Int) < (m : Int) := by omega
     have hkl : k < parts.length := by rw [HPM.out]; exact hk2
     obtain ⟨⟨pv, pb⟩, hp⟩ : ∃ p, parts[k] = p := ⟨_, rfl⟩
     have hdm := HA.out parts[k] (List.getElem_mem hkl)
     rw [hp] at hdm
     obtain ⟨pa, pn, pc, rfl, _⟩ := id (hv.rd hdm)
     have hpn : pb.length = pn := len_rdI (hv.rd hdm)
     have HK : Hid ((parts.map (·.1))[k]? = some (.slice pa pn pc)) := Lib.hid (by rw [List.getElem?_map, List.getElem?_eq_getElem hkl, hp]; rfl)
     have hTk : ((parts.take (k + 1)).flatMap (·.2)).length = ((parts.take k).flatMap (·.2)).length + pn := by rw [List.take_succ_eq_append_getElem hkl, hp, List.flatMap_append, List.length_append, ← hpn]; simp
     have HTK := Lib.hid hTk
     obtain ⟨a, ha⟩ : ∃ a, ((parts.take k).flatMap (·.2)).length = a := ⟨_, rfl⟩
     have hb1 := HSUM.out (k + 1)
     rw [hTk, ha] at hb1
     have hb2 := HTM.out
     rw [ha] at HTK ⊢
     clear hp hdm hpn hkl hTk ha
     go_wp2_with (first
       | ((with_reducible refine at_load (T := 22) ?_); refine wl_rd rfl (hv.rd HS.out) k rfl _ Tryz.underlying22 rfl (.slice pa pn pc) HK.out ?_))
     go_roundw
     case rel => exact ⟨k + 1, by omega, by go_num, by rw [HTK.out]; go_num, hv⟩
     case measure => simp [intOf]; omega
   · have hki : ¬ (k : Int) < (m : Int) := by omega
     have hkm : parts.take k = parts := List.take_of_length_le (by rw [HPM.out]; omega)
     rw [hkm, ← HTE.out]
     clear hk hk2 hkm
     go_wp2_with (first
       | (go_at_call 119; (with_reducible refine (GrowI_nil _ HT0.out HTM.out _).mono ?_); rintro e w7 ⟨G, z, rfl, hG, hz, rfl⟩; replace hv := hv.new (new_drew _)))
     replace hv := hv.madeAt ⟨rfl, made_alloc _ z 3⟩
     have hrow0 : ∀ b, AppRow (.slice (some ⟨b, 0, none⟩) 0 G) 1 (intsI (([] : List (Value × List Nat)).flatMap (·.2))) (b, z) := fun b => ⟨0, G, rfl, rfl, Nat.zero_le _, hG, by simp only; omega, by simp [intsI]⟩
     go_loopw [6, 27] (fun v i wr => ∃ (k : Nat) (x0 : Nat × Array Value), k ≤ m ∧ i = .int .i64 k ∧ AppRow v 1 (intsI ((parts.take k).flatMap (·.2))) x0 ∧ Mem w wr [x0] R) (fun _ i _ => m - (intOf i).toNat)
     case atStart => exact ⟨0, _, Nat.zero_le _, rfl, hrow0 _, hv⟩
     case round =>
       clear hv hrow0
       obtain ⟨k, x0, hk, rfl, hrow, hv⟩ := hrel
       by_cases hk2 : k < m
       · have hki : (k : Int) < (m : Int) := by omega
         have hkl : k < parts.length := by rw [HPM.out]; exact hk2
         obtain ⟨⟨pv, pb⟩, hp⟩ : ∃ p, parts[k] = p := ⟨_, rfl⟩
         have hdm := HA.out parts[k] (List.getElem_mem hkl)
         rw [hp] at hdm
         obtain ⟨pa, pn, pc, rfl, _⟩ := id (hv.rd hdm)
         have HK : Hid ((parts.map (·.1))[k]? = some (.slice pa pn pc)) := Lib.hid (by rw [List.getElem?_map, List.getElem?_eq_getElem hkl, hp]; rfl)
         have HTK : Hid (intsI ((parts.take k).flatMap (·.2)) ++ intsI pb = intsI ((parts.take (k + 1)).flatMap (·.2))) := Lib.hid (by rw [List.take_succ_eq_append_getElem hkl, hp, List.flatMap_append]; simp [intsI])
         have hb1 := HSUM.out (k + 1)
         have hb2 := HTM.out
         have hle : (intsI ((parts.take k).flatMap (·.2))).length + (intsI pb).length ≤ 1000000 := by rw [← List.length_append, HTK.out, intsI_len]; omega
         have HB1 : Hid (((intsI ((parts.take k).flatMap (·.2))).length + (intsI pb).length) / 1 ≤ maxLen) := Lib.hid (by unfold maxLen; omega)
         have HB2 : Hid (((intsI ((parts.take k).flatMap (·.2))).length + (intsI pb).length) / 1 * 8 ≤ 140737488355328) := Lib.hid (by omega)
         have HDM := Lib.hid hdm
         have HROW := Lib.hid hrow
         obtain ⟨rn, rc, rfl, _⟩ := id hrow
         have hkb : (k : Int) ≤ 1000 := by omega
         clear hp hdm hkl hb1 hb2 hle hrow
         go_wp2_with (first
           | ((with_reducible refine at_load (T := 22) ?_); refine wl_rd rfl (hv.rd HS.out) k rfl _ Tryz.underlying22 rfl (.slice pa pn pc) HK.out ?_)
           | ((with_reducible refine at_append (t := 22) ?_); refine wl_apph rfl rfl hv HROW.out (.int .i64 0) 8 Tryz.underlying22 infoIz rfl (by decide) rfl (hv.rd HDM.out) (intsI_one _) HB1.out HB2.out ?_; intro v3 w3 x3 hrow3 hv1; replace hv := hv1; clear hv1; replace hrow3 := Lib.hid hrow3))
         go_roundw
         case rel => exact ⟨k + 1, x3, by omega, by go_num, by rw [← HTK.out]; exact hrow3.out, hv⟩
         case measure => simp [intOf]; omega
       · have hki : ¬ (k : Int) < (m : Int) := by omega
         have hkm : parts.take k = parts := List.take_of_length_le (by rw [HPM.out]; omega)
         rw [hkm] at hrow
         have HROW := Lib.hid hrow
         obtain ⟨rn, rc, rfl, _⟩ := id hrow
         clear hk hk2 hkm hrow
         go_wp2
         go_ret
         exact OwnR.of HROW.out hv
end Go.Proofs.YtjmibgomkgkhnaaGreat
end

section
/-
 slices.Clone and slices.Delete of chains.
-/
namespace Go
open Go.RowKit
namespace Any
section
variable {P : Program} {ops : Array Oper} {β : Base} {S : Nat → Stat} {D : Nat → Kind} {Q : Act → Env → Prop} {k : Nat} {rest : List Oper} {a : Act} {E : Env}
variable {dst : Option Tmp} {ty t e : TypeId} {pos : String} {after : Array Edge} {g : Option (Nat × Bool)} {x y : Operand}
theorem E_appself {i b at_ m cap cap2 o kk : Nat} {z z' : Array Value} {news : List Value} (hw : Region.wanted (⟨dst, .call { callee := .builtin .append, args := #[x, y], argTypes := #[t, t] }, ty, pos, after, g⟩ : Oper) (yielded ops a.tmps) = true)
   (hD : D k = .own (fun v x => v = .slice (some ⟨b, 0, none⟩) (at_ + m) cap ∧ x = (b, z'))) (hS : (S k).write = some i) (hx : a.eval x = .slice (some ⟨b, 0, none⟩) at_ cap) (hE : E i = some (b, z))
   (hy : a.eval y = .slice (some ⟨b, o, none⟩) m cap2) (hn : news.length = m * kk) (hnews : ∀ j u, news[j]? = some u → z[o + j]? = some u) (h1 : ∀ x ∈ news, x.oneCell' = true)
   (ht : P.underlying t = some (.slice e)) (hi : (P.info? e).map (·.size) = some kk) (hfit : at_ * kk + news.length ≤ z.size) (hroom : at_ + m ≤ cap) (hz : z' = (z.toList.take (at_ * kk) ++ news ++ z.toList.drop (at_ * kk + news.length)).toArray)
   (hk : wpE P ops β S D Q (k + 1) rest (a.put dst (.slice (some ⟨b, 0, none⟩) (at_ + m) cap)) (E.put i (b, z'))) : wpE P ops β S D Q k (⟨dst, .call { callee := .builtin .append, args := #[x, y], argTypes := #[t, t] }, ty, pos, after, g⟩ :: rest) a E := by
 obtain ⟨i0, hi1, hi2⟩ := Option.map_eq_some_iff.1 hi
 have hmem : i ∈ (S k).keys := by unfold Stat.keys; rw [hS]; simp
 refine E_own hw hD hS ⟨_, _, rfl, rfl⟩ (fun E' he w hv => ?_) (fun v x hW => by rw [hW.1, hW.2]; exact hk)
 have hE' : E' i = Option.some (b, z) := by rw [he i hmem]; exact hE
 obtain ⟨q1, q2, q3⟩ := hv.own i b z hE'
 obtain ⟨tt, htt⟩ := soft_heap q2
 rw [q1] at htt
 have r := run_append_room' (P := P) (w := w) t ty e tt i0 ht hi1 b at_ cap z htt ⟨b, o, none⟩ m cap2 news (by rw [hi2]; exact hn) (fun j u hj => by rw [Addr.add_none, cell_rowD, q1]; exact hnews j u hj) h1 hroom (by rw [hi2]; exact hfit)
 rw [hi2, ← hz] at r
 unfold res execOp
 simp only [resolve, invoke, builtin, Sem.run_bind, Sem.run_pure, Result.andThen_ok, List.map_toArray, List.map_cons, List.map_nil, hx, hy, r]
 exact ⟨(b, z'), ⟨rfl, rfl⟩, hv.fill (i := i) (B := b) (c0 := z) hE' (wrote_setRow q2)⟩
end
end Any
end Go
namespace Go.Proofs.Qu
open Go Go.RowKit Go.Proofs.Nm
theorem flat_take {α : Type} {k : Nat} {en : α → List Value} (hen : ∀ x, (en x).length = k) : ∀ (l : List α) (i : Nat), (l.flatMap en).take (i * k) = (l.take i).flatMap en := by
 intro l
 induction l with
 | nil => intro i; simp
 | cons x r ih =>
   intro i
   cases i with
   | zero => simp
   | succ i =>
     rw [List.flatMap_cons, List.take_succ_cons, List.flatMap_cons, ← ih i, List.take_append, hen, List.take_of_length_le (by rw [hen, Nat.succ_mul]; omega), show (i + 1) * k - k = i * k from by rw [Nat.succ_mul]; omega]
theorem flat_drop {α : Type} {k : Nat} {en : α → List Value} (hen : ∀ x, (en x).length = k) : ∀ (l : List α) (i : Nat), (l.flatMap en).drop (i * k) = (l.drop i).flatMap en := by
 intro l
 induction l with
 | nil => intro i; simp
 | cons x r ih =>
   intro i
   cases i with
   | zero => simp
   | succ i =>
     rw [List.flatMap_cons, List.drop_succ_cons, ← ih i, List.drop_append, hen, List.drop_of_length_le (by rw [hen, Nat.succ_mul]; omega), show (i + 1) * k - k = i * k from by rw [Nat.succ_mul]; omega, List.nil_append]
theorem cellsC_one (l : List Chn) : ∀ x ∈ cellsC l, x.oneCell' = true := fun x hx => by
 unfold cellsC at hx
 obtain ⟨c, _, h⟩ := List.mem_flatMap.1 hx
 exact encC_one c x h
theorem del_row {z : Array Value} {chs : List Chn} {n at_ cap : Nat} (hn : chs.length = n) (hz : z.size = cap * 3) (hnc : n ≤ cap) (ht : z.toList.take (n * 3) = cellsC chs) (hat : at_ < n) {z' : Array Value}
   (hz' : z' = (z.toList.take (at_ * 3) ++ cellsC (chs.drop (at_ + 1)) ++ z.toList.drop (at_ * 3 + (cellsC (chs.drop (at_ + 1))).length)).toArray) : z'.size = cap * 3 ∧ z'.toList.take ((n - 1) * 3) = cellsC (chs.eraseIdx at_) := by
 have hl : (cellsC (chs.drop (at_ + 1))).length = (n - (at_ + 1)) * 3 := by rw [cellsC_len, List.length_drop, hn]
 have hzl : z.toList.length = cap * 3 := by rw [Array.length_toList]; exact hz
 subst hz'
 constructor
 · simp only [List.size_toArray, List.length_append, List.length_take, List.length_drop, hzl, hl]
   omega
 · have e1 : z.toList.take (at_ * 3) = cellsC (chs.take at_) := by
     have : cellsC (chs.take at_) = (cellsC chs).take (at_ * 3) := (flat_take (en := encC) (fun _ => rfl) chs at_).symm
     rw [this, ← ht, List.take_take, Nat.min_eq_left (by omega)]
   rw [e1, List.eraseIdx_eq_take_drop_succ]
   have e2 : cellsC (chs.take at_) ++ cellsC (chs.drop (at_ + 1)) = cellsC (chs.take at_ ++ chs.drop (at_ + 1)) := by unfold cellsC; rw [List.flatMap_append]
   have e3 : (cellsC (chs.take at_ ++ chs.drop (at_ + 1))).length = (n - 1) * 3 := by rw [cellsC_len, List.length_append, List.length_take, List.length_drop, hn]; omega
   rw [← e2] at e3
   show List.take _ (cellsC (chs.take at_) ++ cellsC (chs.drop (at_ + 1)) ++ _) = _
   rw [List.take_append_of_le_length (by omega), List.take_of_length_le (by omega), e2]
theorem drop_news {z : Array Value} {chs : List Chn} {n at1 o : Nat} (ht : z.toList.take (n * 3) = cellsC chs) (ho : at1 < n → o = at1 * 3) (hn : chs.length = n) : ∀ j u, (cellsC (chs.drop at1))[j]? = some u → z[o + j]? = some u := fun j u hj => by
 have hlt := (List.getElem?_eq_some_iff.1 hj).1
 rw [cellsC_len, List.length_drop] at hlt
 have h1 : at1 < n := by omega
 rw [ho h1]
 have e : cellsC (chs.drop at1) = (cellsC chs).drop (at1 * 3) := (flat_drop (en := encC) (fun _ => rfl) chs at1).symm
 rw [e, List.getElem?_drop, ← ht, List.getElem?_take] at hj
 split at hj
 · rw [← Array.getElem?_toList]; exact hj
 · cases hj
theorem sliced_at {b j n cap : Nat} (hj : j ≤ n) (hn : n ≤ cap) : ∃ o, Go.sliced (some ⟨b, 0, none⟩) j n cap 3 = .slice (some ⟨b, o, none⟩) (n - j) (cap - j) ∧ (j < n → o = j * 3) := by
 unfold Go.sliced
 by_cases h : cap = j
 · exact ⟨0, by rw [if_pos h], fun _ => by omega⟩
 · exact ⟨j * 3, by rw [if_neg h, Option.map_some, Addr.add_none, Nat.zero_add], fun _ => rfl⟩
end Go.Proofs.Qu
namespace Go.Proofs.YtjmibgomkgkhnaaGreat
open Go.Proofs.Qu Go.Proofs.Nm Go.RowKit Go.Proofs
theorem CClone_isnil (a : Option Addr) (l c : Nat) (w : World) : (binOp .eql 28 (.slice a l c) (.slice none 0 0)).run Tryz.prog w = .ok (.bool a.isNone) w := by
 simp [binOp, Sem.run_bind, run_equal_slice_nil w 28 _ a l c Tryz.underlying28]
theorem CClone_row (a : Addr) (n cap : Nat) (c : List Value) (w : World) (hr : Rd w 3 (.slice (some a) n cap) c) (h1 : ∀ x ∈ c, x.oneCell' = true) (hn : n ≤ 1000000) : Calls Tryz.prog 103 #[.slice (some a) n cap] w (OwnR 3 c w) := by
 have hv := (Mem.nil w).old hr
 have hl : c.length = n * 3 := by
   obtain ⟨_, _, _, e, g, _⟩ := hr
   cases e; exact g
 have H1 := Lib.hid h1
 have HA1 : Hid ((([] : List Value).length + c.length) / 3 ≤ maxLen) := Lib.hid (by rw [hl]; simp only [List.length_nil]; unfold maxLen; omega)
 have HA2 : Hid ((([] : List Value).length + c.length) / 3 * 40 ≤ 140737488355328) := Lib.hid (by rw [hl]; simp only [List.length_nil]; omega)
 have hnil := CClone_isnil
 clear hl h1 hn hr
 go_enter Tryz.func103, Tryz.ntmps103
 go_wp2_with (first
   | ((with_reducible refine at_append (t := 28) ?_); replace hv := hv.madeAt ⟨rfl, made_alloc _ #[] 124⟩; refine wl_apph rfl rfl hv (Any.AppRow.zero _ 3) (.agg #[.int .i64 0, .slice none 0 0, .int .i64 0]) 40 Tryz.underlying28 infoC3z rfl (by decide) rfl (hv.rd Mem.z) H1.out HA1.out HA2.out ?_; intro v3 w3 x3 hrow hv1; replace hv := hv1; clear hv1; obtain ⟨n3, c3, rfl, g3⟩ := id hrow; replace g3 := Lib.hid g3; replace hrow := Lib.hid hrow))
 go_ret
 exact OwnR.of (by have := hrow.out; rwa [List.nil_append] at this) hv
theorem wl_sliceVlh {P : Program} {ops : Array Oper} {rest : List Oper} {a : Act} {w : World} {Q : Exit → Act → World → Prop} {dst : Option Tmp} {ty T e : TypeId} {pos : String} {after : Array Edge} {g : Option (Nat × Bool)} {x xl xh : Operand} {k : Nat} (hgd : Region.wanted (⟨dst, .slice T x (some xl) (some xh) none, ty, pos, after, g⟩ : Oper) (yielded ops a.tmps) = true) {ao : Option Addr} {n cap : Nat} (hx : a.eval x = .slice ao n cap) (ht : P.underlying T = some (.slice e)) (hi0 : (P.info? e).map (·.size) = some k)
   (l h : Nat) {kl kh : IntKind} (hl : a.eval xl = .int kl (l : Nat)) (hh : a.eval xh = .int kh (h : Nat)) (h2 : l ≤ h) (h3 : h ≤ cap) {v : Value} (hv : sliced ao l h cap k = v)
   (hk : wpList P ops Q rest (a.put dst v) w) : wpList P ops Q (⟨dst, .slice T x (some xl) (some xh) none, ty, pos, after, g⟩ :: rest) a w := by
 subst hv
 refine wpList_want hgd fun K hK => ?_
 have hr := run_part (w := w) (ao := ao) (n := n) (cap := cap) ht hi0 (some (.int kl (l : Nat))) (some (.int kh (h : Nat))) none l h cap (bounds_lh h2 h3)
 unfold Oper.wp execOp
 simp only [Sem.run_bind, hx, hl, hh, Option.map_some, Option.map_none, hr, Result.andThen_ok, Sem.run_pure]
 exact hK _ _ hk
theorem Delete_row {w0 w : World} {L : List (Nat × Array Value)} {R : List (Nat × Value × List Value)} {b n cap : Nat} {z : Array Value} {chs : List Chn} (hv : Mem w0 w ((b, z) :: L) R) (hr : AppRow (.slice (some ⟨b, 0, none⟩) n cap) 3 (cellsC chs) (b, z)) (at_ at1 : Nat) (h1 : at1 = at_ + 1) (hat : at_ < n) (hn : n ≤ 1000) :
   Calls Tryz.prog 102 #[.slice (some ⟨b, 0, none⟩) n cap, .int .i64 at_, .int .i64 at1] w fun e w' => ∃ n1 z', e = .returned (.slice (some ⟨b, 0, none⟩) n1 cap) ∧ AppRow (.slice (some ⟨b, 0, none⟩) n1 cap) 3 (cellsC (chs.eraseIdx at_)) (b, z') ∧ Mem w0 w' ((b, z') :: L) R := by
 obtain ⟨n9, cap9, e9, g1, g2, g3, g4, g5⟩ := hr
 cases e9
 rw [cellsC_len] at g1
 simp only at g4 g5
 have hcl : chs.length = n := by omega
 obtain ⟨o, hsa, ho⟩ := sliced_at (b := b) (j := at1) (n := n) (cap := cap) (by omega) g2
 obtain ⟨z1, hz1⟩ : ∃ z1, z1 = (z.toList.take (at_ * 3) ++ cellsC (chs.drop at1) ++ z.toList.drop (at_ * 3 + (cellsC (chs.drop at1)).length)).toArray := ⟨_, rfl⟩
 have hdr := del_row hcl g4 g2 g5 hat (z' := z1) (by rw [hz1, h1])
 have hnl : (cellsC (chs.drop at1)).length = (n - at1) * 3 := by rw [cellsC_len, List.length_drop, hcl]
 obtain ⟨n1, hn1⟩ : ∃ n1, n1 = at_ + (n - at1) := ⟨_, rfl⟩
 have hn1' : n1 = n - 1 := by omega
 obtain ⟨o6, hs6, ho6⟩ := sliced_at (b := b) (j := n1) (n := n) (cap := cap) (by omega) g2
 have ho6' : o6 = n1 * 3 := ho6 (by omega)
 subst ho6'
 rw [show n - n1 = 1 from by omega] at hs6
 rw [← hn1'] at hdr
 have HSA := Lib.hid hsa
 have HZ1 := Lib.hid hz1
 have HNL := Lib.hid hnl
 have HNW := Lib.hid (drop_news g5 ho hcl)
 have HFT : Hid (at_ * 3 + (cellsC (chs.drop at1)).length ≤ z.size) := Lib.hid (by rw [hnl, g4]; omega)
 have HRM : Hid (at_ + (n - at1) ≤ cap) := Lib.hid (by omega)
 have HAC : Hid (at_ ≤ cap) := Lib.hid (by omega)
 have HA1 : Hid (at1 ≤ n) := Lib.hid (by omega)
 have HA01 : Hid (at_ ≤ at1) := Lib.hid (by omega)
 have HNC : Hid (n ≤ cap) := Lib.hid g2
 have HN1N : Hid (n1 ≤ n) := Lib.hid (by omega)
 have HS6 := Lib.hid hs6
 have HDR := Lib.hid hdr
 have HG3 := Lib.hid g3
 have HN1E := Lib.hid hn1
 have HN1P : Hid (n1 = n - 1) := Lib.hid hn1'
 have HLC : Hid (n1 ≤ cap) := Lib.hid (by omega)
 have HCZ : Hid (n1 * 3 + 1 * (Value.agg #[.int .i64 0, .slice none 0 0, .int .i64 0]).cells.size ≤ z1.size) := Lib.hid (by rw [hdr.1]; show n1 * 3 + 1 * 3 ≤ _; omega)
 have HCE : Hid ((chs.eraseIdx at_).length = n1) := Lib.hid (by rw [List.length_eraseIdx, hcl, if_pos hat]; omega)
 have y1 : ((at_ : Int) == (at1 : Int)) = false := by rw [beq_eq_false_iff_ne]; omega
 have hne1 : ¬ n = at_ := by omega
 have hne2 : ¬ cap = n1 := by omega
 clear g1 g2 g3 g4 g5 hcl hsa ho hz1 hdr hnl hn1 hn1' hs6 ho6 h1 hat hn
 go_enter Tryz.func102, Tryz.ntmps102
 go_wp2_with (first
   | ((with_reducible refine at_slice (T := 28) ?_); refine wl_sliceV rfl rfl Tryz.underlying28 infoC3 at_ at1 n rfl rfl rfl HA01.out HA1.out HNC.out rfl ?_))
 replace hv : Mem w0 _ ([(b, z)] ++ L) _ := hv
 refine Any.wp_region_walk [⟨[], none⟩, ⟨[], none⟩, ⟨[], none⟩, ⟨[], none⟩, ⟨[], none⟩, ⟨[], none⟩, ⟨[], some 1000⟩, ⟨[], none⟩] [.val, .val, .val, .val, .val, .val, .own (fun v x => v = .slice (some ⟨b, 0, none⟩) (at_ + (n - at1)) cap ∧ x = (b, z1)), .pure] (by kernel_rfl) (by kernel_rfl) (hv.vars.keep (List.sublist_append_left [(b, z)] L)) ?_
 simp only [List.length_cons, List.length_nil, Nat.zero_add, Any.someVals]
 iterate 8 apply Exists.intro
 repeat (first
   | (refine Any.E_off rfl ?_; simp only [Act.put, sia, scs, scz])
   | (apply Any.E_pureq rfl rfl rfl
      case h => intro K hK; go_big_quiet_op; (refine hK _ ?_; rfl)
      case hr => exact fun _ => rfl
      simp only [Act.put, sia, scs, scz])
   | (apply Any.E_val rfl rfl rfl rfl
      case h =>
        intro E' hA K hK
        first
          | ((with_reducible refine Any.at_qslice (T := 28) ?_); refine Any.q_slice rfl Tryz.underlying28 infoC3 none (some (.int .i64 at_)) none rfl rfl rfl 0 at_ cap (fun w => bounds_h HAC.out) sliced_zero ?_; refine hK _ ?_; rfl)
          | ((with_reducible refine Any.at_qslice (T := 28) ?_); refine Any.q_slice rfl Tryz.underlying28 infoC3 (some (.int .i64 at1)) none none rfl rfl rfl at1 n cap (fun w => bounds_l HA1.out) HSA.out ?_; refine hK _ ?_; rfl)
          | (go_big_quiet_op; first
            | (refine hK _ ?_; rfl)
            | (refine ⟨_, fun _ _ => rfl, ?_⟩; refine hK _ ?_; rfl)
            | (apply Exists.intro; refine ⟨fun w1 hw1 => ?_, ?_⟩; · (first
                | fail)
               refine hK _ ?_; rfl))
      case hD => rfl
      simp only [Act.put, sia, scs, scz])
   | ((with_reducible refine Any.at_ealloc ?_); refine Any.E_lay rfl rfl rfl (fun _ => rfl) ?_; intro B; simp only [Act.put, sia, scs, scz])
   | ((with_reducible refine Any.at_eapp (t := 28) ?_); refine Any.E_appself (kk := 3) (o := o) (m := n - at1) (cap2 := cap - at1) (news := cellsC (chs.drop at1)) rfl rfl rfl rfl rfl rfl HNL.out HNW.out (cellsC_one _) Tryz.underlying28 infoC3 HFT.out HRM.out HZ1.out ?_; simp only [Act.put, sia, scs, scz]))
 try any_goals exact undef
 refine Any.E_nil ?_
 intro w9 hE9
 replace hv : Mem w0 w9 ([(b, z1)] ++ L) _ := hE9.memr hv [1000] (by decide)
 clear hE9
 simp only [List.cons_append, List.nil_append] at hv
 rw [← HN1E.out]
 go_wp2_with (first
   | ((with_reducible refine at_slice (T := 28) ?_); refine wl_sliceVlh rfl rfl Tryz.underlying28 infoC3 n1 n rfl rfl HN1N.out HNC.out HS6.out ?_)
   | ((with_reducible refine at_clear (t := 28) ?_); refine wl_clear rfl rfl (by decide) Tryz.underlying28 (z := .agg #[.int .i64 0, .slice none 0 0, .int .i64 0]) (by kernel_rfl) (by decide) (hv.vars.row (b := b) (List.mem_cons_self ..)) (hv.vars.sft (b := b) (c := z1) (List.mem_cons_self ..)) HCZ.out ?_; intro w2 z2 hw2 hsz2 htk2; replace hv := hv.set 0 rfl hw2; simp only [List.set] at hv; clear hw2; replace hsz2 := Lib.hid hsz2; replace htk2 := Lib.hid htk2))
 go_ret
 refine ⟨n1, z2, rfl, ⟨n1, cap, rfl, by rw [cellsC_len, HCE.out], HLC.out, HG3.out, ?_, ?_⟩, hv⟩
 · show z2.size = _; rw [hsz2.out]; exact HDR.out.1
 · show z2.toList.take _ = _; rw [htk2.out]; exact HDR.out.2
end Go.Proofs.YtjmibgomkgkhnaaGreat
end

section
/-
 A chain taken back: back.
-/
namespace Go.Proofs.YtjmibgomkgkhnaaGreat
open Go.Proofs.Qu Go.Proofs.Nm Go.RowKit Go.Proofs
theorem ConcatI_two (u v : Value) (a b : List Nat) (B : Nat) (w : World) (h0 : Rd w 1 (.slice (some ⟨B, 0, none⟩) 2 2) [u, v]) (h1 : Rd w 1 u (intsI a)) (h2 : Rd w 1 v (intsI b)) (ht : 0 < (a ++ b).length) (htm : (a ++ b).length ≤ 1000000) : Calls Tryz.prog 101 #[.slice (some ⟨B, 0, none⟩) 2 2] w (OwnR 1 (intsI (a ++ b)) w) := by
 have e : ([(u, a), (v, b)] : List (Value × List Nat)).flatMap (·.2) = a ++ b := by simp
 have hm := (((Mem.nil w).old h2).old h1).old h0
 have := ConcatI_any [(u, a), (v, b)] B 0 2 2 w w [] _ hm Mem.z (fun p hp => by
   rcases List.mem_cons.1 hp with rfl | hp
   · exact Mem.s Mem.z
   · rw [List.mem_singleton.1 hp]; exact Mem.s (Mem.s Mem.z)) (by omega) (by rw [e]; exact ht) (by rw [e]; exact htm)
 rwa [e] at this
theorem back_M {w0 w : World} {L : List (Nat × Array Value)} {R : List (Nat × Value × List Value)} {bw base n av la : Nat} {fv cv mv : Value} {free : List Nat} {chs : List Chn} (hv : Mem w0 w ((bw, #[.int .i64 base, .int .i64 n, fv, .int .u16 av, .int .u16 la, cv, mv]) :: L) R) (hq : InQ R fv cv free chs) (at_ : Nat) {c : Chn} (hc : chs[at_]? = some c) (h0 : 0 < c.ds.length) (hl : free.length + c.ds.length ≤ 16) (hcl : chs.length ≤ 16) :
   Calls Tryz.prog 66 #[.pointer (some ⟨bw, 0, none⟩), .int .i64 at_] w fun e w' => e = .returned (.tuple #[]) ∧ ∃ fv' cv' free' R', Mem w0 w' ((bw, #[.int .i64 base, .int .i64 n, fv', .int .u16 av, .int .u16 la, cv', mv]) :: L) R' ∧ InQ R' fv' cv' free' (chs.eraseIdx at_) ∧ free'.Perm (free ++ c.ds) ∧ free'.Pairwise (· ≤ ·) ∧ ∀ x ∈ R, x ∈ R' := by
 obtain ⟨fa, fn, fc, rfl, _⟩ := id (hv.rd hq.fr)
 have hat := (List.getElem?_eq_some_iff.1 hc).1
 obtain ⟨cb, co, cn, cc, rfl, gc, _⟩ := (hv.rd hq.ch).some (by rw [cellsC_len]; omega)
 rw [cellsC_len] at gc
 have hcn : chs.length = cn := by omega
 obtain ⟨c_h, db, d0, dn, dc, c_r, ds⟩ := c
 simp only at h0 hl
 have hmem := List.mem_of_getElem? hc
 have hds := hq.ds _ hmem
 simp only at hds
 have hcx := part_flat (k := 3) (en := encC) (fun _ => rfl) chs at_ hat
 rw [(List.getElem?_eq_some_iff.1 hc).2] at hcx
 have hcx1 : (cellsC chs)[at_ * 3 + 1]? = some (.slice (some ⟨db, d0, none⟩) dn dc) := by
   have := congrArg (fun l => l[1]?) hcx
   simp only [List.getElem?_take, List.getElem?_drop] at this
   exact this
 obtain ⟨at1, hat1⟩ : ∃ k, k = at_ + 1 := ⟨_, rfl⟩
 have q1 : IntKind.i64.wrap ((at_ : Int) + 1) = (at1 : Int) := by rw [IntWalk.i64_in _ (by omega)]; omega
 have hati : (at_ : Int) < (cn : Int) := by omega
 have HQ := Lib.hid hq
 have HDS := Lib.hid hds
 have HCX := Lib.hid hcx1
 have HT0 : Hid (0 < (free ++ ds).length) := Lib.hid (by rw [List.length_append]; omega)
 have HTM : Hid ((free ++ ds).length ≤ 1000000) := Lib.hid (by rw [List.length_append]; omega)
 have HLL : Hid ((free ++ ds).length ≤ 100000) := Lib.hid (by rw [List.length_append]; omega)
 have HWS : Hid (∃ v x, AppRow v 1 (intsI (free ++ ds)) x) := Lib.hid (Any.AppRow.some (k := 1) (n := (free ++ ds).length) (by rw [intsI_len, Nat.mul_one]) (by rw [List.length_append]; unfold maxLen; omega))
 have HCN : Hid (cn ≤ 1000000) := Lib.hid (by omega)
 have HCN2 : Hid (cn ≤ 1000) := Lib.hid (by omega)
 have HCL := Lib.hid hcn
 have HA1 := Lib.hid hat1
 have HAN : Hid (at_ < cn) := Lib.hid (by omega)
 clear hq hc h0 hl hcl hat gc hcn hmem hds hcx hcx1 hat1
 go_enter Tryz.func66, Tryz.ntmps66
 go_wp2
 replace hv : Mem w0 _ ([(bw, _)] ++ L) _ := hv
 have HPF := Lib.hid (Any.rd_start (hv.keep (List.sublist_append_left [(bw, #[.int .i64 base, .int .i64 n, .slice fa fn fc, .int .u16 av, .int .u16 la, .slice (some ⟨cb, co, none⟩) cn cc, mv])] L)) HQ.out.fr)
 have HPD := Lib.hid (Any.rd_start (hv.keep (List.sublist_append_left [(bw, #[.int .i64 base, .int .i64 n, .slice fa fn fc, .int .u16 av, .int .u16 la, .slice (some ⟨cb, co, none⟩) cn cc, mv])] L)) HDS.out)
 have HPC := Lib.hid (Any.rd_start (hv.keep (List.sublist_append_left [(bw, #[.int .i64 base, .int .i64 n, .slice fa fn fc, .int .u16 av, .int .u16 la, .slice (some ⟨cb, co, none⟩) cn cc, mv])] L)) HQ.out.ch)
 refine Any.wp_region_walk [⟨[], none⟩, ⟨[], none⟩, ⟨[], none⟩, ⟨[], none⟩, ⟨[], none⟩, ⟨[1000], none⟩, ⟨[], none⟩, ⟨[], none⟩, ⟨[], none⟩, ⟨[], none⟩, ⟨[1000], none⟩, ⟨[], none⟩, ⟨[], none⟩, ⟨[], none⟩, ⟨[], none⟩, ⟨[], some 15⟩, ⟨[15], some 16⟩, ⟨[], none⟩, ⟨[], none⟩, ⟨[], none⟩, ⟨[1000], some 1000⟩] [.val, .val, .val, .val, .val, .val, .val, .val, .val, .val, .val, .val, .val, .val, .val, .bsl 2 #[.slice fa fn fc, .slice (some ⟨db, d0, none⟩) dn dc], .own (fun v x => AppRow v 1 (intsI (free ++ ds)) x), .val, .val, .val, .put] (by kernel_rfl) (by kernel_rfl) (hv.vars.keep (List.sublist_append_left [(bw, #[.int .i64 base, .int .i64 n, .slice fa fn fc, .int .u16 av, .int .u16 la, .slice (some ⟨cb, co, none⟩) cn cc, mv])] L)) ?_
 simp only [List.length_cons, List.length_nil, Nat.zero_add, Any.someVals]
 iterate 21 apply Exists.intro
 repeat (first
   | (refine Any.E_off rfl ?_; simp only [Act.put, sia, scs, scz])
   | (apply Any.E_pureq rfl rfl rfl
      case h => intro K hK; go_big_quiet_op; (refine hK _ ?_; rfl)
      case hr => exact fun _ => rfl
      simp only [Act.put, sia, scs, scz])
   | (apply Any.E_val rfl rfl rfl rfl
      case h =>
        intro E' hA K hK
        first
          | ((with_reducible refine Any.at_qload (T := 22) ?_); refine Any.q_ldc 1000 hA (by decide) rfl rfl _ Tryz.underlying22 rfl (.slice fa fn fc) rfl ?_; refine hK _ ?_; rfl)
          | ((with_reducible refine Any.at_qload (T := 28) ?_); refine Any.q_ldc 1000 hA (by decide) rfl rfl _ Tryz.underlying28 rfl (.slice (some ⟨cb, co, none⟩) cn cc) rfl ?_; refine hK _ ?_; rfl)
          | ((with_reducible refine Any.at_qload (T := 22) ?_); refine Any.q_rd HPC.out (at_ * 3 + 1) rfl _ Tryz.underlying22 rfl (.slice (some ⟨db, d0, none⟩) dn dc) HCX.out ?_; refine hK _ ?_; rfl)
          | (go_big_quiet_op; first
            | (refine hK _ ?_; rfl)
            | (refine ⟨_, fun _ _ => rfl, ?_⟩; refine hK _ ?_; rfl)
            | (apply Exists.intro; refine ⟨fun w1 hw1 => ?_, ?_⟩; · (first
                | fail)
               refine hK _ ?_; rfl))
      case hD => rfl
      simp only [Act.put, sia, scs, scz])
   | ((with_reducible refine Any.at_ealloc ?_); refine Any.E_lay rfl rfl rfl (fun _ => rfl) ?_; intro B; simp only [Act.put, sia, scs, scz])
   | ((with_reducible refine Any.at_ebsl ?_); refine Any.E_bsl (n := 2) (z := #[.slice fa fn fc, .slice (some ⟨db, d0, none⟩) dn dc]) (t := 22) rfl rfl rfl (fun w' => (by unfold execOp; go_simp)) ?_; intro B; simp only [Act.put, sia, scs, scz])
   | ((with_reducible refine Any.at_ecall ?_); refine Any.E_callownA (W := (fun v x => AppRow v 1 (intsI (free ++ ds)) x)) rfl rfl rfl (Go.Proofs.enters_of Tryz.func101 (by kernel_rfl) rfl) rfl [.slice (some ⟨B, 0, none⟩) 2 2] rfl HWS.out (fun E' he w1 hw1 => ConcatI_two _ _ free ds B w1 (hw1.rd ((he 15 (by decide)).trans rfl) 2 1 rfl (by unfold maxLen; omega)) (hw1.rdold HPF.out.1 HPF.out.2) (hw1.rdold HPD.out.1 HPD.out.2) HT0.out HTM.out) ?_; intro v9 x9 hW9; obtain ⟨xb, xz⟩ := x9; obtain ⟨n9, c9, rfl, g9⟩ := id hW9; replace g9 := Lib.hid g9; replace hW9 := Lib.hid hW9; simp only [Act.put, sia, scs, scz])
   | ((with_reducible refine Any.at_estore (T := 22) ?_); refine Any.E_putc (T := 22) rfl rfl rfl rfl rfl rfl (by kernel_rfl) rfl (by simp) ?_; simp only [Act.put, sia, scs, scz]))
 try any_goals exact undef
 refine Any.E_nil ?_
 intro w9 hE9
 replace hv : Mem w0 w9 ([(bw, #[.int .i64 base, .int .i64 n, .slice (some ⟨xb, 0, none⟩) n9 c9, .int .u16 av, .int .u16 la, .slice (some ⟨cb, co, none⟩) cn cc, mv]), (xb, xz)] ++ L) _ := hE9.memr hv [1000, 16] (by decide)
 clear hE9
 simp only [List.cons_append, List.nil_append] at hv
 clear HPF HPD HPC g9
 have HROW := Lib.hid hW9.out
 clear hW9
 go_wp2_with (first
   | ((with_reducible refine at_load (T := 22) ?_); refine wl_ldc rfl bw 2 rfl _ hv.vars.ro _ Tryz.underlying22 rfl (.slice (some ⟨xb, 0, none⟩) n9 c9) rfl ?_)
   | (go_at_call 85; (with_reducible refine (SortI_M (hv.perm (List.Perm.swap _ _ _)) HROW.out HLL.out).mono ?_); rintro e w1 ⟨rfl, l9, z9, hp9, hs9, hr9, hv1⟩; have hv2 := Mem.yield (L1 := []) hv1 hr9; replace hv := hv2; clear hv1 hv2 hr9; simp only [List.nil_append] at hv)
   | ((with_reducible refine at_load (T := 28) ?_); refine wl_ldc rfl bw 5 rfl _ hv.vars.ro _ Tryz.underlying28 rfl (.slice (some ⟨cb, co, none⟩) cn cc) rfl ?_)
   | (go_at_call 103; (with_reducible refine (CClone_row ⟨cb, co, none⟩ cn cc (cellsC chs) _ (hv.rd (Mem.s HQ.out.ch)) (cellsC_one _) HCN.out).mono ?_); rintro e w1 ⟨yv, yx, rfl, hyr, hyn, hyg, hy1, hy2⟩; replace hv := hv.lay' hyg hyn hy1 hy2; clear hyn hyg hy1 hy2; obtain ⟨yb, yz⟩ := yx; obtain ⟨yn, yc, rfl, gy⟩ := id hyr; rw [cellsC_len] at gy; have hyn2 : yn = cn := by {have := gy.1; have := HCL.out; omega}; subst hyn2; replace hyr := Lib.hid hyr; clear gy)
   | (go_at_call 102; (with_reducible refine (Delete_row hv hyr.out at_ at1 HA1.out HAN.out HCN2.out).mono ?_); rintro e w1 ⟨n1, z1, rfl, hr1, hv1⟩; have hv2 := Mem.yield (L1 := []) hv1 hr1; replace hv := hv2; clear hv1 hv2 hr1; simp only [List.nil_append] at hv)
   | ((with_reducible refine at_store (T := 28) ?_); refine wl_stc rfl bw 5 rfl (.slice (some ⟨yb, 0, none⟩) n1 yc) rfl _ hv.vars.ro hv.vars.so (by kernel_rfl) rfl (by show 5 < 7; decide) ?_; intro w2 hw2; replace hv := hv.sets (by repeat first | exact .z | apply SetM.s) hw2; clear hw2))
 go_end0
 refine ⟨rfl, .slice (some ⟨xb, 0, none⟩) n9 c9, .slice (some ⟨yb, 0, none⟩) n1 yc, l9, _, hv, ⟨Mem.s Mem.z, Mem.z, fun c hc => ?_⟩, hp9, hs9, fun x hx => Mem.s (Mem.s hx)⟩
 exact Mem.s (Mem.s (HQ.out.ds c ((List.eraseIdx_sublist chs at_).subset hc)))
end Go.Proofs.YtjmibgomkgkhnaaGreat
end
