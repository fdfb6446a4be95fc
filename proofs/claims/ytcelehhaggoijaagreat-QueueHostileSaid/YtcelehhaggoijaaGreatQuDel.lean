/-
  slices.Clone and slices.Delete of chains.
-/
import Derived.Test.YtcelehhaggoijaaGreatQuCat
set_option linter.unusedVariables false
set_option linter.unusedSimpArgs false
namespace Go
open Go.RowKit
namespace Any
section
variable {P : Program} {ops : Array Oper} {β : Base} {S : Nat → Stat} {D : Nat → Kind} {Q : Act → Env → Prop} {k : Nat} {rest : List Oper} {a : Act} {E : Env}
variable {dst : Option Tmp} {ty t e : TypeId} {pos : String} {after : Array Edge} {g : Option (Nat × Bool)} {x y : Operand}
/-- append to the beginning of a row of what stands in that row. -/
theorem E_appself {i b at_ m cap cap2 o kk : Nat} {z z' : Array Value} {news : List Value} (hw : Region.wanted (⟨dst, .call { callee := .builtin .append, args := #[x, y], argTypes := #[t, t] }, ty, pos, after, g⟩ : Oper) (yielded ops a.tmps) = true)
    (hD : D k = .own (fun v x => v = .slice (some ⟨b, 0, none⟩) (at_ + m) cap ∧ x = (b, z'))) (hS : (S k).write = some i) (hx : a.eval x = .slice (some ⟨b, 0, none⟩) at_ cap) (hE : E i = some (b, z))
    (hy : a.eval y = .slice (some ⟨b, o, none⟩) m cap2) (hn : news.length = m * kk) (hnews : ∀ j u, news[j]? = some u → z[o + j]? = some u) (h1 : ∀ x ∈ news, x.oneCell' = true)
    (ht : P.underlying t = some (.slice e)) (hi : (P.info? e).map (·.size) = some kk) (hfit : at_ * kk + news.length ≤ z.size) (hroom : at_ + m ≤ cap) (hz : z' = (z.toList.take (at_ * kk) ++ news ++ z.toList.drop (at_ * kk + news.length)).toArray)
    (hk : wpE P ops β S D Q (k + 1) rest (a.put dst (.slice (some ⟨b, 0, none⟩) (at_ + m) cap)) (E.put i (b, z'))) : wpE P ops β S D Q k (⟨dst, .call { callee := .builtin .append, args := #[x, y], argTypes := #[t, t] }, ty, pos, after, g⟩ :: rest) a E := by
  obtain ⟨i0, hi1, hi2⟩ := Option.map_eq_some_iff.1 hi
  have hmem : i ∈ (S k).keys := by unfold Stat.keys; rw [hS]; simp
  refine E_own hw hD hS ⟨_, _, rfl, rfl⟩ (fun E' he w hv => ?_) (fun v x hW => by rw [hW.1, hW.2]; exact hk)
  have hE' : E' i = Option.some (b, z) := by rw [he i hmem]; exact hE
  obtain ⟨q1, q2, q3⟩ := hv.own i b z hE'
  obtain ⟨tt, htt⟩ := soft_heap q2
  rw [q1] at htt
  have r := run_append_room' (P := P) (w := w) t ty e tt i0 ht hi1 b at_ cap z htt ⟨b, o, none⟩ m cap2 news (by rw [hi2]; exact hn) (fun j u hj => by rw [Addr.add_none, cell_rowD, q1]; exact hnews j u hj) h1 hroom (by rw [hi2]; exact hfit)
  rw [hi2, ← hz] at r
  unfold res execOp
  simp only [resolve, invoke, builtin, Sem.run_bind, Sem.run_pure, Result.andThen_ok, List.map_toArray, List.map_cons, List.map_nil, hx, hy, r]
  exact ⟨(b, z'), ⟨rfl, rfl⟩, hv.fill (i := i) (B := b) (c0 := z) hE' (wrote_setRow q2)⟩
end
end Any
end Go
namespace Go.Proofs.Qu
open Go Go.RowKit Go.Proofs.Nm
theorem flat_take {α : Type} {k : Nat} {en : α → List Value} (hen : ∀ x, (en x).length = k) : ∀ (l : List α) (i : Nat), (l.flatMap en).take (i * k) = (l.take i).flatMap en := by
  intro l
  induction l with
  | nil => intro i; simp
  | cons x r ih =>
    intro i
    cases i with
    | zero => simp
    | succ i =>
      rw [List.flatMap_cons, List.take_succ_cons, List.flatMap_cons, ← ih i, List.take_append, hen, List.take_of_length_le (by rw [hen, Nat.succ_mul]; omega), show (i + 1) * k - k = i * k from by rw [Nat.succ_mul]; omega]
theorem flat_drop {α : Type} {k : Nat} {en : α → List Value} (hen : ∀ x, (en x).length = k) : ∀ (l : List α) (i : Nat), (l.flatMap en).drop (i * k) = (l.drop i).flatMap en := by
  intro l
  induction l with
  | nil => intro i; simp
  | cons x r ih =>
    intro i
    cases i with
    | zero => simp
    | succ i =>
      rw [List.flatMap_cons, List.drop_succ_cons, ← ih i, List.drop_append, hen, List.drop_of_length_le (by rw [hen, Nat.succ_mul]; omega), show (i + 1) * k - k = i * k from by rw [Nat.succ_mul]; omega, List.nil_append]
theorem cellsC_one (l : List Chn) : ∀ x ∈ cellsC l, x.oneCell' = true := fun x hx => by
  unfold cellsC at hx
  obtain ⟨c, _, h⟩ := List.mem_flatMap.1 hx
  exact encC_one c x h
/-- What the row holds once one was cut out. -/
theorem del_row {z : Array Value} {chs : List Chn} {n at_ cap : Nat} (hn : chs.length = n) (hz : z.size = cap * 3) (hnc : n ≤ cap) (ht : z.toList.take (n * 3) = cellsC chs) (hat : at_ < n) {z' : Array Value}
    (hz' : z' = (z.toList.take (at_ * 3) ++ cellsC (chs.drop (at_ + 1)) ++ z.toList.drop (at_ * 3 + (cellsC (chs.drop (at_ + 1))).length)).toArray) : z'.size = cap * 3 ∧ z'.toList.take ((n - 1) * 3) = cellsC (chs.eraseIdx at_) := by
  have hl : (cellsC (chs.drop (at_ + 1))).length = (n - (at_ + 1)) * 3 := by rw [cellsC_len, List.length_drop, hn]
  have hzl : z.toList.length = cap * 3 := by rw [Array.length_toList]; exact hz
  subst hz'
  constructor
  · simp only [List.size_toArray, List.length_append, List.length_take, List.length_drop, hzl, hl]
    omega
  · have e1 : z.toList.take (at_ * 3) = cellsC (chs.take at_) := by
      have : cellsC (chs.take at_) = (cellsC chs).take (at_ * 3) := (flat_take (en := encC) (fun _ => rfl) chs at_).symm
      rw [this, ← ht, List.take_take, Nat.min_eq_left (by omega)]
    rw [e1, List.eraseIdx_eq_take_drop_succ]
    have e2 : cellsC (chs.take at_) ++ cellsC (chs.drop (at_ + 1)) = cellsC (chs.take at_ ++ chs.drop (at_ + 1)) := by unfold cellsC; rw [List.flatMap_append]
    have e3 : (cellsC (chs.take at_ ++ chs.drop (at_ + 1))).length = (n - 1) * 3 := by rw [cellsC_len, List.length_append, List.length_take, List.length_drop, hn]; omega
    rw [← e2] at e3
    show List.take _ (cellsC (chs.take at_) ++ cellsC (chs.drop (at_ + 1)) ++ _) = _
    rw [List.take_append_of_le_length (by omega), List.take_of_length_le (by omega), e2]
theorem drop_news {z : Array Value} {chs : List Chn} {n at1 o : Nat} (ht : z.toList.take (n * 3) = cellsC chs) (ho : at1 < n → o = at1 * 3) (hn : chs.length = n) : ∀ j u, (cellsC (chs.drop at1))[j]? = some u → z[o + j]? = some u := fun j u hj => by
  have hlt := (List.getElem?_eq_some_iff.1 hj).1
  rw [cellsC_len, List.length_drop] at hlt
  have h1 : at1 < n := by omega
  rw [ho h1]
  have e : cellsC (chs.drop at1) = (cellsC chs).drop (at1 * 3) := (flat_drop (en := encC) (fun _ => rfl) chs at1).symm
  rw [e, List.getElem?_drop, ← ht, List.getElem?_take] at hj
  split at hj
  · rw [← Array.getElem?_toList]; exact hj
  · cases hj
theorem sliced_at {b j n cap : Nat} (hj : j ≤ n) (hn : n ≤ cap) : ∃ o, Go.sliced (some ⟨b, 0, none⟩) j n cap 3 = .slice (some ⟨b, o, none⟩) (n - j) (cap - j) ∧ (j < n → o = j * 3) := by
  unfold Go.sliced
  by_cases h : cap = j
  · exact ⟨0, by rw [if_pos h], fun _ => by omega⟩
  · exact ⟨j * 3, by rw [if_neg h, Option.map_some, Addr.add_none, Nat.zero_add], fun _ => rfl⟩
end Go.Proofs.Qu
namespace Go.Proofs.YtcelehhaggoijaaGreat
open Go.Proofs.Qu Go.Proofs.Nm Go.RowKit Go.Proofs
theorem CClone_isnil (a : Option Addr) (l c : Nat) (w : World) : (binOp .eql 30 (.slice a l c) (.slice none 0 0)).run Tryz.prog w = .ok (.bool a.isNone) w := by
  simp [binOp, Sem.run_bind, run_equal_slice_nil w 30 _ a l c Tryz.underlying30]
set_option maxRecDepth 100000 in
set_option maxHeartbeats 4000000 in
theorem CClone_nil (w : World) : Calls Tryz.prog 108 #[.slice none 0 0] w fun e w' => e = .returned (.slice none 0 0) ∧ w = w' := by
  have hnil := CClone_isnil
  go_enter Tryz.func108, Tryz.ntmps108
  go_wp2
  go_ret
  exact ⟨rfl, rfl⟩
set_option maxRecDepth 100000 in
set_option maxHeartbeats 4000000 in
theorem CClone_row (a : Addr) (n cap : Nat) (c : List Value) (w : World) (hr : Rd w 3 (.slice (some a) n cap) c) (h1 : ∀ x ∈ c, x.oneCell' = true) (hn : n ≤ 1000000) : Calls Tryz.prog 108 #[.slice (some a) n cap] w (OwnR 3 c w) := by
  have hv := (Mem.nil w).old hr
  have hl : c.length = n * 3 := by
    obtain ⟨_, _, _, e, g, _⟩ := hr
    cases e; exact g
  have H1 := Lib.hid h1
  have HA1 : Hid ((([] : List Value).length + c.length) / 3 ≤ maxLen) := Lib.hid (by rw [hl]; simp only [List.length_nil]; unfold maxLen; omega)
  have HA2 : Hid ((([] : List Value).length + c.length) / 3 * 40 ≤ 140737488355328) := Lib.hid (by rw [hl]; simp only [List.length_nil]; omega)
  have hnil := CClone_isnil
  clear hl h1 hn hr
  go_enter Tryz.func108, Tryz.ntmps108
  go_wp2_with (first
    | ((with_reducible refine at_append (t := 30) ?_); replace hv := hv.madeAt ⟨rfl, made_alloc _ #[] 115⟩; refine wl_apph rfl rfl hv (Any.AppRow.zero _ 3) (.agg #[.int .i64 0, .slice none 0 0, .int .i64 0]) 40 Tryz.underlying30 infoC3z rfl (by decide) rfl (hv.rd Mem.z) H1.out HA1.out HA2.out ?_; intro v3 w3 x3 hrow hv1; replace hv := hv1; clear hv1; obtain ⟨n3, c3, rfl, g3⟩ := id hrow; replace g3 := Lib.hid g3; replace hrow := Lib.hid hrow))
  go_ret
  exact OwnR.of (by have := hrow.out; rwa [List.nil_append] at this) hv
theorem wl_sliceVlh {P : Program} {ops : Array Oper} {rest : List Oper} {a : Act} {w : World} {Q : Exit → Act → World → Prop} {dst : Option Tmp} {ty T e : TypeId} {pos : String} {after : Array Edge} {g : Option (Nat × Bool)} {x xl xh : Operand} {k : Nat} (hgd : Region.wanted (⟨dst, .slice T x (some xl) (some xh) none, ty, pos, after, g⟩ : Oper) (yielded ops a.tmps) = true) {ao : Option Addr} {n cap : Nat} (hx : a.eval x = .slice ao n cap) (ht : P.underlying T = some (.slice e)) (hi0 : (P.info? e).map (·.size) = some k)
    (l h : Nat) {kl kh : IntKind} (hl : a.eval xl = .int kl (l : Nat)) (hh : a.eval xh = .int kh (h : Nat)) (h2 : l ≤ h) (h3 : h ≤ cap) {v : Value} (hv : sliced ao l h cap k = v)
    (hk : wpList P ops Q rest (a.put dst v) w) : wpList P ops Q (⟨dst, .slice T x (some xl) (some xh) none, ty, pos, after, g⟩ :: rest) a w := by
  subst hv
  refine wpList_want hgd fun K hK => ?_
  have hr := run_part (w := w) (ao := ao) (n := n) (cap := cap) ht hi0 (some (.int kl (l : Nat))) (some (.int kh (h : Nat))) none l h cap (bounds_lh h2 h3)
  unfold Oper.wp execOp
  simp only [Sem.run_bind, hx, hl, hh, Option.map_some, Option.map_none, hr, Result.andThen_ok, Sem.run_pure]
  exact hK _ _ hk
set_option maxRecDepth 100000 in
set_option maxHeartbeats 16000000 in
theorem Delete_row {w0 w : World} {L : List (Nat × Array Value)} {R : List (Nat × Value × List Value)} {b n cap : Nat} {z : Array Value} {chs : List Chn} (hv : Mem w0 w ((b, z) :: L) R) (hr : AppRow (.slice (some ⟨b, 0, none⟩) n cap) 3 (cellsC chs) (b, z)) (at_ at1 : Nat) (h1 : at1 = at_ + 1) (hat : at_ < n) (hn : n ≤ 1000) :
    Calls Tryz.prog 107 #[.slice (some ⟨b, 0, none⟩) n cap, .int .i64 (at_ : Nat), .int .i64 (at1 : Nat)] w fun e w' => ∃ n1 z', e = .returned (.slice (some ⟨b, 0, none⟩) n1 cap) ∧ AppRow (.slice (some ⟨b, 0, none⟩) n1 cap) 3 (cellsC (chs.eraseIdx at_)) (b, z') ∧ Mem w0 w' ((b, z') :: L) R := by
  obtain ⟨n9, cap9, e9, g1, g2, g3, g4, g5⟩ := hr
  cases e9
  rw [cellsC_len] at g1
  simp only at g4 g5
  have hcl : chs.length = n := by omega
  obtain ⟨o, hsa, ho⟩ := sliced_at (b := b) (j := at1) (n := n) (cap := cap) (by omega) g2
  obtain ⟨z1, hz1⟩ : ∃ z1, z1 = (z.toList.take (at_ * 3) ++ cellsC (chs.drop at1) ++ z.toList.drop (at_ * 3 + (cellsC (chs.drop at1)).length)).toArray := ⟨_, rfl⟩
  have hdr := del_row hcl g4 g2 g5 hat (z' := z1) (by rw [hz1, h1])
  have hnl : (cellsC (chs.drop at1)).length = (n - at1) * 3 := by rw [cellsC_len, List.length_drop, hcl]
  obtain ⟨n1, hn1⟩ : ∃ n1, n1 = at_ + (n - at1) := ⟨_, rfl⟩
  have hn1' : n1 = n - 1 := by omega
  obtain ⟨o6, hs6, ho6⟩ := sliced_at (b := b) (j := n1) (n := n) (cap := cap) (by omega) g2
  have ho6' : o6 = n1 * 3 := ho6 (by omega)
  subst ho6'
  rw [show n - n1 = 1 from by omega] at hs6
  rw [← hn1'] at hdr
  have HSA := Lib.hid hsa
  have HZ1 := Lib.hid hz1
  have HNL := Lib.hid hnl
  have HNW := Lib.hid (drop_news g5 ho hcl)
  have HFT : Hid (at_ * 3 + (cellsC (chs.drop at1)).length ≤ z.size) := Lib.hid (by rw [hnl, g4]; omega)
  have HRM : Hid (at_ + (n - at1) ≤ cap) := Lib.hid (by omega)
  have HAC : Hid (at_ ≤ cap) := Lib.hid (by omega)
  have HA1 : Hid (at1 ≤ n) := Lib.hid (by omega)
  have HA01 : Hid (at_ ≤ at1) := Lib.hid (by omega)
  have HNC : Hid (n ≤ cap) := Lib.hid g2
  have HN1N : Hid (n1 ≤ n) := Lib.hid (by omega)
  have HS6 := Lib.hid hs6
  have HDR := Lib.hid hdr
  have HG3 := Lib.hid g3
  have HN1E := Lib.hid hn1
  have HN1P : Hid (n1 = n - 1) := Lib.hid hn1'
  have HLC : Hid (n1 ≤ cap) := Lib.hid (by omega)
  have HCZ : Hid (n1 * 3 + 1 * (Value.agg #[.int .i64 0, .slice none 0 0, .int .i64 0]).cells.size ≤ z1.size) := Lib.hid (by rw [hdr.1]; show n1 * 3 + 1 * 3 ≤ _; omega)
  have HCE : Hid ((chs.eraseIdx at_).length = n1) := Lib.hid (by rw [List.length_eraseIdx, hcl, if_pos hat]; omega)
  have y1 : ((at_ : Int) == (at1 : Int)) = false := by rw [beq_eq_false_iff_ne]; omega
  have hne1 : ¬ n = at_ := by omega
  have hne2 : ¬ cap = n1 := by omega
  clear g1 g2 g3 g4 g5 hcl hsa ho hz1 hdr hnl hn1 hn1' hs6 ho6 h1 hat hn
  go_enter Tryz.func107, Tryz.ntmps107
  go_wp2_with (first
    | ((with_reducible refine at_slice (T := 30) ?_); refine wl_sliceV rfl rfl Tryz.underlying30 infoC3 at_ at1 n rfl rfl rfl HA01.out HA1.out HNC.out rfl ?_))
  have hv0 := hv
  clear hv
  have hv : Mem w0 _ ([(b, z)] ++ L) _ := hv0
  clear hv0
  refine Any.wp_region_walk [⟨[], none⟩, ⟨[], none⟩, ⟨[], none⟩, ⟨[], none⟩, ⟨[], none⟩, ⟨[], none⟩, ⟨[], some 1000⟩, ⟨[], none⟩] [.val, .val, .val, .val, .val, .val, .own (fun v x => v = .slice (some ⟨b, 0, none⟩) (at_ + (n - at1)) cap ∧ x = (b, z1)), .pure] (by kernel_rfl) (by kernel_rfl) (hv.vars.keep (List.sublist_append_left [(b, z)] L)) ?_
  simp only [List.length_cons, List.length_nil, Nat.zero_add, Any.someVals]
  iterate 8 apply Exists.intro
  repeat (first
    | (refine Any.E_off rfl ?_; simp only [Act.put, List.setIfInBounds_toArray, List.set_cons_succ, List.set_cons_zero])
    | (apply Any.E_pureq rfl rfl rfl
       case h => intro K hK; go_big_quiet_op; (refine hK _ ?_; rfl)
       case hr => exact fun _ => rfl
       simp only [Act.put, List.setIfInBounds_toArray, List.set_cons_succ, List.set_cons_zero])
    | (apply Any.E_val rfl rfl rfl rfl
       case h =>
         intro E' hA K hK
         first
           | ((with_reducible refine Any.at_qslice (T := 30) ?_); refine Any.q_slice rfl Tryz.underlying30 infoC3 none (some (.int .i64 (at_ : Nat))) none rfl rfl rfl 0 at_ cap (fun w => bounds_h HAC.out) sliced_zero ?_; refine hK _ ?_; rfl)
           | ((with_reducible refine Any.at_qslice (T := 30) ?_); refine Any.q_slice rfl Tryz.underlying30 infoC3 (some (.int .i64 (at1 : Nat))) none none rfl rfl rfl at1 n cap (fun w => bounds_l HA1.out) HSA.out ?_; refine hK _ ?_; rfl)
           | (go_big_quiet_op; first
             | (refine hK _ ?_; rfl)
             | (refine ⟨_, fun _ _ => rfl, ?_⟩; refine hK _ ?_; rfl)
             | (apply Exists.intro; refine ⟨fun w1 hw1 => ?_, ?_⟩; · (first
                 | fail)
                refine hK _ ?_; rfl))
       case hD => rfl
       simp only [Act.put, List.setIfInBounds_toArray, List.set_cons_succ, List.set_cons_zero])
    | ((with_reducible refine Any.at_ealloc ?_); refine Any.E_lay rfl rfl rfl (fun _ => rfl) ?_; intro B; simp only [Act.put, List.setIfInBounds_toArray, List.set_cons_succ, List.set_cons_zero])
    | ((with_reducible refine Any.at_eapp (t := 30) ?_); refine Any.E_appself (kk := 3) (o := o) (m := n - at1) (cap2 := cap - at1) (news := cellsC (chs.drop at1)) rfl rfl rfl rfl rfl rfl HNL.out HNW.out (cellsC_one _) Tryz.underlying30 infoC3 HFT.out HRM.out HZ1.out ?_; simp only [Act.put, List.setIfInBounds_toArray, List.set_cons_succ, List.set_cons_zero]))
  try any_goals exact undef
  refine Any.E_nil ?_
  intro w9 hE9
  replace hv : Mem w0 w9 ([(b, z1)] ++ L) _ := hE9.memr hv [1000] (by decide)
  clear hE9
  simp only [List.cons_append, List.nil_append] at hv
  rw [← HN1E.out]
  go_wp2_with (first
    | ((with_reducible refine at_slice (T := 30) ?_); refine wl_sliceVlh rfl rfl Tryz.underlying30 infoC3 n1 n rfl rfl HN1N.out HNC.out HS6.out ?_)
    | ((with_reducible refine at_clear (t := 30) ?_); refine wl_clear rfl rfl (by decide) Tryz.underlying30 (z := .agg #[.int .i64 0, .slice none 0 0, .int .i64 0]) (by kernel_rfl) (by decide) (hv.vars.row (b := b) (List.mem_cons_self ..)) (hv.vars.sft (b := b) (c := z1) (List.mem_cons_self ..)) HCZ.out ?_; intro w2 z2 hw2 hsz2 htk2; replace hv := hv.set 0 rfl hw2; simp only [List.set] at hv; clear hw2; replace hsz2 := Lib.hid hsz2; replace htk2 := Lib.hid htk2))
  go_ret
  refine ⟨n1, z2, rfl, ⟨n1, cap, rfl, by rw [cellsC_len, HCE.out], HLC.out, HG3.out, ?_, ?_⟩, hv⟩
  · show z2.size = _; rw [hsz2.out]; exact HDR.out.1
  · show z2.toList.take _ = _; rw [htk2.out]; exact HDR.out.2
end Go.Proofs.YtcelehhaggoijaaGreat
