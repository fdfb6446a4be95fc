import Derived.Test.YtjmibgomkgkhnaaGreatQuRV
import Derived.Test.YtjmibgomkgkhnaaGreatIdd
import Derived.Test.YtjmibgomkgkhnaaGreatVrMem
import Derived.Test.YtjmibgomkgkhnaaGreatBnp
import Derived.Test.YtjmibgomkgkhnaaGreatEq
import Derived.Test.YtjmibgomkgkhnaaGreatVnPT
set_option linter.unusedSimpArgs false
set_option linter.unusedVariables false
set_option maxRecDepth 100000
set_option maxHeartbeats 16000000
section
/-
 A card behind two rings (layer 10): which of its queues' halves may be.
-/
namespace Go.Proofs.Qu
open Go Go.RowKit Go.Proofs.Nm
theorem rd_part {w : World} {b o n : Nat} {c : Array Value} {l : List Value} (hr : w.rowD b = c) (hs : w.soft b = true) (hl : l.length = n) (hc : ∀ i, i < n → c[o + i]? = l[i]?) (hn : n ≤ maxLen) : Rd w 1 (.slice (some ⟨b, o, none⟩) n n) l :=
 ⟨some ⟨b, o, none⟩, n, n, rfl, by rw [hl, Nat.mul_one], Nat.le_refl _, hn, (fun h => by cases h), fun i hi => ⟨b, o, rfl, soft_lt hs, by rw [cell_rowD, hr]; exact hc i (by omega)⟩⟩
theorem rd_four {w : World} {b o : Nat} {c : Array Value} {x0 x1 x2 x3 : Nat} (hr : w.rowD b = c) (hs : w.soft b = true) (h0 : c[o + 0]? = some (.int .i64 x0)) (h1 : c[o + 1]? = some (.int .i64 x1)) (h2 : c[o + 2]? = some (.int .i64 x2)) (h3 : c[o + 3]? = some (.int .i64 x3)) : Rd w 1 (.slice (some ⟨b, o, none⟩) 4 4) (intsI [x0, x1, x2, x3]) := by
 refine rd_part (n := 4) hr hs rfl (fun i hi => ?_) (by unfold maxLen; omega)
 rcases (show i = 0 ∨ i = 1 ∨ i = 2 ∨ i = 3 from by omega) with rfl | rfl | rfl | rfl
 · exact h0
 · exact h1
 · exact h2
 · exact h3
def inT (B : List Nat) (k : Nat) : List Int := ((B.drop k).filter (· != 0)).map Int.ofNat
theorem inT_zero {B : List Nat} {k b : Nat} (h : B[k]? = some b) (h0 : b = 0) : inT B k = inT B (k + 1) := by
 have hk := (List.getElem?_eq_some_iff.1 h)
 obtain ⟨hk, e⟩ := hk
 unfold inT
 rw [List.drop_eq_getElem_cons hk, e, List.filter_cons_of_neg (by simpa using h0)]
theorem inT_some {B : List Nat} {k b : Nat} (h : B[k]? = some b) (h0 : b ≠ 0) : inT B k = (b : Int) :: inT B (k + 1) := by
 obtain ⟨hk, e⟩ := List.getElem?_eq_some_iff.1 h
 unfold inT
 rw [List.drop_eq_getElem_cons hk, e, List.filter_cons_of_pos (by simpa using h0), List.map_cons]
 rfl
theorem inT_end {B : List Nat} (h : B.length = 4) : inT B 4 = [] := by
 unfold inT
 rw [List.drop_eq_nil_of_le (by omega)]; rfl
def hdsT (chs : List Chn) (k : Nat) : List Int := (chs.take k).map fun c => ((c.h + 1 : Nat) : Int)
theorem hdsT_succ {chs : List Chn} {k : Nat} (h : k < chs.length) : hdsT chs (k + 1) = hdsT chs k ++ [((chs[k].h + 1 : Nat) : Int)] := by
 unfold hdsT
 rw [List.take_succ_eq_append_getElem h, List.map_append]; rfl
theorem hdsT_not {chs : List Chn} {k : Nat} (hn : (chs.map (·.h)).Nodup) (h : k < chs.length) : ((chs[k].h + 1 : Nat) : Int) ∉ hdsT chs k := by
 intro hm
 unfold hdsT at hm
 obtain ⟨c, hc, e⟩ := List.mem_map.1 hm
 obtain ⟨j, hj, e2⟩ := List.mem_take_iff_getElem.1 hc
 have e3 : (chs.map (·.h))[j]'(by rw [List.length_map]; omega) = (chs.map (·.h))[k]'(by rw [List.length_map]; exact h) := by
   rw [List.getElem_map, List.getElem_map, e2]
   have : ((c.h + 1 : Nat) : Int) = ((chs[k].h + 1 : Nat) : Int) := e
   omega
 have := (List.getElem_inj hn).1 e3
 omega
end Go.Proofs.Qu
namespace Go.Proofs.YtjmibgomkgkhnaaGreat
open Go.Proofs.Qu Go.Proofs.Nm Go.RowKit Go.Proofs
theorem zero_bool (w : World) : (zeroValue 4).run Tryz.prog w = .ok (.bool false) w := by simp only [go_sem, Tryz.zeroValue4]
theorem infoA4 : (Tryz.prog.info? 31).map (·.size) = some 4 := by kernel_rfl
theorem wf_int {n : Int} (h : 0 ≤ n) (h2 : n ≤ 1000000) : (Lit.int .i64 n).wf = true := by
 simp only [Lit.wf, Bool.and_eq_true, decide_eq_true_eq]
 have h1 : IntKind.i64.min = -9223372036854775808 := by decide
 have h2 : IntKind.i64.max = 9223372036854775807 := by decide
 omega
theorem Index_any (v : Value) (l : List Nat) (x : Nat) (hx : x ≤ 1000000) (hl : ∀ y ∈ l, y ≤ 1000000) (hn : l.length ≤ 1000) (w : World) (hr : Rd w 1 v (intsI l)) : Calls Tryz.prog 36 #[v, .int .i64 x] w fun e w' => e = .returned (.int .i64 (idxF (· == x) l)) ∧ New w w' := by
 have hv := (Mem.nil w).old hr
 obtain ⟨aa, an, ac, rfl, g, gx⟩ := id hr
 clear gx
 rw [intsI_len, Nat.mul_one] at g
 have HL : Hid ((1, Value.slice aa an ac, intsI l) ∈ [(1, Value.slice aa an ac, intsI l)]) := Lib.hid Mem.z
 have HG := Lib.hid g
 have HB := Lib.hid hl
 have HN := Lib.hid hn
 obtain ⟨r, hr0⟩ : ∃ r, idxF (· == x) l = r := ⟨_, rfl⟩
 have HR := Lib.hid hr0
 rw [hr0]
 clear hr hl hn g hr0
 go_enter Tryz.func36, Tryz.ntmps36
 go_wp2
 go_loopw [8] (fun iv wr => ∃ k : Nat, k ≤ an ∧ iv = .int .i64 k ∧ Hid (∀ j, j < k → ∀ y, l[j]? = some y → (y == x) = false) ∧ Mem w wr [] [(1, Value.slice aa an ac, intsI l)]) (fun iv _ => 2000 - (intOf iv).toNat)
 case atStart => exact ⟨0, Nat.zero_le _, rfl, Lib.hid (fun j hj => absurd hj (Nat.not_lt_zero _)), hv⟩
 case round =>
   clear hv
   obtain ⟨k, hk0, rfl, HJ, hv⟩ := hrel
   have hn1 := HN.out
   have hg1 := HG.out
   by_cases hk : k < an
   · have y9 : decide ((k : Int) < (an : Int)) = true := decide_eq_true (by omega)
     have z9 : decide (k < an) = true := decide_eq_true hk
     have hkl : k < l.length := by omega
     obtain ⟨y, hy⟩ : ∃ y, l[k] = y := ⟨_, rfl⟩
     have HY : Hid ((intsI l)[k]? = some (.int .i64 y)) := Lib.hid (by unfold intsI; rw [List.getElem?_map, List.getElem?_eq_getElem hkl, hy]; rfl)
     have HYL : Hid (l[k]? = some y) := Lib.hid (by rw [List.getElem?_eq_getElem hkl, hy])
     obtain ⟨lb, lo, _, _, e, hq⟩ := (hv.rd HL.out).some (by rw [intsI_len]; omega)
     clear hq
     cases e
     have hki : (k : Int) ≤ 1000 := by omega
     have hka : (k : Int) < (an : Int) := by omega
     have HK := Lib.hid hk
     by_cases hxy : y = x
     · have ye : ((x : Int) == (y : Int)) = true := by rw [hxy]; simp
       have HRR : Hid ((k : Int) = r) := Lib.hid (by
         rw [← HR.out]
         exact (idxF_some (x := y) HYL.out (by simpa using hxy) HJ.out).symm)
       clear hk hk0 hkl hy hxy hn1 hg1
       go_wp2_with (first
         | ((with_reducible refine at_load (T := 3) ?_); refine wl_rd rfl (c := intsI l) (hv.rd HL.out) k rfl _ Tryz.underlying3 rfl (.int .i64 y) HY.out ?_))
       try rw [Exit.noGoto_ret]
       go_ret
       exact ⟨by have h9 := HRR.out; subst h9; rfl, hv.below⟩
     · have ye : ((x : Int) == (y : Int)) = false := beq_eq_false_iff_ne.2 (by omega)
       have HJ2 : Hid (∀ j, j < k + 1 → ∀ y, l[j]? = some y → (y == x) = false) := Lib.hid (fun j hj z hz => by
         rcases Nat.lt_succ_iff_lt_or_eq.1 hj with hj | rfl
         · exact HJ.out j hj z hz
         · rw [HYL.out] at hz; cases hz; simpa using hxy)
       clear hk hk0 hkl hy hxy hn1 hg1
       go_wp2_with (first
         | ((with_reducible refine at_load (T := 3) ?_); refine wl_rd rfl (c := intsI l) (hv.rd HL.out) k rfl _ Tryz.underlying3 rfl (.int .i64 y) HY.out ?_))
       have hk1 := HK.out
       go_roundw
       case rel => exact ⟨k + 1, hk1, by go_num, HJ2, hv⟩
       case measure => simp [intOf]; omega
   · have y9 : decide ((k : Int) < (an : Int)) = false := decide_eq_false (by omega)
     have z9 : decide (k < an) = false := decide_eq_false hk
     have HRR : Hid (r = -1) := Lib.hid (by
       rw [← HR.out]
       exact idxF_none fun j hj y hy => HJ.out j (by omega) y hy)
     clear hk hk0 hn1 hg1
     go_wp2
     go_ret
     exact ⟨by have h9 := HRR.out; subst h9; rfl, hv.below⟩
theorem of_any (b0 b1 b2 b3 hd : Nat) (hb : ∀ y ∈ [b0, b1, b2, b3], y ≤ 1000) (hh : hd ≤ 1000) (w : World) : Calls Tryz.prog 33 #[.agg #[.int .i64 b0, .int .i64 b1, .int .i64 b2, .int .i64 b3], .int .i64 hd] w fun e w' => e = .returned (.int .i64 (idxF (· == hd + 1) [b0, b1, b2, b3])) ∧ New w w' := by
 have hv := Mem.nil w
 have HB : Hid (∀ y ∈ [b0, b1, b2, b3], y ≤ 1000000) := Lib.hid (fun y hy => Nat.le_trans (hb y hy) (by decide))
 have HH : Hid (hd + 1 ≤ 1000000) := Lib.hid (by omega)
 have HLE : Hid ([b0, b1, b2, b3].length ≤ 1000) := Lib.hid (by show 4 ≤ 1000; decide)
 have q1 : IntKind.i64.wrap ((hd : Int) + 1) = ((hd + 1 : Nat) : Int) := by rw [IntWalk.i64_in _ (by omega)]; omega
 obtain ⟨r, hr0⟩ : ∃ r, idxF (· == hd + 1) [b0, b1, b2, b3] = r := ⟨_, rfl⟩
 have HR := Lib.hid hr0
 rw [hr0]
 obtain ⟨h1, e1⟩ : ∃ h1, hd + 1 = h1 := ⟨_, rfl⟩
 rw [e1] at q1 HH HR
 clear hb hh hr0 e1
 go_enter Tryz.func33, Tryz.ntmps33
 go_wp2_with (first
   | ((with_reducible refine at_box (T := 31) (dst := some 2) ?_); refine wl_newb rfl #[.int .i64 b0, .int .i64 b1, .int .i64 b2, .int .i64 b3] 31 (fun _ => rfl) ?_; intro b_2 w2 hm2; replace hv := hv.madeAt hm2; clear hm2)
   | (go_at_call 36; have HRD := rd_four (o := 0) (x0 := b0) (x1 := b1) (x2 := b2) (x3 := b3) (hv.vars.ro (b := b_2)) (hv.vars.so (b := b_2)) rfl rfl rfl rfl; (with_reducible refine (Index_any _ _ _ HH.out HB.out HLE.out _ HRD).mono ?_); rw [HR.out]; rintro e w1 ⟨rfl, hn1⟩; replace hv := hv.new hn1; clear hn1 HRD))
 go_ret
 exact ⟨rfl, hv.below⟩
end Go.Proofs.YtjmibgomkgkhnaaGreat
end

section
/-
 A card behind two rings (layer 10): a queue and its buffers may be.
-/
namespace Go
open Go.RowKit
section
variable {P : Program} {ops : Array Oper} {rest : List Oper} {a : Act} {w : World} {Q : Exit → Act → World → Prop}
variable {dst : Option Tmp} {ty T e : TypeId} {pos : String} {after : Array Edge} {g : Option (Nat × Bool)} {x y : Operand}
theorem at_aindex (h : wpList P ops Q (⟨dst, .index T x y, ty, pos, after, g⟩ :: rest) a w) : wpList P ops Q (⟨dst, .index T x y, ty, pos, after, g⟩ :: rest) a w := h
theorem wl_index (hgd : Region.wanted (⟨dst, .index T x y, ty, pos, after, g⟩ : Oper) (yielded ops a.tmps) = true) {cs : Array Value} (hx : a.eval x = .agg cs) {i : Nat} {j : Int} (hj : j = (i : Nat)) (hy : a.eval y = .int .i64 j) {n : Nat} (ht : P.underlying T = some (.array n e)) {d : TypeDesc} (he : P.underlying e = some d) (hd : d.isRow = false) (hi : (P.info? e).map (·.size) = some 1) (hin : i < n) {v : Value} (hv : cs[i]? = some v)
   (hk : wpList P ops Q rest (a.put dst v) w) : wpList P ops Q (⟨dst, .index T x y, ty, pos, after, g⟩ :: rest) a w := by
 subst hj
 refine wpList_want hgd fun K hK => ?_
 cases hq : P.info? e with
 | none => simp [hq] at hi
 | some inf =>
   have hsz : inf.size = 1 := by simpa [hq] using hi
   have h1 : (0 : Int) ≤ (i : Int) ∧ (i : Int) < (n : Int) := by omega
   have hp := run_part_cell (P := P) w e cs i v d he hd hv
   have hr : (Instr.index T (.agg cs) (.int .i64 i)).run P w = .ok v w := by
     unfold Instr.index
     simp [run_underlying ht, asIntOf, h1, sizeOf, typeInfo, hq, hsz, hp]
     intro h; omega
   unfold Oper.wp execOp
   simp only [hx, hy, Sem.run_bind, hr, Result.andThen_ok, Sem.run_pure]
   exact hK _ _ hk
end
end Go
namespace Go.Proofs.Qu
open Go Go.RowKit Go.Proofs.Nm
theorem heads_sub : ∀ (chs : List Chn), (∀ c ∈ chs, c.ds[0]? = some c.h) → (chs.map (·.h)).Sublist (chs.flatMap (·.ds))
 | [], _ => .slnil
 | c :: r, h => by
   have h1 : [c.h].Sublist c.ds := by
     have h0 := h c (List.mem_cons_self ..)
     cases hd : c.ds with
     | nil => rw [hd] at h0; cases h0
     | cons x l => rw [hd] at h0; cases h0; exact List.Sublist.cons_cons _ (List.nil_sublist _)
   rw [List.map_cons, List.flatMap_cons]
   exact List.Sublist.append h1 (heads_sub r fun d hd => h d (List.mem_cons_of_mem _ hd))
theorem OkQ.heads {n : Nat} {free : List Nat} {chs : List Chn} (h : OkQ n free chs) : (chs.map (·.h)).Nodup := by
 have h1 := h.all.nodup_iff.2 List.nodup_range
 rw [List.nodup_append] at h1
 exact (heads_sub chs fun c hc => (h.hd c hc).1).nodup h1.2.1
end Go.Proofs.Qu
namespace Go.Proofs.YtjmibgomkgkhnaaGreat
open Go.Proofs.Qu Go.Proofs.Nm Go.RowKit Go.Proofs
theorem QCk_0 {w0 w : World} {L : List (Nat × Array Value)} {R : List (Nat × Value × List Value)} (hv : Mem w0 w L R) {av la : Nat} {fv cv : Value} {free : List Nat} {chs : List Chn} (hq : InQ R fv cv free chs) (ho : OkQ 4 free chs) : Calls Tryz.prog 50 #[.agg #[.int .i64 0, .int .i64 4, fv, .int .u16 av, .int .u16 la, cv]] w fun e w' => e = .returned (.bool true) ∧ New w w' := QCheck_ok (base := 0) (n := 4) hv hq ho
theorem QCk_120 {w0 w : World} {L : List (Nat × Array Value)} {R : List (Nat × Value × List Value)} (hv : Mem w0 w L R) {av la : Nat} {fv cv : Value} {free : List Nat} {chs : List Chn} (hq : InQ R fv cv free chs) (ho : OkQ 4 free chs) : Calls Tryz.prog 50 #[.agg #[.int .i64 120, .int .i64 4, fv, .int .u16 av, .int .u16 la, cv]] w fun e w' => e = .returned (.bool true) ∧ New w w' := QCheck_ok (base := 120) (n := 4) hv hq ho
theorem half_0 {w0 w : World} {L : List (Nat × Array Value)} {R : List (Nat × Value × List Value)} (hv : Mem w0 w L R) {av la fn fc cn cc : Nat} {fa ca : Option Addr} {free : List Nat} {chs : List Chn} (b0 b1 b2 b3 : Nat) (hq : InQ R (.slice fa fn fc) (.slice ca cn cc) free chs) (ho : OkQ 4 free chs) (hbl : ∀ y ∈ [b0, b1, b2, b3], y ≤ 1000) (hp : (hdsT chs chs.length).Perm (inT [b0, b1, b2, b3] 0)) :
   Calls Tryz.prog 35 #[.agg #[.int .i64 0, .int .i64 4, .slice fa fn fc, .int .u16 av, .int .u16 la, .slice ca cn cc], .agg #[.int .i64 b0, .int .i64 b1, .int .i64 b2, .int .i64 b3]] w fun e w' => e = .returned (.bool true) ∧ New w w' := by
 have hv0 := hv
 clear hv
 have hv : Mem w w [] R := ⟨Vars.nil w, fun x hx => ⟨(hv0.rds x hx).1, fun _ _ _ _ _ _ p hp => (List.not_mem_nil hp).elim⟩⟩
 clear hv0
 have hcl : chs.length = cn := by
   obtain ⟨_, _, _, e, g, _⟩ := hv.rd hq.ch
   cases e
   rw [cellsC_len] at g; omega
 have hc4 : chs.length ≤ 4 := by
   have h1 := ho.heads
   have h2 := ho.len
   have h3 : chs.length ≤ (chs.flatMap (·.ds)).length := chs_len (fun c hc => (ho.hd c hc).1)
   omega
 have HQ := Lib.hid hq
 have HO := Lib.hid ho
 have HCL := Lib.hid hcl
 have HBL := Lib.hid hbl
 have HPP := Lib.hid hp
 have HND := Lib.hid ho.heads
 have HHL : Hid (∀ c ∈ chs, c.h ≤ 1000) := Lib.hid (fun c hc => by
   have h1 := ho.le c.h (List.mem_append_right _ (List.mem_flatMap.2 ⟨c, hc, List.mem_of_getElem? (ho.hd c hc).1⟩))
   omega)
 have HC4 : Hid (cn ≤ 4) := Lib.hid (by omega)
 clear hq ho hbl hp hcl hc4
 go_enter Tryz.func35, Tryz.ntmps35
 go_wp2_with (first
   | ((with_reducible refine at_box (T := 30) (dst := some 2) ?_); refine wl_newb rfl #[.int .i64 0, .int .i64 4, .slice fa fn fc, .int .u16 av, .int .u16 la, .slice ca cn cc] 30 (fun _ => rfl) ?_; intro b_2 w2 hm2; replace hv := hv.madeAt hm2; clear hm2)
   | ((with_reducible refine at_box (T := 31) (dst := some 3) ?_); refine wl_newb rfl #[.int .i64 b0, .int .i64 b1, .int .i64 b2, .int .i64 b3] 31 (fun _ => rfl) ?_; intro b_3 w2 hm2; replace hv := hv.madeAt hm2; clear hm2)
   | ((with_reducible refine at_load (T := 30) ?_); refine wl_ldv rfl b_2 rfl _ hv.vars.ro 6 _ Tryz.underlying30 rfl infoQ (by decide) rfl ?_)
   | (go_at_call 50; (with_reducible refine (QCk_0 hv HQ.out HO.out).mono ?_); rintro e w1 ⟨rfl, hn1⟩; replace hv := hv.new hn1; clear hn1)
   | ((with_reducible refine at_load (T := 3) ?_); refine wl_ldc rfl b_2 1 rfl _ hv.vars.ro _ Tryz.underlying3 rfl (.int .i64 4) rfl ?_)
   | ((with_reducible refine at_mkmap ?_); refine wl_idmade rfl hv 3 4 ?_; intro bm w2 hge hv1 hM; replace hv := hv1; have HGE := Lib.hid hge; have HM := Lib.hid hM; clear hv1 hge hM)
   | ((with_reducible refine at_load (T := 28) ?_); refine wl_ldc rfl b_2 5 rfl _ hv.vars.ro _ Tryz.underlying28 rfl (.slice ca cn cc) rfl ?_))
 go_loopw [22] (fun iv wr => ∃ k : Nat, k ≤ cn ∧ iv = .int .i64 k ∧ Hid (IdS Tryz.prog 3 4 wr bm k (hdsT chs k)) ∧ Mem w wr [(b_3, #[.int .i64 b0, .int .i64 b1, .int .i64 b2, .int .i64 b3]), (b_2, #[.int .i64 0, .int .i64 4, .slice fa fn fc, .int .u16 av, .int .u16 la, .slice ca cn cc])] R) (fun iv _ => 100 - (intOf iv).toNat)
 case atStart => exact ⟨0, Nat.zero_le _, rfl, Lib.hid (by unfold hdsT; exact HM.out), hv⟩
 case round =>
   clear hv HM
   obtain ⟨k, hk0, rfl, HM, hv⟩ := hrel
   by_cases hk : k < cn
   · have y9 : decide ((k : Int) < (cn : Int)) = true := decide_eq_true (by omega)
     have z9 : decide (k < cn) = true := decide_eq_true hk
     have hkl : k < chs.length := by rw [HCL.out]; exact hk
     have hc4 := HC4.out
     obtain ⟨⟨c_h, c_b, c_0, c_n, c_c, c_r, c_ds⟩, hc⟩ : ∃ c, chs[k] = c := ⟨_, rfl⟩
     have HKC : Hid (((cellsC chs).drop (k * 3)).take 3 = [.int .i64 c_h, .slice (some ⟨c_b, c_0, none⟩) c_n c_c, .int .i64 c_r]) := Lib.hid (by
       have := part_flat (k := 3) (en := encC) (fun _ => rfl) chs k hkl
       rw [hc] at this; exact this)
     have hhl := HHL.out chs[k] (List.getElem_mem hkl)
     rw [hc] at hhl
     have hhl2 : c_h ≤ 1000 := hhl
     obtain ⟨h1, e1⟩ : ∃ h1, c_h + 1 = h1 := ⟨_, rfl⟩
     have q1 : IntKind.i64.wrap ((c_h : Int) + 1) = (h1 : Int) := by rw [IntWalk.i64_in _ (by omega)]; omega
     have HNI : Hid ((h1 : Int) ∉ hdsT chs k) := Lib.hid (by
       have := hdsT_not HND.out hkl
       rw [hc] at this
       rw [← e1]; exact this)
     have HSU : Hid (hdsT chs (k + 1) = hdsT chs k ++ [(h1 : Int)]) := Lib.hid (by
       rw [hdsT_succ hkl, hc, ← e1])
     have HWF : Hid ((Lit.int .i64 (h1 : Int)).wf = true) := Lib.hid (wf_int (by omega) (by omega))
     have HKM : Hid (k < maxLen) := Lib.hid (by unfold maxLen; omega)
     obtain ⟨xb, xo, _, _, e, hqq⟩ := (hv.rd HQ.out.ch).some (by rw [cellsC_len]; omega)
     clear hqq
     cases e
     have hki : (k : Int) ≤ 4 := by omega
     have hkc : (k : Int) < (cn : Int) := by omega
     have HKN := Lib.hid hk
     clear hkl hc hk0 hk hhl hhl2 e1 hc4
     go_wp2_with (first
       | ((with_reducible refine at_load (T := 124) ?_); refine wl_rdv rfl (hv.rd HQ.out.ch) (k * 3) rfl 3 _ Tryz.underlying124 rfl infoC3 (by decide) #[.int .i64 c_h, .slice (some ⟨c_b, c_0, none⟩) c_n c_c, .int .i64 c_r] HKC.out rfl ?_)
       | ((with_reducible refine at_alloc (T := 124) (dst := some 7) ?_); refine wl_newb rfl #[.int .i64 0, .slice none 0 0, .int .i64 0] 124 (fun _ => rfl) ?_; intro b7 w2 hm2; replace HM := Lib.hid (IdS.new HM.out hm2.made.new); replace hv := hv.madeAt hm2; clear hm2)
       | ((with_reducible refine at_store (T := 124) ?_); refine wl_stv rfl b7 rfl _ rfl _ hv.vars.ro hv.vars.so 3 infoC3 rfl rfl (by simp [Value.oneCell']) ?_; intro w2 hw2; replace HM := Lib.hid (IdS.wrote HM.out hw2 (hv.vars.so (b := b7))); replace hv := hv.sets (by repeat first | exact .z | apply SetM.s) hw2; clear hw2)
       | ((with_reducible refine at_load (T := 3) ?_); refine wl_ldc rfl b7 0 rfl _ hv.vars.ro _ Tryz.underlying3 rfl (.int .i64 c_h) rfl ?_)
       | ((with_reducible refine at_mapUpdate ?_); refine wl_idput rfl hv HGE.out rfl rfl rfl HM.out Tryz.underlying3 Tryz.underlying122 Tryz.underlying4 HKM.out HWF.out HNI.out ?_; intro w2 hv1 hM1; replace hv := hv1; replace HM := Lib.hid hM1; clear hv1 hM1))
     have hkn := HKN.out
     go_roundw
     case rel => exact ⟨k + 1, hkn, by go_num, Lib.hid (by rw [HSU.out]; exact HM.out), hv.drop⟩
     case measure => simp [intOf]; omega
   · have y9 : decide ((k : Int) < (cn : Int)) = false := decide_eq_false (by omega)
     have z9 : decide (k < cn) = false := decide_eq_false hk
     obtain rfl : cn = k := by omega
     have HP0 : Hid ((hdsT chs cn).Perm (inT [b0, b1, b2, b3] 0)) := Lib.hid (by rw [← HCL.out]; exact HPP.out)
     clear hk hk0
     go_wp2_with (first
       | ((with_reducible refine at_load (T := 31) ?_); refine wl_ldv rfl b_3 rfl _ hv.vars.ro 4 _ Tryz.underlying31 rfl infoA4 (by decide) rfl ?_))
     go_loopw [32] (fun iv wr => ∃ (j n : Nat) (ids : List Int), j ≤ 4 ∧ iv = .int .i64 j ∧ Hid (IdS Tryz.prog 3 4 wr bm n ids) ∧ Hid (ids.Perm (inT [b0, b1, b2, b3] j)) ∧ Mem w wr [(b_3, #[.int .i64 b0, .int .i64 b1, .int .i64 b2, .int .i64 b3]), (b_2, #[.int .i64 0, .int .i64 4, .slice fa fn fc, .int .u16 av, .int .u16 la, .slice ca cn cc])] R) (fun iv _ => 4 - (intOf iv).toNat)
     case atStart => exact ⟨0, cn, _, by decide, rfl, HM, HP0, hv⟩
     case round =>
       clear hv HM HP0
       obtain ⟨j, n, ids, hj, rfl, HM, HP, hv⟩ := hrel
       rcases (show j = 0 ∨ j = 1 ∨ j = 2 ∨ j = 3 ∨ j = 4 from by omega) with rfl | rfl | rfl | rfl | rfl
       · clear hj
         simp only [Int.natCast_zero]
         by_cases hb0 : b0 = 0
         · have ye : ((b0 : Int) == 0) = true := by rw [hb0]; rfl
           have HP2 : Hid (ids.Perm (inT [b0, b1, b2, b3] 1)) := Lib.hid (by have h9 := HP.out; rw [inT_zero (B := [b0, b1, b2, b3]) (k := 0) rfl hb0] at h9; exact h9)
           clear hb0
           go_wp2_with (first
             | ((with_reducible refine at_aindex ?_); refine wl_index rfl rfl (i := 0) (j := 0) rfl rfl Tryz.underlying31 Tryz.underlying3 rfl infoI1 (by decide) (v := .int .i64 b0) rfl ?_))
           go_roundw
           case rel => exact ⟨1, n, ids, by decide, by go_num, HM, HP2, hv⟩
           case measure => simp [intOf]
         · have ye : ((b0 : Int) == 0) = false := beq_eq_false_iff_ne.2 (by omega)
           have HP9 : Hid (ids.Perm ((b0 : Int) :: inT [b0, b1, b2, b3] 1)) := Lib.hid (by have h9 := HP.out; rw [inT_some (B := [b0, b1, b2, b3]) (k := 0) rfl hb0] at h9; exact h9)
           have HIN : Hid (decide ((b0 : Int) ∈ ids) = true) := Lib.hid (decide_eq_true (HP9.out.mem_iff.2 (List.mem_cons_self ..)))
           have HP2 : Hid ((ids.erase (b0 : Int)).Perm (inT [b0, b1, b2, b3] 1)) := Lib.hid (by have h9 := HP9.out.erase (b0 : Int); rw [List.erase_cons_head] at h9; exact h9)
           have HWF : Hid ((Lit.int .i64 (b0 : Int)).wf = true) := Lib.hid (wf_int (by omega) (by have h9 := HBL.out b0 (by simp); omega))
           clear hb0 HP9
           go_wp2_with (first
             | ((with_reducible refine at_aindex ?_); refine wl_index rfl rfl (i := 0) (j := 0) rfl rfl Tryz.underlying31 Tryz.underlying3 rfl infoI1 (by decide) (v := .int .i64 b0) rfl ?_)
             | ((with_reducible refine at_lookup ?_); refine wl_idlook rfl rfl rfl HM.out Tryz.underlying3 Tryz.underlying122 Tryz.underlying4 (zero_bool _) HWF.out HIN.out ?_)
             | ((with_reducible refine at_delete ?_); refine wl_iddel rfl hv HGE.out rfl rfl HM.out Tryz.underlying3 Tryz.underlying122 HWF.out (of_decide_eq_true HIN.out) ?_; intro w2 hv1 hM1; replace hv := hv1; replace HM := Lib.hid hM1; clear hv1 hM1))
           go_roundw
           case rel => exact ⟨1, n, ids.erase (b0 : Int), by decide, by go_num, HM, HP2, hv⟩
           case measure => simp [intOf]
       · clear hj
         simp only [Int.natCast_one]
         by_cases hb1 : b1 = 0
         · have ye : ((b1 : Int) == 0) = true := by rw [hb1]; rfl
           have HP2 : Hid (ids.Perm (inT [b0, b1, b2, b3] 2)) := Lib.hid (by have h9 := HP.out; rw [inT_zero (B := [b0, b1, b2, b3]) (k := 1) rfl hb1] at h9; exact h9)
           clear hb1
           go_wp2_with (first
             | ((with_reducible refine at_aindex ?_); refine wl_index rfl rfl (i := 1) (j := 1) rfl rfl Tryz.underlying31 Tryz.underlying3 rfl infoI1 (by decide) (v := .int .i64 b1) rfl ?_))
           go_roundw
           case rel => exact ⟨2, n, ids, by decide, by go_num, HM, HP2, hv⟩
           case measure => simp [intOf]
         · have ye : ((b1 : Int) == 0) = false := beq_eq_false_iff_ne.2 (by omega)
           have HP9 : Hid (ids.Perm ((b1 : Int) :: inT [b0, b1, b2, b3] 2)) := Lib.hid (by have h9 := HP.out; rw [inT_some (B := [b0, b1, b2, b3]) (k := 1) rfl hb1] at h9; exact h9)
           have HIN : Hid (decide ((b1 : Int) ∈ ids) = true) := Lib.hid (decide_eq_true (HP9.out.mem_iff.2 (List.mem_cons_self ..)))
           have HP2 : Hid ((ids.erase (b1 : Int)).Perm (inT [b0, b1, b2, b3] 2)) := Lib.hid (by have h9 := HP9.out.erase (b1 : Int); rw [List.erase_cons_head] at h9; exact h9)
           have HWF : Hid ((Lit.int .i64 (b1 : Int)).wf = true) := Lib.hid (wf_int (by omega) (by have h9 := HBL.out b1 (by simp); omega))
           clear hb1 HP9
           go_wp2_with (first
             | ((with_reducible refine at_aindex ?_); refine wl_index rfl rfl (i := 1) (j := 1) rfl rfl Tryz.underlying31 Tryz.underlying3 rfl infoI1 (by decide) (v := .int .i64 b1) rfl ?_)
             | ((with_reducible refine at_lookup ?_); refine wl_idlook rfl rfl rfl HM.out Tryz.underlying3 Tryz.underlying122 Tryz.underlying4 (zero_bool _) HWF.out HIN.out ?_)
             | ((with_reducible refine at_delete ?_); refine wl_iddel rfl hv HGE.out rfl rfl HM.out Tryz.underlying3 Tryz.underlying122 HWF.out (of_decide_eq_true HIN.out) ?_; intro w2 hv1 hM1; replace hv := hv1; replace HM := Lib.hid hM1; clear hv1 hM1))
           go_roundw
           case rel => exact ⟨2, n, ids.erase (b1 : Int), by decide, by go_num, HM, HP2, hv⟩
           case measure => simp [intOf]
       · clear hj
         by_cases hb2 : b2 = 0
         · have ye : ((b2 : Int) == 0) = true := by rw [hb2]; rfl
           have HP2 : Hid (ids.Perm (inT [b0, b1, b2, b3] 3)) := Lib.hid (by have h9 := HP.out; rw [inT_zero (B := [b0, b1, b2, b3]) (k := 2) rfl hb2] at h9; exact h9)
           clear hb2
           go_wp2_with (first
             | ((with_reducible refine at_aindex ?_); refine wl_index rfl rfl (i := 2) (j := 2) rfl rfl Tryz.underlying31 Tryz.underlying3 rfl infoI1 (by decide) (v := .int .i64 b2) rfl ?_))
           go_roundw
           case rel => exact ⟨3, n, ids, by decide, by go_num, HM, HP2, hv⟩
           case measure => simp [intOf]
         · have ye : ((b2 : Int) == 0) = false := beq_eq_false_iff_ne.2 (by omega)
           have HP9 : Hid (ids.Perm ((b2 : Int) :: inT [b0, b1, b2, b3] 3)) := Lib.hid (by have h9 := HP.out; rw [inT_some (B := [b0, b1, b2, b3]) (k := 2) rfl hb2] at h9; exact h9)
           have HIN : Hid (decide ((b2 : Int) ∈ ids) = true) := Lib.hid (decide_eq_true (HP9.out.mem_iff.2 (List.mem_cons_self ..)))
           have HP2 : Hid ((ids.erase (b2 : Int)).Perm (inT [b0, b1, b2, b3] 3)) := Lib.hid (by have h9 := HP9.out.erase (b2 : Int); rw [List.erase_cons_head] at h9; exact h9)
           have HWF : Hid ((Lit.int .i64 (b2 : Int)).wf = true) := Lib.hid (wf_int (by omega) (by have h9 := HBL.out b2 (by simp); omega))
           clear hb2 HP9
           go_wp2_with (first
             | ((with_reducible refine at_aindex ?_); refine wl_index rfl rfl (i := 2) (j := 2) rfl rfl Tryz.underlying31 Tryz.underlying3 rfl infoI1 (by decide) (v := .int .i64 b2) rfl ?_)
             | ((with_reducible refine at_lookup ?_); refine wl_idlook rfl rfl rfl HM.out Tryz.underlying3 Tryz.underlying122 Tryz.underlying4 (zero_bool _) HWF.out HIN.out ?_)
             | ((with_reducible refine at_delete ?_); refine wl_iddel rfl hv HGE.out rfl rfl HM.out Tryz.underlying3 Tryz.underlying122 HWF.out (of_decide_eq_true HIN.out) ?_; intro w2 hv1 hM1; replace hv := hv1; replace HM := Lib.hid hM1; clear hv1 hM1))
           go_roundw
           case rel => exact ⟨3, n, ids.erase (b2 : Int), by decide, by go_num, HM, HP2, hv⟩
           case measure => simp [intOf]
       · clear hj
         by_cases hb3 : b3 = 0
         · have ye : ((b3 : Int) == 0) = true := by rw [hb3]; rfl
           have HP2 : Hid (ids.Perm (inT [b0, b1, b2, b3] 4)) := Lib.hid (by have h9 := HP.out; rw [inT_zero (B := [b0, b1, b2, b3]) (k := 3) rfl hb3] at h9; exact h9)
           clear hb3
           go_wp2_with (first
             | ((with_reducible refine at_aindex ?_); refine wl_index rfl rfl (i := 3) (j := 3) rfl rfl Tryz.underlying31 Tryz.underlying3 rfl infoI1 (by decide) (v := .int .i64 b3) rfl ?_))
           go_roundw
           case rel => exact ⟨4, n, ids, by decide, by go_num, HM, HP2, hv⟩
           case measure => simp [intOf]
         · have ye : ((b3 : Int) == 0) = false := beq_eq_false_iff_ne.2 (by omega)
           have HP9 : Hid (ids.Perm ((b3 : Int) :: inT [b0, b1, b2, b3] 4)) := Lib.hid (by have h9 := HP.out; rw [inT_some (B := [b0, b1, b2, b3]) (k := 3) rfl hb3] at h9; exact h9)
           have HIN : Hid (decide ((b3 : Int) ∈ ids) = true) := Lib.hid (decide_eq_true (HP9.out.mem_iff.2 (List.mem_cons_self ..)))
           have HP2 : Hid ((ids.erase (b3 : Int)).Perm (inT [b0, b1, b2, b3] 4)) := Lib.hid (by have h9 := HP9.out.erase (b3 : Int); rw [List.erase_cons_head] at h9; exact h9)
           have HWF : Hid ((Lit.int .i64 (b3 : Int)).wf = true) := Lib.hid (wf_int (by omega) (by have h9 := HBL.out b3 (by simp); omega))
           clear hb3 HP9
           go_wp2_with (first
             | ((with_reducible refine at_aindex ?_); refine wl_index rfl rfl (i := 3) (j := 3) rfl rfl Tryz.underlying31 Tryz.underlying3 rfl infoI1 (by decide) (v := .int .i64 b3) rfl ?_)
             | ((with_reducible refine at_lookup ?_); refine wl_idlook rfl rfl rfl HM.out Tryz.underlying3 Tryz.underlying122 Tryz.underlying4 (zero_bool _) HWF.out HIN.out ?_)
             | ((with_reducible refine at_delete ?_); refine wl_iddel rfl hv HGE.out rfl rfl HM.out Tryz.underlying3 Tryz.underlying122 HWF.out (of_decide_eq_true HIN.out) ?_; intro w2 hv1 hM1; replace hv := hv1; replace HM := Lib.hid hM1; clear hv1 hM1))
           go_roundw
           case rel => exact ⟨4, n, ids.erase (b3 : Int), by decide, by go_num, HM, HP2, hv⟩
           case measure => simp [intOf]
       · have HLE : Hid (ids.length = 0) := Lib.hid (by have h9 := HP.out; rw [inT_end rfl] at h9; exact h9.length_eq)
         clear hj
         go_wp2_with (first
           | ((with_reducible refine at_maplen ?_); refine wl_idlen rfl rfl HM.out Tryz.underlying122 (m := 0) HLE.out ?_))
         go_ret
         exact ⟨rfl, hv.below⟩
theorem half_120 {w0 w : World} {L : List (Nat × Array Value)} {R : List (Nat × Value × List Value)} (hv : Mem w0 w L R) {av la fn fc cn cc : Nat} {fa ca : Option Addr} {free : List Nat} {chs : List Chn} (b0 b1 b2 b3 : Nat) (hq : InQ R (.slice fa fn fc) (.slice ca cn cc) free chs) (ho : OkQ 4 free chs) (hbl : ∀ y ∈ [b0, b1, b2, b3], y ≤ 1000) (hp : (hdsT chs chs.length).Perm (inT [b0, b1, b2, b3] 0)) :
   Calls Tryz.prog 35 #[.agg #[.int .i64 120, .int .i64 4, .slice fa fn fc, .int .u16 av, .int .u16 la, .slice ca cn cc], .agg #[.int .i64 b0, .int .i64 b1, .int .i64 b2, .int .i64 b3]] w fun e w' => e = .returned (.bool true) ∧ New w w' := by
 have hv0 := hv
 clear hv
 have hv : Mem w w [] R := ⟨Vars.nil w, fun x hx => ⟨(hv0.rds x hx).1, fun _ _ _ _ _ _ p hp => (List.not_mem_nil hp).elim⟩⟩
 clear hv0
 have hcl : chs.length = cn := by
   obtain ⟨_, _, _, e, g, _⟩ := hv.rd hq.ch
   cases e
   rw [cellsC_len] at g; omega
 have hc4 : chs.length ≤ 4 := by
   have h1 := ho.heads
   have h2 := ho.len
   have h3 : chs.length ≤ (chs.flatMap (·.ds)).length := chs_len (fun c hc => (ho.hd c hc).1)
   omega
 have HQ := Lib.hid hq
 have HO := Lib.hid ho
 have HCL := Lib.hid hcl
 have HBL := Lib.hid hbl
 have HPP := Lib.hid hp
 have HND := Lib.hid ho.heads
 have HHL : Hid (∀ c ∈ chs, c.h ≤ 1000) := Lib.hid (fun c hc => by
   have h1 := ho.le c.h (List.mem_append_right _ (List.mem_flatMap.2 ⟨c, hc, List.mem_of_getElem? (ho.hd c hc).1⟩))
   omega)
 have HC4 : Hid (cn ≤ 4) := Lib.hid (by omega)
 clear hq ho hbl hp hcl hc4
 go_enter Tryz.func35, Tryz.ntmps35
 go_wp2_with (first
   | ((with_reducible refine at_box (T := 30) (dst := some 2) ?_); refine wl_newb rfl #[.int .i64 120, .int .i64 4, .slice fa fn fc, .int .u16 av, .int .u16 la, .slice ca cn cc] 30 (fun _ => rfl) ?_; intro b_2 w2 hm2; replace hv := hv.madeAt hm2; clear hm2)
   | ((with_reducible refine at_box (T := 31) (dst := some 3) ?_); refine wl_newb rfl #[.int .i64 b0, .int .i64 b1, .int .i64 b2, .int .i64 b3] 31 (fun _ => rfl) ?_; intro b_3 w2 hm2; replace hv := hv.madeAt hm2; clear hm2)
   | ((with_reducible refine at_load (T := 30) ?_); refine wl_ldv rfl b_2 rfl _ hv.vars.ro 6 _ Tryz.underlying30 rfl infoQ (by decide) rfl ?_)
   | (go_at_call 50; (with_reducible refine (QCk_120 hv HQ.out HO.out).mono ?_); rintro e w1 ⟨rfl, hn1⟩; replace hv := hv.new hn1; clear hn1)
   | ((with_reducible refine at_load (T := 3) ?_); refine wl_ldc rfl b_2 1 rfl _ hv.vars.ro _ Tryz.underlying3 rfl (.int .i64 4) rfl ?_)
   | ((with_reducible refine at_mkmap ?_); refine wl_idmade rfl hv 3 4 ?_; intro bm w2 hge hv1 hM; replace hv := hv1; have HGE := Lib.hid hge; have HM := Lib.hid hM; clear hv1 hge hM)
   | ((with_reducible refine at_load (T := 28) ?_); refine wl_ldc rfl b_2 5 rfl _ hv.vars.ro _ Tryz.underlying28 rfl (.slice ca cn cc) rfl ?_))
 go_loopw [22] (fun iv wr => ∃ k : Nat, k ≤ cn ∧ iv = .int .i64 k ∧ Hid (IdS Tryz.prog 3 4 wr bm k (hdsT chs k)) ∧ Mem w wr [(b_3, #[.int .i64 b0, .int .i64 b1, .int .i64 b2, .int .i64 b3]), (b_2, #[.int .i64 120, .int .i64 4, .slice fa fn fc, .int .u16 av, .int .u16 la, .slice ca cn cc])] R) (fun iv _ => 100 - (intOf iv).toNat)
 case atStart => exact ⟨0, Nat.zero_le _, rfl, Lib.hid (by unfold hdsT; exact HM.out), hv⟩
 case round =>
   clear hv HM
   obtain ⟨k, hk0, rfl, HM, hv⟩ := hrel
   by_cases hk : k < cn
   · have y9 : decide ((k : Int) < (cn : Int)) = true := decide_eq_true (by omega)
     have z9 : decide (k < cn) = true := decide_eq_true hk
     have hkl : k < chs.length := by rw [HCL.out]; exact hk
     have hc4 := HC4.out
     obtain ⟨⟨c_h, c_b, c_0, c_n, c_c, c_r, c_ds⟩, hc⟩ : ∃ c, chs[k] = c := ⟨_, rfl⟩
     have HKC : Hid (((cellsC chs).drop (k * 3)).take 3 = [.int .i64 c_h, .slice (some ⟨c_b, c_0, none⟩) c_n c_c, .int .i64 c_r]) := Lib.hid (by
       have := part_flat (k := 3) (en := encC) (fun _ => rfl) chs k hkl
       rw [hc] at this; exact this)
     have hhl := HHL.out chs[k] (List.getElem_mem hkl)
     rw [hc] at hhl
     have hhl2 : c_h ≤ 1000 := hhl
     obtain ⟨h1, e1⟩ : ∃ h1, c_h + 1 = h1 := ⟨_, rfl⟩
     have q1 : IntKind.i64.wrap ((c_h : Int) + 1) = (h1 : Int) := by rw [IntWalk.i64_in _ (by omega)]; omega
     have HNI : Hid ((h1 : Int) ∉ hdsT chs k) := Lib.hid (by
       have := hdsT_not HND.out hkl
       rw [hc] at this
       rw [← e1]; exact this)
     have HSU : Hid (hdsT chs (k + 1) = hdsT chs k ++ [(h1 : Int)]) := Lib.hid (by
       rw [hdsT_succ hkl, hc, ← e1])
     have HWF : Hid ((Lit.int .i64 (h1 : Int)).wf = true) := Lib.hid (wf_int (by omega) (by omega))
     have HKM : Hid (k < maxLen) := Lib.hid (by unfold maxLen; omega)
     obtain ⟨xb, xo, _, _, e, hqq⟩ := (hv.rd HQ.out.ch).some (by rw [cellsC_len]; omega)
     clear hqq
     cases e
     have hki : (k : Int) ≤ 4 := by omega
     have hkc : (k : Int) < (cn : Int) := by omega
     have HKN := Lib.hid hk
     clear hkl hc hk0 hk hhl hhl2 e1 hc4
     go_wp2_with (first
       | ((with_reducible refine at_load (T := 124) ?_); refine wl_rdv rfl (hv.rd HQ.out.ch) (k * 3) rfl 3 _ Tryz.underlying124 rfl infoC3 (by decide) #[.int .i64 c_h, .slice (some ⟨c_b, c_0, none⟩) c_n c_c, .int .i64 c_r] HKC.out rfl ?_)
       | ((with_reducible refine at_alloc (T := 124) (dst := some 7) ?_); refine wl_newb rfl #[.int .i64 0, .slice none 0 0, .int .i64 0] 124 (fun _ => rfl) ?_; intro b7 w2 hm2; replace HM := Lib.hid (IdS.new HM.out hm2.made.new); replace hv := hv.madeAt hm2; clear hm2)
       | ((with_reducible refine at_store (T := 124) ?_); refine wl_stv rfl b7 rfl _ rfl _ hv.vars.ro hv.vars.so 3 infoC3 rfl rfl (by simp [Value.oneCell']) ?_; intro w2 hw2; replace HM := Lib.hid (IdS.wrote HM.out hw2 (hv.vars.so (b := b7))); replace hv := hv.sets (by repeat first | exact .z | apply SetM.s) hw2; clear hw2)
       | ((with_reducible refine at_load (T := 3) ?_); refine wl_ldc rfl b7 0 rfl _ hv.vars.ro _ Tryz.underlying3 rfl (.int .i64 c_h) rfl ?_)
       | ((with_reducible refine at_mapUpdate ?_); refine wl_idput rfl hv HGE.out rfl rfl rfl HM.out Tryz.underlying3 Tryz.underlying122 Tryz.underlying4 HKM.out HWF.out HNI.out ?_; intro w2 hv1 hM1; replace hv := hv1; replace HM := Lib.hid hM1; clear hv1 hM1))
     have hkn := HKN.out
     go_roundw
     case rel => exact ⟨k + 1, hkn, by go_num, Lib.hid (by rw [HSU.out]; exact HM.out), hv.drop⟩
     case measure => simp [intOf]; omega
   · have y9 : decide ((k : Int) < (cn : Int)) = false := decide_eq_false (by omega)
     have z9 : decide (k < cn) = false := decide_eq_false hk
     obtain rfl : cn = k := by omega
     have HP0 : Hid ((hdsT chs cn).Perm (inT [b0, b1, b2, b3] 0)) := Lib.hid (by rw [← HCL.out]; exact HPP.out)
     clear hk hk0
     go_wp2_with (first
       | ((with_reducible refine at_load (T := 31) ?_); refine wl_ldv rfl b_3 rfl _ hv.vars.ro 4 _ Tryz.underlying31 rfl infoA4 (by decide) rfl ?_))
     go_loopw [32] (fun iv wr => ∃ (j n : Nat) (ids : List Int), j ≤ 4 ∧ iv = .int .i64 j ∧ Hid (IdS Tryz.prog 3 4 wr bm n ids) ∧ Hid (ids.Perm (inT [b0, b1, b2, b3] j)) ∧ Mem w wr [(b_3, #[.int .i64 b0, .int .i64 b1, .int .i64 b2, .int .i64 b3]), (b_2, #[.int .i64 120, .int .i64 4, .slice fa fn fc, .int .u16 av, .int .u16 la, .slice ca cn cc])] R) (fun iv _ => 4 - (intOf iv).toNat)
     case atStart => exact ⟨0, cn, _, by decide, rfl, HM, HP0, hv⟩
     case round =>
       clear hv HM HP0
       obtain ⟨j, n, ids, hj, rfl, HM, HP, hv⟩ := hrel
       rcases (show j = 0 ∨ j = 1 ∨ j = 2 ∨ j = 3 ∨ j = 4 from by omega) with rfl | rfl | rfl | rfl | rfl
       · clear hj
         simp only [Int.natCast_zero]
         by_cases hb0 : b0 = 0
         · have ye : ((b0 : Int) == 0) = true := by rw [hb0]; rfl
           have HP2 : Hid (ids.Perm (inT [b0, b1, b2, b3] 1)) := Lib.hid (by have h9 := HP.out; rw [inT_zero (B := [b0, b1, b2, b3]) (k := 0) rfl hb0] at h9; exact h9)
           clear hb0
           go_wp2_with (first
             | ((with_reducible refine at_aindex ?_); refine wl_index rfl rfl (i := 0) (j := 0) rfl rfl Tryz.underlying31 Tryz.underlying3 rfl infoI1 (by decide) (v := .int .i64 b0) rfl ?_))
           go_roundw
           case rel => exact ⟨1, n, ids, by decide, by go_num, HM, HP2, hv⟩
           case measure => simp [intOf]
         · have ye : ((b0 : Int) == 0) = false := beq_eq_false_iff_ne.2 (by omega)
           have HP9 : Hid (ids.Perm ((b0 : Int) :: inT [b0, b1, b2, b3] 1)) := Lib.hid (by have h9 := HP.out; rw [inT_some (B := [b0, b1, b2, b3]) (k := 0) rfl hb0] at h9; exact h9)
           have HIN : Hid (decide ((b0 : Int) ∈ ids) = true) := Lib.hid (decide_eq_true (HP9.out.mem_iff.2 (List.mem_cons_self ..)))
           have HP2 : Hid ((ids.erase (b0 : Int)).Perm (inT [b0, b1, b2, b3] 1)) := Lib.hid (by have h9 := HP9.out.erase (b0 : Int); rw [List.erase_cons_head] at h9; exact h9)
           have HWF : Hid ((Lit.int .i64 (b0 : Int)).wf = true) := Lib.hid (wf_int (by omega) (by have h9 := HBL.out b0 (by simp); omega))
           clear hb0 HP9
           go_wp2_with (first
             | ((with_reducible refine at_aindex ?_); refine wl_index rfl rfl (i := 0) (j := 0) rfl rfl Tryz.underlying31 Tryz.underlying3 rfl infoI1 (by decide) (v := .int .i64 b0) rfl ?_)
             | ((with_reducible refine at_lookup ?_); refine wl_idlook rfl rfl rfl HM.out Tryz.underlying3 Tryz.underlying122 Tryz.underlying4 (zero_bool _) HWF.out HIN.out ?_)
             | ((with_reducible refine at_delete ?_); refine wl_iddel rfl hv HGE.out rfl rfl HM.out Tryz.underlying3 Tryz.underlying122 HWF.out (of_decide_eq_true HIN.out) ?_; intro w2 hv1 hM1; replace hv := hv1; replace HM := Lib.hid hM1; clear hv1 hM1))
           go_roundw
           case rel => exact ⟨1, n, ids.erase (b0 : Int), by decide, by go_num, HM, HP2, hv⟩
           case measure => simp [intOf]
       · clear hj
         simp only [Int.natCast_one]
         by_cases hb1 : b1 = 0
         · have ye : ((b1 : Int) == 0) = true := by rw [hb1]; rfl
           have HP2 : Hid (ids.Perm (inT [b0, b1, b2, b3] 2)) := Lib.hid (by have h9 := HP.out; rw [inT_zero (B := [b0, b1, b2, b3]) (k := 1) rfl hb1] at h9; exact h9)
           clear hb1
           go_wp2_with (first
             | ((with_reducible refine at_aindex ?_); refine wl_index rfl rfl (i := 1) (j := 1) rfl rfl Tryz.underlying31 Tryz.underlying3 rfl infoI1 (by decide) (v := .int .i64 b1) rfl ?_))
           go_roundw
           case rel => exact ⟨2, n, ids, by decide, by go_num, HM, HP2, hv⟩
           case measure => simp [intOf]
         · have ye : ((b1 : Int) == 0) = false := beq_eq_false_iff_ne.2 (by omega)
           have HP9 : Hid (ids.Perm ((b1 : Int) :: inT [b0, b1, b2, b3] 2)) := Lib.hid (by have h9 := HP.out; rw [inT_some (B := [b0, b1, b2, b3]) (k := 1) rfl hb1] at h9; exact h9)
           have HIN : Hid (decide ((b1 : Int) ∈ ids) = true) := Lib.hid (decide_eq_true (HP9.out.mem_iff.2 (List.mem_cons_self ..)))
           have HP2 : Hid ((ids.erase (b1 : Int)).Perm (inT [b0, b1, b2, b3] 2)) := Lib.hid (by have h9 := HP9.out.erase (b1 : Int); rw [List.erase_cons_head] at h9; exact h9)
           have HWF : Hid ((Lit.int .i64 (b1 : Int)).wf = true) := Lib.hid (wf_int (by omega) (by have h9 := HBL.out b1 (by simp); omega))
           clear hb1 HP9
           go_wp2_with (first
             | ((with_reducible refine at_aindex ?_); refine wl_index rfl rfl (i := 1) (j := 1) rfl rfl Tryz.underlying31 Tryz.underlying3 rfl infoI1 (by decide) (v := .int .i64 b1) rfl ?_)
             | ((with_reducible refine at_lookup ?_); refine wl_idlook rfl rfl rfl HM.out Tryz.underlying3 Tryz.underlying122 Tryz.underlying4 (zero_bool _) HWF.out HIN.out ?_)
             | ((with_reducible refine at_delete ?_); refine wl_iddel rfl hv HGE.out rfl rfl HM.out Tryz.underlying3 Tryz.underlying122 HWF.out (of_decide_eq_true HIN.out) ?_; intro w2 hv1 hM1; replace hv := hv1; replace HM := Lib.hid hM1; clear hv1 hM1))
           go_roundw
           case rel => exact ⟨2, n, ids.erase (b1 : Int), by decide, by go_num, HM, HP2, hv⟩
           case measure => simp [intOf]
       · clear hj
         by_cases hb2 : b2 = 0
         · have ye : ((b2 : Int) == 0) = true := by rw [hb2]; rfl
           have HP2 : Hid (ids.Perm (inT [b0, b1, b2, b3] 3)) := Lib.hid (by have h9 := HP.out; rw [inT_zero (B := [b0, b1, b2, b3]) (k := 2) rfl hb2] at h9; exact h9)
           clear hb2
           go_wp2_with (first
             | ((with_reducible refine at_aindex ?_); refine wl_index rfl rfl (i := 2) (j := 2) rfl rfl Tryz.underlying31 Tryz.underlying3 rfl infoI1 (by decide) (v := .int .i64 b2) rfl ?_))
           go_roundw
           case rel => exact ⟨3, n, ids, by decide, by go_num, HM, HP2, hv⟩
           case measure => simp [intOf]
         · have ye : ((b2 : Int) == 0) = false := beq_eq_false_iff_ne.2 (by omega)
           have HP9 : Hid (ids.Perm ((b2 : Int) :: inT [b0, b1, b2, b3] 3)) := Lib.hid (by have h9 := HP.out; rw [inT_some (B := [b0, b1, b2, b3]) (k := 2) rfl hb2] at h9; exact h9)
           have HIN : Hid (decide ((b2 : Int) ∈ ids) = true) := Lib.hid (decide_eq_true (HP9.out.mem_iff.2 (List.mem_cons_self ..)))
           have HP2 : Hid ((ids.erase (b2 : Int)).Perm (inT [b0, b1, b2, b3] 3)) := Lib.hid (by have h9 := HP9.out.erase (b2 : Int); rw [List.erase_cons_head] at h9; exact h9)
           have HWF : Hid ((Lit.int .i64 (b2 : Int)).wf = true) := Lib.hid (wf_int (by omega) (by have h9 := HBL.out b2 (by simp); omega))
           clear hb2 HP9
           go_wp2_with (first
             | ((with_reducible refine at_aindex ?_); refine wl_index rfl rfl (i := 2) (j := 2) rfl rfl Tryz.underlying31 Tryz.underlying3 rfl infoI1 (by decide) (v := .int .i64 b2) rfl ?_)
             | ((with_reducible refine at_lookup ?_); refine wl_idlook rfl rfl rfl HM.out Tryz.underlying3 Tryz.underlying122 Tryz.underlying4 (zero_bool _) HWF.out HIN.out ?_)
             | ((with_reducible refine at_delete ?_); refine wl_iddel rfl hv HGE.out rfl rfl HM.out Tryz.underlying3 Tryz.underlying122 HWF.out (of_decide_eq_true HIN.out) ?_; intro w2 hv1 hM1; replace hv := hv1; replace HM := Lib.hid hM1; clear hv1 hM1))
           go_roundw
           case rel => exact ⟨3, n, ids.erase (b2 : Int), by decide, by go_num, HM, HP2, hv⟩
           case measure => simp [intOf]
       · clear hj
         by_cases hb3 : b3 = 0
         · have ye : ((b3 : Int) == 0) = true := by rw [hb3]; rfl
           have HP2 : Hid (ids.Perm (inT [b0, b1, b2, b3] 4)) := Lib.hid (by have h9 := HP.out; rw [inT_zero (B := [b0, b1, b2, b3]) (k := 3) rfl hb3] at h9; exact h9)
           clear hb3
           go_wp2_with (first
             | ((with_reducible refine at_aindex ?_); refine wl_index rfl rfl (i := 3) (j := 3) rfl rfl Tryz.underlying31 Tryz.underlying3 rfl infoI1 (by decide) (v := .int .i64 b3) rfl ?_))
           go_roundw
           case rel => exact ⟨4, n, ids, by decide, by go_num, HM, HP2, hv⟩
           case measure => simp [intOf]
         · have ye : ((b3 : Int) == 0) = false := beq_eq_false_iff_ne.2 (by omega)
           have HP9 : Hid (ids.Perm ((b3 : Int) :: inT [b0, b1, b2, b3] 4)) := Lib.hid (by have h9 := HP.out; rw [inT_some (B := [b0, b1, b2, b3]) (k := 3) rfl hb3] at h9; exact h9)
           have HIN : Hid (decide ((b3 : Int) ∈ ids) = true) := Lib.hid (decide_eq_true (HP9.out.mem_iff.2 (List.mem_cons_self ..)))
           have HP2 : Hid ((ids.erase (b3 : Int)).Perm (inT [b0, b1, b2, b3] 4)) := Lib.hid (by have h9 := HP9.out.erase (b3 : Int); rw [List.erase_cons_head] at h9; exact h9)
           have HWF : Hid ((Lit.int .i64 (b3 : Int)).wf = true) := Lib.hid (wf_int (by omega) (by have h9 := HBL.out b3 (by simp); omega))
           clear hb3 HP9
           go_wp2_with (first
             | ((with_reducible refine at_aindex ?_); refine wl_index rfl rfl (i := 3) (j := 3) rfl rfl Tryz.underlying31 Tryz.underlying3 rfl infoI1 (by decide) (v := .int .i64 b3) rfl ?_)
             | ((with_reducible refine at_lookup ?_); refine wl_idlook rfl rfl rfl HM.out Tryz.underlying3 Tryz.underlying122 Tryz.underlying4 (zero_bool _) HWF.out HIN.out ?_)
             | ((with_reducible refine at_delete ?_); refine wl_iddel rfl hv HGE.out rfl rfl HM.out Tryz.underlying3 Tryz.underlying122 HWF.out (of_decide_eq_true HIN.out) ?_; intro w2 hv1 hM1; replace hv := hv1; replace HM := Lib.hid hM1; clear hv1 hM1))
           go_roundw
           case rel => exact ⟨4, n, ids.erase (b3 : Int), by decide, by go_num, HM, HP2, hv⟩
           case measure => simp [intOf]
       · have HLE : Hid (ids.length = 0) := Lib.hid (by have h9 := HP.out; rw [inT_end rfl] at h9; exact h9.length_eq)
         clear hj
         go_wp2_with (first
           | ((with_reducible refine at_maplen ?_); refine wl_idlen rfl rfl HM.out Tryz.underlying122 (m := 0) HLE.out ?_))
         go_ret
         exact ⟨rfl, hv.below⟩
end Go.Proofs.YtjmibgomkgkhnaaGreat
end

section
/-
 A card behind two rings (layer 10): which cards may be; a buffer handed over.
-/
namespace Go.Proofs.Qu
open Go Go.RowKit Go.Proofs.Nm
structure NetQ (R : List (Nat × Value × List Value)) (rf rc tf tc : Value) (rfree : List Nat) (rchs : List Chn) (tfree : List Nat) (tchs : List Chn) (B O : List Nat) : Prop where
 rq : InQ R rf rc rfree rchs
 ro : OkQ 4 rfree rchs
 tq : InQ R tf tc tfree tchs
 to : OkQ 4 tfree tchs
 bl : ∀ y ∈ B, y ≤ 1000
 ol : ∀ y ∈ O, y ≤ 1000
 rp : (hdsT rchs rchs.length).Perm (inT B 0)
 tp : (hdsT tchs tchs.length).Perm (inT O 0)
theorem NetQ.mono {R R' : List (Nat × Value × List Value)} {rf rc tf tc : Value} {rfree : List Nat} {rchs : List Chn} {tfree : List Nat} {tchs : List Chn} {B O : List Nat} (h : NetQ R rf rc tf tc rfree rchs tfree tchs B O) (hs : ∀ x ∈ R, x ∈ R') : NetQ R' rf rc tf tc rfree rchs tfree tchs B O := ⟨h.rq.mono hs, h.ro, h.tq.mono hs, h.to, h.bl, h.ol, h.rp, h.tp⟩
def AddNW (R0 : List (Nat × Value × List Value)) (bi : Int) (base av av1 la nf1 nc1 hd : Nat) (M : List Nat) (free : List Nat) (chs : List Chn) (p : Pt) (v : Value) (R' : List (Nat × Value × List Value)) : Prop :=
 ∃ (vb vc fc cc : Nat) (fa ca : Option Addr) (c : Chn), v = .tuple #[.agg #[.slice (some ⟨vb, 0, none⟩) 1900 vc], .agg #[.int .i64 bi, .int .i64 4, .slice fa nf1 fc, .int .u16 av1, .int .u16 la, .slice ca nc1 cc], .int .i64 hd, .int .i64 0] ∧ InM R' vb 0 1900 vc (addM M base 4 av free [p]) ∧ InQ R' (.slice fa nf1 fc) (.slice ca nc1 cc) (free.drop 1) (chs ++ [c]) ∧ OkQ 4 (free.drop 1) (chs ++ [c]) ∧ c.h = hd ∧ c.ds = [hd] ∧ c.rm = roomP [p] 1 ∧ ∀ x ∈ R0, x ∈ R'
end Go.Proofs.Qu
namespace Go.Proofs.YtjmibgomkgkhnaaGreat
open Go.Proofs.Qu Go.Proofs.Nm Go.RowKit Go.Proofs
theorem infoN : (Tryz.prog.info? 33).map (·.size) = some 21 := by kernel_rfl
theorem inc_0 {a0 a1 a2 a3 a4 a5 a6 a7 a8 a9 a10 a11 a13 a14 a15 a16 a17 a18 a19 a20 : Value} (w : World) : Calls Tryz.prog 34 #[.agg #[a0, a1, a2, a3, a4, a5, a6, a7, a8, a9, a10, a11, .int .i64 300, a13, a14, a15, a16, a17, a18, a19, a20], .int .i64 0] w fun e w' => e = .returned (.int .i64 300) ∧ New w w' := by
 have hv := Mem.nil w
 go_enter Tryz.func34, Tryz.ntmps34
 go_wp2_with (first
   | ((with_reducible refine at_box (T := 33) (dst := some 2) ?_); refine wl_newb rfl #[a0, a1, a2, a3, a4, a5, a6, a7, a8, a9, a10, a11, .int .i64 300, a13, a14, a15, a16, a17, a18, a19, a20] 33 (fun _ => rfl) ?_; intro b_2 w2 hm2; replace hv := hv.madeAt hm2; clear hm2)
   | ((with_reducible refine at_load (T := 3) ?_); refine wl_ldc rfl b_2 12 rfl _ hv.vars.ro _ Tryz.underlying3 rfl (.int .i64 300) rfl ?_))
 go_ret
 exact ⟨rfl, hv.below⟩
theorem inc_1 {a0 a1 a2 a3 a4 a5 a6 a7 a8 a9 a10 a11 a13 a14 a15 a16 a17 a18 a19 a20 : Value} (w : World) : Calls Tryz.prog 34 #[.agg #[a0, a1, a2, a3, a4, a5, a6, a7, a8, a9, a10, a11, .int .i64 300, a13, a14, a15, a16, a17, a18, a19, a20], .int .i64 1] w fun e w' => e = .returned (.int .i64 492) ∧ New w w' := by
 have hv := Mem.nil w
 go_enter Tryz.func34, Tryz.ntmps34
 go_wp2_with (first
   | ((with_reducible refine at_box (T := 33) (dst := some 2) ?_); refine wl_newb rfl #[a0, a1, a2, a3, a4, a5, a6, a7, a8, a9, a10, a11, .int .i64 300, a13, a14, a15, a16, a17, a18, a19, a20] 33 (fun _ => rfl) ?_; intro b_2 w2 hm2; replace hv := hv.madeAt hm2; clear hm2)
   | ((with_reducible refine at_load (T := 3) ?_); refine wl_ldc rfl b_2 12 rfl _ hv.vars.ro _ Tryz.underlying3 rfl (.int .i64 300) rfl ?_))
 go_ret
 exact ⟨rfl, hv.below⟩
theorem inc_2 {a0 a1 a2 a3 a4 a5 a6 a7 a8 a9 a10 a11 a13 a14 a15 a16 a17 a18 a19 a20 : Value} (w : World) : Calls Tryz.prog 34 #[.agg #[a0, a1, a2, a3, a4, a5, a6, a7, a8, a9, a10, a11, .int .i64 300, a13, a14, a15, a16, a17, a18, a19, a20], .int .i64 2] w fun e w' => e = .returned (.int .i64 684) ∧ New w w' := by
 have hv := Mem.nil w
 go_enter Tryz.func34, Tryz.ntmps34
 go_wp2_with (first
   | ((with_reducible refine at_box (T := 33) (dst := some 2) ?_); refine wl_newb rfl #[a0, a1, a2, a3, a4, a5, a6, a7, a8, a9, a10, a11, .int .i64 300, a13, a14, a15, a16, a17, a18, a19, a20] 33 (fun _ => rfl) ?_; intro b_2 w2 hm2; replace hv := hv.madeAt hm2; clear hm2)
   | ((with_reducible refine at_load (T := 3) ?_); refine wl_ldc rfl b_2 12 rfl _ hv.vars.ro _ Tryz.underlying3 rfl (.int .i64 300) rfl ?_))
 go_ret
 exact ⟨rfl, hv.below⟩
theorem inc_3 {a0 a1 a2 a3 a4 a5 a6 a7 a8 a9 a10 a11 a13 a14 a15 a16 a17 a18 a19 a20 : Value} (w : World) : Calls Tryz.prog 34 #[.agg #[a0, a1, a2, a3, a4, a5, a6, a7, a8, a9, a10, a11, .int .i64 300, a13, a14, a15, a16, a17, a18, a19, a20], .int .i64 3] w fun e w' => e = .returned (.int .i64 876) ∧ New w w' := by
 have hv := Mem.nil w
 go_enter Tryz.func34, Tryz.ntmps34
 go_wp2_with (first
   | ((with_reducible refine at_box (T := 33) (dst := some 2) ?_); refine wl_newb rfl #[a0, a1, a2, a3, a4, a5, a6, a7, a8, a9, a10, a11, .int .i64 300, a13, a14, a15, a16, a17, a18, a19, a20] 33 (fun _ => rfl) ?_; intro b_2 w2 hm2; replace hv := hv.madeAt hm2; clear hm2)
   | ((with_reducible refine at_load (T := 3) ?_); refine wl_ldc rfl b_2 12 rfl _ hv.vars.ro _ Tryz.underlying3 rfl (.int .i64 300) rfl ?_))
 go_ret
 exact ⟨rfl, hv.below⟩
theorem outg_0 {a0 a1 a2 a3 a4 a5 a6 a7 a8 a9 a10 a11 a13 a14 a15 a16 a17 a18 a19 a20 : Value} (w : World) : Calls Tryz.prog 37 #[.agg #[a0, a1, a2, a3, a4, a5, a6, a7, a8, a9, a10, a11, .int .i64 300, a13, a14, a15, a16, a17, a18, a19, a20], .int .i64 0] w fun e w' => e = .returned (.int .i64 1068) ∧ New w w' := by
 have hv := Mem.nil w
 go_enter Tryz.func37, Tryz.ntmps37
 go_wp2_with (first
   | ((with_reducible refine at_box (T := 33) (dst := some 2) ?_); refine wl_newb rfl #[a0, a1, a2, a3, a4, a5, a6, a7, a8, a9, a10, a11, .int .i64 300, a13, a14, a15, a16, a17, a18, a19, a20] 33 (fun _ => rfl) ?_; intro b_2 w2 hm2; replace hv := hv.madeAt hm2; clear hm2)
   | ((with_reducible refine at_load (T := 3) ?_); refine wl_ldc rfl b_2 12 rfl _ hv.vars.ro _ Tryz.underlying3 rfl (.int .i64 300) rfl ?_))
 go_ret
 exact ⟨rfl, hv.below⟩
theorem outg_1 {a0 a1 a2 a3 a4 a5 a6 a7 a8 a9 a10 a11 a13 a14 a15 a16 a17 a18 a19 a20 : Value} (w : World) : Calls Tryz.prog 37 #[.agg #[a0, a1, a2, a3, a4, a5, a6, a7, a8, a9, a10, a11, .int .i64 300, a13, a14, a15, a16, a17, a18, a19, a20], .int .i64 1] w fun e w' => e = .returned (.int .i64 1260) ∧ New w w' := by
 have hv := Mem.nil w
 go_enter Tryz.func37, Tryz.ntmps37
 go_wp2_with (first
   | ((with_reducible refine at_box (T := 33) (dst := some 2) ?_); refine wl_newb rfl #[a0, a1, a2, a3, a4, a5, a6, a7, a8, a9, a10, a11, .int .i64 300, a13, a14, a15, a16, a17, a18, a19, a20] 33 (fun _ => rfl) ?_; intro b_2 w2 hm2; replace hv := hv.madeAt hm2; clear hm2)
   | ((with_reducible refine at_load (T := 3) ?_); refine wl_ldc rfl b_2 12 rfl _ hv.vars.ro _ Tryz.underlying3 rfl (.int .i64 300) rfl ?_))
 go_ret
 exact ⟨rfl, hv.below⟩
theorem outg_2 {a0 a1 a2 a3 a4 a5 a6 a7 a8 a9 a10 a11 a13 a14 a15 a16 a17 a18 a19 a20 : Value} (w : World) : Calls Tryz.prog 37 #[.agg #[a0, a1, a2, a3, a4, a5, a6, a7, a8, a9, a10, a11, .int .i64 300, a13, a14, a15, a16, a17, a18, a19, a20], .int .i64 2] w fun e w' => e = .returned (.int .i64 1452) ∧ New w w' := by
 have hv := Mem.nil w
 go_enter Tryz.func37, Tryz.ntmps37
 go_wp2_with (first
   | ((with_reducible refine at_box (T := 33) (dst := some 2) ?_); refine wl_newb rfl #[a0, a1, a2, a3, a4, a5, a6, a7, a8, a9, a10, a11, .int .i64 300, a13, a14, a15, a16, a17, a18, a19, a20] 33 (fun _ => rfl) ?_; intro b_2 w2 hm2; replace hv := hv.madeAt hm2; clear hm2)
   | ((with_reducible refine at_load (T := 3) ?_); refine wl_ldc rfl b_2 12 rfl _ hv.vars.ro _ Tryz.underlying3 rfl (.int .i64 300) rfl ?_))
 go_ret
 exact ⟨rfl, hv.below⟩
theorem outg_3 {a0 a1 a2 a3 a4 a5 a6 a7 a8 a9 a10 a11 a13 a14 a15 a16 a17 a18 a19 a20 : Value} (w : World) : Calls Tryz.prog 37 #[.agg #[a0, a1, a2, a3, a4, a5, a6, a7, a8, a9, a10, a11, .int .i64 300, a13, a14, a15, a16, a17, a18, a19, a20], .int .i64 3] w fun e w' => e = .returned (.int .i64 1644) ∧ New w w' := by
 have hv := Mem.nil w
 go_enter Tryz.func37, Tryz.ntmps37
 go_wp2_with (first
   | ((with_reducible refine at_box (T := 33) (dst := some 2) ?_); refine wl_newb rfl #[a0, a1, a2, a3, a4, a5, a6, a7, a8, a9, a10, a11, .int .i64 300, a13, a14, a15, a16, a17, a18, a19, a20] 33 (fun _ => rfl) ?_; intro b_2 w2 hm2; replace hv := hv.madeAt hm2; clear hm2)
   | ((with_reducible refine at_load (T := 3) ?_); refine wl_ldc rfl b_2 12 rfl _ hv.vars.ro _ Tryz.underlying3 rfl (.int .i64 300) rfl ?_))
 go_ret
 exact ⟨rfl, hv.below⟩
theorem NCheck_ok {w0 w : World} {L : List (Nat × Array Value)} {R : List (Nat × Value × List Value)} (hv : Mem w0 w L R) {rav rla tav tla rfn rfc rcn rcc tfn tfc tcn tcc : Nat} {rfa rca tfa tca : Option Addr} {rfree tfree : List Nat} {rchs tchs : List Chn} {i0 i1 i2 i3 o0 o1 o2 o3 : Nat} (hn : NetQ R (.slice rfa rfn rfc) (.slice rca rcn rcc) (.slice tfa tfn tfc) (.slice tca tcn tcc) rfree rchs tfree tchs [i0, i1, i2, i3] [o0, o1, o2, o3]) : Calls Tryz.prog 12 #[.agg #[.int .i64 0, .int .i64 4, .slice rfa rfn rfc, .int .u16 rav, .int .u16 rla, .slice rca rcn rcc, .int .i64 120, .int .i64 4, .slice tfa tfn tfc, .int .u16 tav, .int .u16 tla, .slice tca tcn tcc, .int .i64 300, .int .i64 i0, .int .i64 i1, .int .i64 i2, .int .i64 i3, .int .i64 o0, .int .i64 o1, .int .i64 o2, .int .i64 o3]] w fun e w' => e = .returned (.bool true) ∧ New w w' := by
 have hv0 := hv
 clear hv
 have hv : Mem w w [] R := ⟨Vars.nil w, fun x hx => ⟨(hv0.rds x hx).1, fun _ _ _ _ _ _ p hp => (List.not_mem_nil hp).elim⟩⟩
 have HN := Lib.hid hn
 clear hv0 hn
 go_enter Tryz.func12, Tryz.ntmps12
 go_wp2_with (first
   | ((with_reducible refine at_box (T := 33) (dst := some 1) ?_); refine wl_newb rfl #[.int .i64 0, .int .i64 4, .slice rfa rfn rfc, .int .u16 rav, .int .u16 rla, .slice rca rcn rcc, .int .i64 120, .int .i64 4, .slice tfa tfn tfc, .int .u16 tav, .int .u16 tla, .slice tca tcn tcc, .int .i64 300, .int .i64 i0, .int .i64 i1, .int .i64 i2, .int .i64 i3, .int .i64 o0, .int .i64 o1, .int .i64 o2, .int .i64 o3] 33 (fun _ => rfl) ?_; intro b_1 w2 hm2; replace hv := hv.madeAt hm2; clear hm2)
   | ((with_reducible refine at_load (T := 3) ?_); refine wl_ldc rfl b_1 12 rfl _ hv.vars.ro _ Tryz.underlying3 rfl (.int .i64 300) rfl ?_)
   | ((with_reducible refine at_load (T := 30) ?_); refine wl_ldp rfl b_1 0 rfl _ hv.vars.ro 6 _ Tryz.underlying30 rfl infoQ (by decide) (by show 0 + 6 ≤ 21; decide) #[.int .i64 0, .int .i64 4, .slice rfa rfn rfc, .int .u16 rav, .int .u16 rla, .slice rca rcn rcc] rfl ?_)
   | ((with_reducible refine at_load (T := 30) ?_); refine wl_ldp rfl b_1 6 rfl _ hv.vars.ro 6 _ Tryz.underlying30 rfl infoQ (by decide) (by show 6 + 6 ≤ 21; decide) #[.int .i64 120, .int .i64 4, .slice tfa tfn tfc, .int .u16 tav, .int .u16 tla, .slice tca tcn tcc] rfl ?_)
   | ((with_reducible refine at_load (T := 31) ?_); refine wl_ldp rfl b_1 13 rfl _ hv.vars.ro 4 _ Tryz.underlying31 rfl infoA4 (by decide) (by show 13 + 4 ≤ 21; decide) #[.int .i64 i0, .int .i64 i1, .int .i64 i2, .int .i64 i3] rfl ?_)
   | ((with_reducible refine at_load (T := 31) ?_); refine wl_ldp rfl b_1 17 rfl _ hv.vars.ro 4 _ Tryz.underlying31 rfl infoA4 (by decide) (by show 17 + 4 ≤ 21; decide) #[.int .i64 o0, .int .i64 o1, .int .i64 o2, .int .i64 o3] rfl ?_)
   | (go_at_call 35; (with_reducible refine (half_0 hv i0 i1 i2 i3 HN.out.rq HN.out.ro HN.out.bl HN.out.rp).mono ?_); rintro e w1 ⟨rfl, hn1⟩; replace hv := hv.new hn1; clear hn1)
   | (go_at_call 35; (with_reducible refine (half_120 hv o0 o1 o2 o3 HN.out.tq HN.out.to HN.out.ol HN.out.tp).mono ?_); rintro e w1 ⟨rfl, hn1⟩; replace hv := hv.new hn1; clear hn1))
 go_ret
 exact ⟨rfl, hv.below⟩
theorem Add_N {w0 w : World} {L : List (Nat × Array Value)} {R R0 : List (Nat × Value × List Value)} (hv : Mem w0 w L R) (hR : ∀ x ∈ R0, x ∈ R) (bi : Int) (base : Nat) (hbi : bi = (base : Nat)) (hb : base + 112 ≤ 1900) {vb vc av av1 la nf nf1 fc nc nc1 cc hd : Nat} {fa ca : Option Addr} {M free : List Nat} {chs : List Chn} (hm : InM R0 vb 0 1900 vc M) (hq : InQ R0 (.slice fa nf fc) (.slice ca nc cc) free chs) (ho : OkQ 4 free chs) (hav : av < 65535) (hav1 : av + 1 = av1) (h0 : nf = nf1 + 1) (h1 : nc + 1 = nc1) (hh : free.getD 0 0 = hd) (p : Pt) (hp : 0 < p.2.1 ∧ p.1 + p.2.1 ≤ 1900) {lv : Value} (hl : (3, lv, cellsPt [p]) ∈ R) : Calls Tryz.prog 38 #[.agg #[.slice (some ⟨vb, 0, none⟩) 1900 vc], .agg #[.int .i64 bi, .int .i64 4, .slice fa nf fc, .int .u16 av, .int .u16 la, .slice ca nc cc], lv] w fun e w' => ∃ v R', e = .returned v ∧ AddNW R0 bi base av av1 la nf1 nc1 hd M free chs p v R' ∧ Mem w0 w' L R' ∧ ∀ x ∈ R, x ∈ R' := by
 subst hbi hav1 h1 hh h0
 have hfl : free.length = nf1 + 1 := by
   obtain ⟨_, _, _, e, g, _⟩ := hv.rd (hR _ hq.fr)
   cases e
   rw [intsI_len] at g; omega
 have hcl : chs.length = nc := by
   obtain ⟨_, _, _, e, g, _⟩ := hv.rd (hR _ hq.ch)
   cases e
   rw [cellsC_len] at g; omega
 refine (Add_D (base := base) (n := 4) (av := av) (la := la) hv ⟨hm.mono hR, hq.mono hR, ho⟩ (by rw [sizeN4]; exact hb) hl (Nat.zero_lt_one) (by show 1 ≤ _; omega) (fun q hq => by rw [List.mem_singleton.1 hq]; exact hp) (by omega)).mono ?_
 rintro e w' ⟨vb', vc', fa', fc', ca', cc', c, R', rfl, hv1, hd1, e1, e2, e3, hs⟩
 have hl1 : [p].length = 1 := rfl
 rw [hl1, hfl, hcl, Nat.add_sub_cancel] at hd1
 rw [hl1, hfl, hcl, Nat.mod_eq_of_lt (by omega : av + 1 < 65536), Nat.add_sub_cancel]
 have e4 : free.take 1 = [free.getD 0 0] := by
   cases free with
   | nil => simp at hfl
   | cons x r => rfl
 exact ⟨_, R', rfl, ⟨vb', vc', fc', cc', fa', ca', c, rfl, hd1.m, hd1.q, hd1.ok, e1, e2.trans e4, e3, fun x hx => hs x (hR x hx)⟩, hv1, hs⟩
end Go.Proofs.YtjmibgomkgkhnaaGreat
end
