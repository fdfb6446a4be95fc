/-
 Machine memory: no bytes got, no bytes put; what is put read back.
-/
import Derived.Test.YtjmibgomkgkhnaaGreatQuMm
set_option maxRecDepth 100000
set_option maxHeartbeats 4000000
set_option linter.unusedVariables false
set_option linter.unusedSimpArgs false
namespace Go
open Go.RowKit
section
variable {P : Program} {ops : Array Oper} {rest : List Oper} {a : Act} {w : World} {Q : Exit → Act → World → Prop}
variable {dst : Option Tmp} {ty t t' : TypeId} {e : TypeId} {pos : String} {after : Array Edge} {g : Option (Nat × Bool)} {x y : Operand}
theorem wl_copy0 (hgd : Region.wanted (⟨dst, .call { callee := .builtin .copy, args := #[x, y], argTypes := #[t, t'] }, ty, pos, after, g⟩ : Oper) (yielded ops a.tmps) = true) {d s : Option Addr} {n cap mc : Nat} (hx : a.eval x = .slice d n cap) (ht : P.underlying t = some (.slice e)) (hi : (P.info? e).map (·.size) = some 1)
   (hy : a.eval y = .slice s 0 mc) (hk : wpList P ops Q rest (a.put dst (goInt 0)) w) : wpList P ops Q (⟨dst, .call { callee := .builtin .copy, args := #[x, y], argTypes := #[t, t'] }, ty, pos, after, g⟩ :: rest) a w := by
 refine wpList_want hgd fun K hK => ?_
 have hst : ∀ ty, (Builtin.copy_ #[t, t'] ty #[.slice d n cap, .slice s 0 mc]).run P w = .ok (goInt 0) w := fun ty =>
   run_copy_none (P := P) w t t' ty e d s n cap 0 mc ht hi (Nat.zero_min _)
 unfold Oper.wp execOp
 simp only [resolve, invoke, builtin, Sem.run_bind, Sem.run_pure, Result.andThen_ok, List.map_toArray, List.map_cons, List.map_nil, hx, hy, hst]
 exact hK _ _ hk
end
end Go
namespace Go.Proofs.Qu
open Go Go.RowKit Go.Proofs.Nm
theorem putB_nil (M : List Nat) (p : Nat) : putB M p [] = M := by
 unfold putB
 rw [List.append_nil, List.length_nil, Nat.add_zero, List.take_append_drop]
theorem getB_apart {M D : List Nat} {p q n : Nat} (h : p + D.length ≤ M.length) (ha : q + n ≤ p ∨ p + D.length ≤ q) : getB (putB M p D) q n = getB M q n := by
 unfold getB putB
 apply List.ext_getElem?
 intro i
 rw [List.getElem?_take, List.getElem?_take]
 by_cases hi : i < n
 · rw [if_pos hi, if_pos hi, List.getElem?_drop, List.getElem?_drop]
   have hl : (M.take p).length = p := by rw [List.length_take]; omega
   have hl2 : (M.take p ++ D).length = p + D.length := by rw [List.length_append, hl]
   rcases ha with ha | ha
   · rw [List.append_assoc, List.getElem?_append_left (by omega), List.getElem?_take, if_pos (by omega)]
   · rw [List.getElem?_append_right (by omega), hl2, List.getElem?_drop]
     congr 1; omega
 · rw [if_neg hi, if_neg hi]
theorem Rd.none {w : World} {b o : Nat} : Rd w 1 (.slice (some ⟨b, o, none⟩) 0 0) [] := ⟨_, 0, 0, rfl, rfl, Nat.le_refl _, by unfold maxLen; omega, (fun h => nomatch h), fun i hi => (Nat.not_lt_zero _ hi).elim⟩
end Go.Proofs.Qu
namespace Go.Proofs.YtjmibgomkgkhnaaGreat
open Go.Proofs.Qu Go.Proofs.Nm Go.RowKit Go.Proofs
theorem cap_pos {w0 w : World} {L : List (Nat × Array Value)} {R : List (Nat × Value × List Value)} {mb mo mn mc : Nat} {M : List Nat} (hv : Mem w0 w L R) (hm : InM R mb mo mn mc M) : mn ≤ mc := by
 obtain ⟨_, _, _, e, _, g, _⟩ := hv.rd hm.rd
 cases e; exact g
theorem asked_0 (mb mo mn mc p : Nat) (h : p ≤ mn) (hm : mn ≤ 8192) (w : World) : Calls Tryz.prog 55 #[(.agg #[(.slice (some ⟨mb, mo, none⟩) mn mc)]), .int .i64 p, .int .i64 0] w fun e w' => e = .returned (.int .i64 0) ∧ New w w' := asked_ok mb mo mn mc p 0 h hm w
theorem Get_zero {w0 w : World} {L : List (Nat × Array Value)} {R : List (Nat × Value × List Value)} {mb mo mn mc : Nat} {M : List Nat} (hv : Mem w0 w L R) (hm : InM R mb mo mn mc M) (p : Nat) (h : p ≤ mn) : Calls Tryz.prog 27 #[(.agg #[(.slice (some ⟨mb, mo, none⟩) mn mc)]), .int .i64 p, .int .i64 0] w fun e w' => ∃ v, e = .returned (.tuple #[v, .int .i64 0]) ∧ New w w' := by
 have HM8 : Hid (mn ≤ 8192) := Lib.hid hm.most
 have HH : Hid (p ≤ mn) := Lib.hid h
 have HPC : Hid (p ≤ mc) := Lib.hid (Nat.le_trans h (cap_pos hv hm))
 have HNI : Hid (∀ x ∈ ([] : List Value), x.oneCell' = true) := Lib.hid (fun x hx => (List.not_mem_nil hx).elim)
 have HSV : Hid (sliced (some ⟨mb, mo, none⟩) p p p 1 = .slice (some ⟨mb, mo, none⟩) 0 0) := Lib.hid (by unfold sliced; rw [if_pos rfl, Nat.sub_self])
 have q1 : IntKind.i64.wrap ((p : Int) + 0) = (p : Int) := by rw [Int.add_zero]; exact IntWalk.i64_in _ (by have := hm.most; omega)
 have q2 : IntKind.i64.wrap (p : Int) = (p : Int) := IntWalk.i64_in _ (by have := hm.most; omega)
 have HPN : Hid (Value.int .i64 (p : Int) = Value.int .i64 ((p : Nat) : Int)) := Lib.hid rfl
 clear hm h hv
 have hv := Mem.nil w
 go_enter Tryz.func27, Tryz.ntmps27
 go_wp2_with (first
   | ((with_reducible refine at_box (T := 26) (dst := some 3) ?_); refine wl_newb rfl #[(.slice (some ⟨mb, mo, none⟩) mn mc)] 26 (fun _ => rfl) ?_; intro b3 w2 hm2; replace hv := hv.madeAt hm2; clear hm2)
   | ((with_reducible refine at_load (T := 26) ?_); refine wl_ldv rfl b3 rfl _ hv.vars.ro 1 _ Tryz.underlying26 rfl infoM (by decide) rfl ?_)
   | ((with_reducible refine at_load (T := 24) ?_); refine wl_ldc rfl b3 0 rfl _ hv.vars.ro _ Tryz.underlying24 rfl (.slice (some ⟨mb, mo, none⟩) mn mc) rfl ?_)
   | (go_at_call 55; (with_reducible refine (asked_0 _ _ _ _ p HH.out HM8.out _).mono ?_); rintro e w1 ⟨rfl, hn1⟩; replace hv := hv.new hn1; clear hn1)
   | ((with_reducible refine at_slice (T := 24) ?_); refine wl_sliceV rfl rfl Tryz.underlying24 infoU81 p p p rfl HPN.out HPN.out (Nat.le_refl _) (Nat.le_refl _) HPC.out (v := .slice (some ⟨mb, mo, none⟩) 0 0) HSV.out ?_)
   | (go_at_call 56; replace hv := hv.fresh (Below.refl _ _) (k := 1) (v := .slice (some ⟨mb, mo, none⟩) 0 0) (c := []) ⟨Rd.none, fun h => (h rfl).elim⟩; (with_reducible refine (MClone_M hv Mem.z HNI.out (Nat.zero_le _)).mono ?_); rintro e w1 ⟨vb, vc, vz, rfl, hrow, hv1⟩; replace hv := hv1.drop; clear hv1 hrow))
 go_ret2
 exact ⟨_, rfl, hv.below⟩
theorem Put_zero {w0 w : World} {L : List (Nat × Array Value)} {R : List (Nat × Value × List Value)} {mb mo mn mc : Nat} {M : List Nat} (hv : Mem w0 w L R) (hm : InM R mb mo mn mc M) (p : Nat) {da : Option Addr} {dc : Nat} (h : p ≤ mn) : Calls Tryz.prog 30 #[(.agg #[(.slice (some ⟨mb, mo, none⟩) mn mc)]), .int .i64 p, .slice da 0 dc] w fun e w' => ∃ b c R', e = .returned (.tuple #[.agg #[.slice (some ⟨b, 0, none⟩) mn c], .int .i64 0]) ∧ Mem w0 w' L R' ∧ InM R' b 0 mn c M ∧ ∀ x ∈ R, x ∈ R' := by
 have HM := Lib.hid hm
 have HH : Hid (p ≤ mn) := Lib.hid h
 have HPL : Hid (p ≤ mn) := Lib.hid (by omega)
 have HM8 : Hid (mn ≤ 8192) := Lib.hid hm.most
 have HN6 : Hid (mn ≤ 1000000) := Lib.hid (by have := hm.most; omega)
 clear hm h
 go_enter Tryz.func30, Tryz.ntmps30
 go_wp2_with (first
   | ((with_reducible refine at_box (T := 26) (dst := some 3) ?_); refine wl_newb rfl #[(.slice (some ⟨mb, mo, none⟩) mn mc)] 26 (fun _ => rfl) ?_; intro b3 w2 hm2; replace hv := hv.madeAt hm2; clear hm2)
   | ((with_reducible refine at_alloc (T := 26) (dst := some 6) ?_); refine wl_newb rfl #[.slice none 0 0] 26 (fun _ => rfl) ?_; intro b6 w2 hm2; replace hv := hv.madeAt hm2; clear hm2)
   | ((with_reducible refine at_load (T := 26) ?_); refine wl_ldv rfl b3 rfl _ hv.vars.ro 1 _ Tryz.underlying26 rfl infoM (by decide) rfl ?_)
   | ((with_reducible refine at_load (T := 24) ?_); refine wl_ldc rfl b3 0 rfl _ hv.vars.ro _ Tryz.underlying24 rfl (.slice (some ⟨mb, mo, none⟩) mn mc) rfl ?_)
   | (go_at_call 55; (with_reducible refine (asked_0 _ _ _ _ p HH.out HM8.out _).mono ?_); rintro e w1 ⟨rfl, hn1⟩; replace hv := hv.new hn1; clear hn1)
   | (go_at_call 56; (with_reducible refine (MClone_M hv HM.out.rd (cellsB_one' _) HN6.out).mono ?_); rintro e w1 ⟨vb, vc, vz, rfl, hrow, hv1⟩; replace hv := hv1; clear hv1)
   | ((with_reducible refine at_slice (T := 24) ?_); obtain ⟨sa, hsa⟩ : ∃ sa, sliced (some ⟨vb, 0, none⟩) p mn vc 1 = .slice sa (mn - p) (vc - p) := ⟨_, rfl⟩; refine wl_sliceVl rfl rfl Tryz.underlying24 infoU81 p rfl HPL.out hsa ?_; clear hsa)
   | ((with_reducible refine at_copy (t := 24) (t' := 24) ?_); refine wl_copy0 rfl rfl Tryz.underlying24 infoU81 rfl ?_)
   | ((with_reducible refine at_build ?_); refine wl_build rfl [(0, .slice (some ⟨vb, 0, none⟩) mn vc)] rfl (built_mem _ _ _) ?_)
   | ((with_reducible refine at_store (T := 26) ?_); refine wl_stv rfl b6 rfl _ rfl _ hv.vars.ro hv.vars.so 1 infoM rfl rfl (by simp [Value.oneCell']) ?_; intro w2 hw2; replace hv := hv.sets (by repeat first | exact .z | apply SetM.s) hw2; clear hw2))
 try simp only [Exit.inBlock, Exit.then]
 refine ret_cell2 (v := .agg #[.slice (some ⟨vb, 0, none⟩) mn vc]) (v1 := .int .i64 0) rfl rfl (read_row _ b6 26 _ (hv.vars.ro (b := b6)) 1 _ Tryz.underlying26 rfl infoM (by decide) rfl) rfl rfl ?_
 have hv1 := (hv.perm (perm3i (vb, _) _ _ L)).drop.drop
 have hv2 := Mem.yield (L1 := []) hv1 hrow
 simp only [List.nil_append] at hv2
 first | exact ⟨vb, vc, _, rfl, hv2, ⟨Mem.z, HM.out.len, HM.out.pos, HM.out.most, HM.out.good⟩, fun x hx => Mem.s hx⟩ | exact ⟨vb, vc, rfl, _, hv2, ⟨Mem.z, HM.out.len, HM.out.pos, HM.out.most, HM.out.good⟩, fun _ _ _ hx => Mem.s hx⟩
theorem Put_any {w0 w : World} {L : List (Nat × Array Value)} {R : List (Nat × Value × List Value)} {mb mo mn mc : Nat} {M : List Nat} (hv : Mem w0 w L R) (hm : InM R mb mo mn mc M) (p : Nat) {dv : Value} {D : List Nat} (hd : (1, dv, cellsB D) ∈ R) (hg : goodB D) (h : p + D.length ≤ mn) : Calls Tryz.prog 30 #[(.agg #[(.slice (some ⟨mb, mo, none⟩) mn mc)]), .int .i64 p, dv] w fun e w' => ∃ b c R', e = .returned (.tuple #[.agg #[.slice (some ⟨b, 0, none⟩) mn c], .int .i64 0]) ∧ Mem w0 w' L R' ∧ InM R' b 0 mn c (putB M p D) ∧ ∀ x ∈ R, x ∈ R' := by
 obtain ⟨da, dn, dc, rfl, g, _⟩ := id (hv.rd hd)
 rw [cellsB_len, Nat.mul_one] at g
 subst g
 by_cases h0 : 0 < D.length
 · obtain ⟨db, do_, _, _, e, _⟩ := (hv.rd hd).some (by rw [cellsB_len]; exact h0)
   cases e
   exact Put_ok hv hm p hd hg h0 h
 · have e : D = [] := List.eq_nil_of_length_eq_zero (by omega)
   subst e
   rw [putB_nil]
   exact Put_zero hv hm p (by simpa using h)
end Go.Proofs.YtjmibgomkgkhnaaGreat
