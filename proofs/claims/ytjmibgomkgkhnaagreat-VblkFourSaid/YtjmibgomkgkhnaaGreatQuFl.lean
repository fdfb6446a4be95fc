import Derived.Test.YtjmibgomkgkhnaaGreatQuMm
import Derived.Deep.DeepMust
set_option linter.unusedSimpArgs false
set_option linter.unusedVariables false
set_option maxRecDepth 100000
set_option maxHeartbeats 4000000
section
/-
 Rings (layer 7): how long, where; numbers read and written one behind the other.
-/
namespace Go
open Go.RowKit
section
variable {P : Program} {o : Oper} {a : Act}
theorem run_stp (w : World) (ty : TypeId) (x y : Operand) (ho : o.op = .store ty x y) (b off : Nat) (cells : Array Value) (hx : a.eval x = .pointer (some ⟨b, off, none⟩)) (hy : a.eval y = .agg cells) (n : Nat) (hi : (P.info? ty).map (·.size) = some n)
   (hc : cells.size = n) (h1 : cells.all (·.oneCell') = true) (hsoft : w.soft b = true) (hs : off + n ≤ (w.rowD b).size) : ∃ w', (execOp a.eval o).run P w = .ok .skip w' ∧ Wrote w w' b (splice (w.rowD b) off cells) := by
 have e := setCells_row cells.toList w b off hsoft (by simp; omega)
 have ht : w.there b off cells.size := fun j hj => by
   obtain ⟨t, ht⟩ := soft_heap hsoft
   refine ⟨?_, frozen_of_row w b _ _ t ht⟩
   rw [cell_rowD, Array.getElem?_eq_getElem (by omega)]; rfl
 refine ⟨w.setRow b (splice (w.rowD b) off cells), ?_, wrote_setRow hsoft⟩
 unfold execOp
 simp only [ho, hx, hy, Instr.storeAt, Instr.sureAddr, Sem.run_bind, Sem.run_pure, Result.andThen_ok, run_storeVar_mid w b off ty cells ht (by rw [hc]; exact hi) h1, e]
end
namespace Any
section
variable {P : Program} {ops : Array Oper} {β : Base} {S : Nat → Stat} {D : Nat → Kind} {Q : Act → Env → Prop} {k : Nat} {rest : List Oper} {a : Act} {E : Env}
variable {dst : Option Tmp} {ty T : TypeId} {pos : String} {after : Array Edge} {g : Option (Nat × Bool)} {x y : Operand}
theorem E_putp {i B off : Nat} {c0 c : Array Value} (hw : Region.wanted (⟨dst, .store T x y, ty, pos, after, g⟩ : Oper) (yielded ops a.tmps) = true) (hD : D k = .put) (hS : (S k).write = some i) (hx : a.eval x = .pointer (some ⟨B, off, none⟩)) (hE : E i = some (B, c0))
   (hy : a.eval y = .agg c) (n : Nat) (hi : (P.info? T).map (·.size) = some n) (hc : c.size = n) (h0 : off + n ≤ c0.size) (h1 : c.all (·.oneCell') = true) {c' : Array Value} (hs : splice c0 off c = c')
   (hk : wpE P ops β S D Q (k + 1) rest (a.put dst undef) (E.put i (B, c'))) : wpE P ops β S D Q k (⟨dst, .store T x y, ty, pos, after, g⟩ :: rest) a E :=
 E_put hw hD hS rfl hx hE (by rw [hy]; exact hs) (fun w hr hs' => by
   obtain ⟨w', r1, r2⟩ := run_stp (P := P) (a := a) (o := ⟨dst, .store T x y, ty, pos, after, g⟩) w T x y rfl B off c hx hy n hi hc h1 hs' (by rw [hr]; exact h0)
   rw [hr, hs] at r2
   exact ⟨w', r1, r2⟩) hk
end
end Any
end Go
namespace Go.Proofs.Qu
open Go Go.RowKit Go.Proofs.Nm
def okN (n : Nat) : Prop := n = 1 ∨ n = 2 ∨ n = 4 ∨ n = 8 ∨ n = 16
def backN (n : Nat) : Nat := (16 * n + 4 + 2 * n + 3) / 4 * 4
def sizeN (n : Nat) : Nat := backN n + 4 + 8 * n
theorem okN.le {n : Nat} (h : okN n) : 1 ≤ n ∧ n ≤ 16 := by unfold okN at h; omega
theorem okN.size {n : Nat} (h : okN n) : sizeN n ≤ 424 ∧ 16 * n + 4 + 2 * n ≤ backN n ∧ backN n + 4 + 8 * n = sizeN n := by
 unfold sizeN backN
 have := h.le
 omega
theorem and_mask (i k : Nat) (hi : i < 65536) (hk : k ≤ 16) : bits .and .i64 (i : Int) (((2 ^ k - 1 : Nat)) : Int) = ((i % 2 ^ k : Nat) : Int) := by
 have hp : 2 ^ k ≤ 65536 := Nat.pow_le_pow_right (n := 2) (by omega) hk
 have e : (BitVec.ofInt IntKind.i64.bits (i : Int) &&& BitVec.ofInt IntKind.i64.bits ((2 ^ k - 1 : Nat) : Int)).toNat = i % 2 ^ k := by
   rw [BitVec.toNat_and, BitVec.ofInt_natCast, BitVec.ofInt_natCast, BitVec.toNat_ofNat, BitVec.toNat_ofNat]
   have h64 : (2 : Nat) ^ IntKind.i64.bits = 18446744073709551616 := by decide
   rw [h64, Nat.mod_eq_of_lt (by omega), Nat.mod_eq_of_lt (by omega), Nat.and_two_pow_sub_one_eq_mod]
 have hl : i % 2 ^ k < 65536 := Nat.lt_of_le_of_lt (Nat.mod_le _ _) hi
 unfold bits
 simp only [e]
 exact IntWalk.i64_in _ (by omega)
end Go.Proofs.Qu
namespace Go.Proofs.YtjmibgomkgkhnaaGreat
open Go.Proofs.Qu Go.Proofs.Nm Go.RowKit Go.Proofs
theorem right_ok (n : Nat) (h : okN n) (w : World) : Calls Tryz.prog 87 #[.int .i64 n] w fun e w' => e = .returned (.bool true) ∧ New w w' := by
 have hv := Mem.nil w
 rcases h with rfl | rfl | rfl | rfl | rfl
 all_goals
   go_enter Tryz.func87, Tryz.ntmps87
   go_wp2
   go_ret
   exact ⟨rfl, hv.below⟩
theorem avail_ok (n : Nat) (h : okN n) (w : World) : Calls Tryz.prog 91 #[.int .i64 n] w fun e w' => e = .returned (.int .i64 (16 * n : Nat)) ∧ New w w' := by
 have hv := Mem.nil w
 rcases h with rfl | rfl | rfl | rfl | rfl
 all_goals
   go_enter Tryz.func91, Tryz.ntmps91
   go_wp2
   go_ret
   exact ⟨rfl, hv.below⟩
theorem back_ok (n : Nat) (h : okN n) (w : World) : Calls Tryz.prog 88 #[.int .i64 n] w fun e w' => e = .returned (.int .i64 (backN n : Nat)) ∧ New w w' := by
 have hv := Mem.nil w
 rcases h with rfl | rfl | rfl | rfl | rfl
 all_goals
   go_enter Tryz.func88, Tryz.ntmps88
   go_wp2_with (first
     | (go_at_call 91; go_in))
   go_ret
   exact ⟨rfl, hv.below⟩
theorem Size_ok (n : Nat) (h : okN n) (w : World) : Calls Tryz.prog 54 #[.int .i64 n] w fun e w' => e = .returned (.int .i64 (sizeN n : Nat)) ∧ New w w' := by
 have hv := Mem.nil w
 obtain ⟨bk, hbk⟩ : ∃ bk, backN n = bk := ⟨_, rfl⟩
 have kB : ∀ w, Calls Tryz.prog 88 #[.int .i64 n] w fun e w' => e = .returned (.int .i64 bk) ∧ New w w' := fun w => by have := back_ok n h w; rw [hbk] at this; exact this
 have kR : ∀ w, Calls Tryz.prog 87 #[.int .i64 n] w fun e w' => e = .returned (.bool true) ∧ New w w' := fun w => right_ok n h w
 have h1 := h.size
 have h2 := h.le
 rw [hbk] at h1
 have q1 : IntKind.i64.wrap ((bk : Int) + 4) = (bk : Int) + 4 := IntWalk.i64_in _ (by omega)
 have q2 : IntKind.i64.wrap (8 * (n : Int)) = 8 * (n : Int) := IntWalk.i64_in _ (by omega)
 have q3 : IntKind.i64.wrap ((bk : Int) + 4 + 8 * (n : Int)) = ((sizeN n : Nat) : Int) := by rw [← h1.2.2]; rw [IntWalk.i64_in _ (by omega)]; omega
 clear h1 h2 h hbk
 go_enter Tryz.func54, Tryz.ntmps54
 go_wp2_with (first
   | (go_at_call 87; (with_reducible refine (kR _).mono ?_); rintro e w1 ⟨rfl, hn1⟩; replace hv := hv.new hn1; clear hn1)
   | (go_at_call 88; (with_reducible refine (kB _).mono ?_); rintro e w1 ⟨rfl, hn1⟩; replace hv := hv.new hn1; clear hn1))
 go_ret
 exact ⟨rfl, hv.below⟩
theorem RingCheck_ok (mb mo mn mc base n : Nat) (hn : okN n) (hb : base + sizeN n ≤ mn) (hm : mn ≤ 8192) (w : World) : Calls Tryz.prog 53 #[(.agg #[(.slice (some ⟨mb, mo, none⟩) mn mc)]), .int .i64 base, .int .i64 n] w fun e w' => e = .returned (.bool true) ∧ New w w' := by
 have hv := Mem.nil w
 have HN := Lib.hid hn
 have HM := Lib.hid hm
 obtain ⟨sz, hsz⟩ : ∃ sz, sizeN n = sz := ⟨_, rfl⟩
 have h24 : 24 ≤ sz := by have := hn.size; have := hn.le; rw [← hsz]; unfold sizeN backN; omega
 have kS : ∀ w, Calls Tryz.prog 54 #[.int .i64 n] w fun e w' => e = .returned (.int .i64 sz) ∧ New w w' := fun w => by have := Size_ok n hn w; rw [hsz] at this; exact this
 rw [hsz] at hb
 have y1 : decide ((0 : Int) < (sz : Int)) = true := decide_eq_true (by omega)
 have z1 : decide (0 < sz) = true := decide_eq_true (by omega)
 have y2 : decide ((0 : Int) ≤ (base : Int)) = true := decide_eq_true (by omega)
 have y3 : decide ((sz : Int) ≤ (mn : Int)) = true := decide_eq_true (by omega)
 have z3 : decide (sz ≤ mn) = true := decide_eq_true (by omega)
 have q1 : IntKind.i64.wrap ((mn : Int) - (sz : Int)) = (mn : Int) - (sz : Int) := IntWalk.i64_in _ (by omega)
 have y4 : decide ((base : Int) ≤ (mn : Int) - (sz : Int)) = true := decide_eq_true (by omega)
 clear hn hb hm hsz h24
 go_enter Tryz.func53, Tryz.ntmps53
 go_wp2_with (first
   | ((with_reducible refine at_box (T := 26) (dst := some 3) ?_); refine wl_newb rfl #[(.slice (some ⟨mb, mo, none⟩) mn mc)] 26 (fun _ => rfl) ?_; intro b3 w2 hm2; replace hv := hv.madeAt hm2; clear hm2)
   | ((with_reducible refine at_load (T := 26) ?_); refine wl_ldv rfl b3 rfl _ hv.vars.ro 1 _ Tryz.underlying26 rfl infoM (by decide) rfl ?_)
   | ((with_reducible refine at_load (T := 24) ?_); refine wl_ldc rfl b3 0 rfl _ hv.vars.ro _ Tryz.underlying24 rfl (.slice (some ⟨mb, mo, none⟩) mn mc) rfl ?_)
   | (go_at_call 54; (with_reducible refine (kS _).mono ?_); rintro e w1 ⟨rfl, hn1⟩; replace hv := hv.new hn1; clear hn1)
   | (go_at_call 86; (with_reducible refine (MCheck_ok _ _ _ _ HM.out _).mono ?_); rintro e w1 ⟨rfl, hn1⟩; replace hv := hv.new hn1; clear hn1))
 go_ret
 exact ⟨rfl, hv.below⟩
theorem place_ok (n i s : Nat) (hn : okN n) (hi : i < 65536) (hs : s ≤ 8) (w : World) : Calls Tryz.prog 93 #[.int .i64 n, .int .u16 i, .int .i64 s] w fun e w' => e = .returned (.int .i64 (4 + s * (i % n) : Nat)) ∧ New w w' := by
 have hv := Mem.nil w
 have hc : IntKind.i64.wrap (i : Int) = (i : Int) := IntWalk.i64_in _ (by omega)
 have hk : ∃ k, k ≤ 4 ∧ n = 2 ^ k := by
   rcases hn with rfl | rfl | rfl | rfl | rfl
   · exact ⟨0, by omega, rfl⟩
   · exact ⟨1, by omega, rfl⟩
   · exact ⟨2, by omega, rfl⟩
   · exact ⟨3, by omega, rfl⟩
   · exact ⟨4, by omega, rfl⟩
 have hle := hn.le
 have q0 : IntKind.i64.wrap ((n : Int) - 1) = ((n - 1 : Nat) : Int) := by rw [IntWalk.i64_in _ (by omega)]; omega
 have q1 : bits .and .i64 (i : Int) ((n - 1 : Nat) : Int) = ((i % n : Nat) : Int) := by
   obtain ⟨k, h1, rfl⟩ := hk
   exact and_mask i k hi (by omega)
 obtain ⟨r, hr⟩ : ∃ r, i % n = r := ⟨_, rfl⟩
 have hr2 : r < 16 := by rw [← hr]; exact Nat.lt_of_lt_of_le (Nat.mod_lt _ (by omega)) hle.2
 rw [hr] at q1
 obtain ⟨sr, hsr⟩ : ∃ sr, s * r = sr := ⟨_, rfl⟩
 have hsb : sr ≤ 128 := by rw [← hsr]; exact Nat.le_trans (Nat.mul_le_mul hs (show r ≤ 16 by omega)) (by decide)
 have q2 : IntKind.i64.wrap ((s : Int) * (r : Int)) = (sr : Int) := by rw [← Int.natCast_mul, hsr]; exact IntWalk.i64_in _ (by omega)
 have q3 : IntKind.i64.wrap (4 + (sr : Int)) = 4 + (sr : Int) := IntWalk.i64_in _ (by omega)
 rw [hr, hsr]
 clear hn hi hs hk hle hr hr2 hsr hsb
 go_enter Tryz.func93, Tryz.ntmps93
 go_wp2
 go_ret
 exact ⟨by first | rfl | (congr 2), hv.below⟩
end Go.Proofs.YtjmibgomkgkhnaaGreat
end

section
/-
 Rings: numbers read and written one behind the other.
-/
namespace Go.Proofs.Qu
open Go Go.RowKit Go.Proofs.Nm
def PutW (mn : Nat) (M : List Nat) (v : Value) (x : Nat × Array Value) : Prop := ∃ c, v = .tuple #[.agg #[.slice (some ⟨x.1, 0, none⟩) mn c], .int .i64 0] ∧ AppRow (.slice (some ⟨x.1, 0, none⟩) mn c) 1 (cellsB M) x
end Go.Proofs.Qu
namespace Go.Proofs.YtjmibgomkgkhnaaGreat
open Go.Proofs.Qu Go.Proofs.Nm Go.RowKit Go.Proofs
theorem Num_w {mb mo mn mc : Nat} {M : List Nat} (hl : M.length = mn) (hp : 0 < mn) (hm8 : mn ≤ 8192) (hg : goodB M) (p n : Nat) (h0 : 0 < n) (h1 : n ≤ 8) (h : p + n ≤ mn) (w : World) (hr : Rd w 1 (.slice (some ⟨mb, mo, none⟩) mn mc) (cellsB M)) : Calls Tryz.prog 47 #[(.agg #[(.slice (some ⟨mb, mo, none⟩) mn mc)]), .int .i64 p, .int .i64 n] w fun e w' => e = .returned (.tuple #[.int .u64 (getN M p n : Nat), .int .i64 0]) ∧ New w w' :=
 Num_ok ((Mem.nil w).old hr) ⟨Mem.z, hl, hp, hm8, hg⟩ p n h0 h1 h
theorem get_M {w0 w : World} {L : List (Nat × Array Value)} {R : List (Nat × Value × List Value)} {bF mb mo mn mc p : Nat} {M : List Nat} (hv : Mem w0 w ((bF, #[(.slice (some ⟨mb, mo, none⟩) mn mc), .int .i64 p]) :: L) R) (hm : InM R mb mo mn mc M) (k : Nat) (h0 : 0 < k) (h1 : k ≤ 8) (h : p + k ≤ mn) : Calls Tryz.prog 95 #[.pointer (some ⟨bF, 0, none⟩), .int .i64 k] w fun e w' => e = .returned (.int .u64 (getN M p k : Nat)) ∧ Mem w0 w' ((bF, #[(.slice (some ⟨mb, mo, none⟩) mn mc), .int .i64 ((p + k) : Nat)]) :: L) R := by
 have HPM := Lib.hid (Any.rd_start (hv.keep (List.sublist_append_left [(bF, #[(.slice (some ⟨mb, mo, none⟩) mn mc), .int .i64 p])] L)) hm.rd)
 obtain ⟨x, hx⟩ : ∃ x, getN M p k = x := ⟨_, rfl⟩
 have HKN : Hid (∀ w1, Rd w1 1 (.slice (some ⟨mb, mo, none⟩) mn mc) (cellsB M) → Calls Tryz.prog 47 #[(.agg #[(.slice (some ⟨mb, mo, none⟩) mn mc)]), .int .i64 p, .int .i64 k] w1 fun e w' => e = .returned (.tuple #[.int .u64 x, .int .i64 0]) ∧ New w1 w') := Lib.hid (fun w1 hr => by
   have := Num_w hm.len hm.pos hm.most hm.good p k h0 h1 h w1 hr
   rw [hx] at this; exact this)
 rw [hx]
 have hb : (p : Int) + (k : Int) ≤ 8192 := by have := hm.most; omega
 have q1 : IntKind.i64.wrap ((p : Int) + (k : Int)) = (p : Int) + (k : Int) := IntWalk.i64_in _ (by omega)
 clear hx hm h0 h1 h
 go_enter Tryz.func95, Tryz.ntmps95
 go_wp2
 replace hv : Mem w0 _ ([(bF, _)] ++ L) _ := hv
 refine Any.wp_region_walk [⟨[], none⟩, ⟨[], none⟩, ⟨[], none⟩, ⟨[1000], none⟩, ⟨[], none⟩, ⟨[], none⟩, ⟨[], none⟩, ⟨[1000], none⟩, ⟨[], none⟩, ⟨[], none⟩, ⟨[], none⟩, ⟨[], none⟩, ⟨[], none⟩, ⟨[], none⟩, ⟨[], none⟩] [.val, .val, .val, .val, .val, .val, .val, .val, .val, .val, .val, .val, .val, .val, .val] (by kernel_rfl) (by kernel_rfl) (hv.vars.keep (List.sublist_append_left [(bF, #[(.slice (some ⟨mb, mo, none⟩) mn mc), .int .i64 p])] L)) ?_
 simp only [List.length_cons, List.length_nil, Nat.zero_add, Any.someVals]
 iterate 15 apply Exists.intro
 repeat (first
   | (refine Any.E_off rfl ?_; simp only [Act.put, sia, scs, scz])
   | (apply Any.E_pureq rfl rfl rfl
      case h => intro K hK; go_big_quiet_op; (refine hK _ ?_; rfl)
      case hr => exact fun _ => rfl
      simp only [Act.put, sia, scs, scz])
   | (apply Any.E_val rfl rfl rfl rfl
      case h =>
        intro E' hA K hK
        first
          | ((with_reducible refine Any.at_qload (T := 26) ?_); refine Any.q_ldp 1000 hA (by decide) rfl rfl 1 _ Tryz.underlying26 rfl infoM (by decide) (show 0 + 1 ≤ 2 from by decide) #[(.slice (some ⟨mb, mo, none⟩) mn mc)] rfl ?_; refine hK _ ?_; rfl)
          | ((with_reducible refine Any.at_qload (T := 3) ?_); refine Any.q_ldc 1000 hA (by decide) rfl rfl _ Tryz.underlying3 rfl (.int .i64 p) rfl ?_; refine hK _ ?_; rfl)
          | (go_big_quiet_op; first
            | (refine hK _ ?_; rfl)
            | (refine ⟨_, fun _ _ => rfl, ?_⟩; refine hK _ ?_; rfl)
            | (apply Exists.intro; refine ⟨fun w1 hw1 => ?_, ?_⟩; · (first
                | (go_at_call 47; exact Any.calls_VE (HKN.out _ (hw1.rdold HPM.out.1 HPM.out.2)) hw1))
               refine hK _ ?_; rfl))
      case hD => rfl
      simp only [Act.put, sia, scs, scz])
   | ((with_reducible refine Any.at_ealloc ?_); refine Any.E_lay rfl rfl rfl (fun _ => rfl) ?_; intro B; simp only [Act.put, sia, scs, scz]))
 try any_goals exact undef
 refine Any.E_nil ?_
 intro w9 hE9
 replace hv : Mem w0 w9 ([(bF, #[(.slice (some ⟨mb, mo, none⟩) mn mc), .int .i64 p])] ++ L) _ := hE9.memr hv [1000] (by decide)
 clear hE9
 simp only [List.cons_append, List.nil_append] at hv
 go_wp2_with (first
   | ((with_reducible refine at_load (T := 3) ?_); refine wl_ldc rfl bF 1 rfl _ hv.vars.ro _ Tryz.underlying3 rfl (.int .i64 p) rfl ?_)
   | ((with_reducible refine at_store (T := 3) ?_); refine wl_stc rfl bF 1 rfl (.int .i64 ((p : Int) + (k : Int))) rfl _ hv.vars.ro hv.vars.so (by kernel_rfl) rfl (by show 1 < 2; decide) ?_; intro w2 hw2; replace hv := hv.sets (by repeat first | exact .z | apply SetM.s) hw2; clear hw2))
 go_ret
 exact ⟨rfl, hv⟩
theorem splice_two (a b v : Value) : splice #[a, b] 0 #[v] = #[v, b] := by simp [splice]
theorem put_gen {w0 w : World} {L : List (Nat × Array Value)} {R : List (Nat × Value × List Value)} {bF mb mo mn mc p : Nat} {M : List Nat} (hv : Mem w0 w ((bF, #[(.slice (some ⟨mb, mo, none⟩) mn mc), .int .i64 p]) :: L) R) (hm : InM R mb mo mn mc M) (n k : Nat) (h0 : 0 < k) (h1 : k ≤ 8) (h : p + k ≤ mn) (hle : ∀ w, Calls Tryz.prog 121 #[.int .u64 n, .int .i64 k] w fun e w' => ∃ v x, e = .returned v ∧ AppRow v 1 (cellsB (leB n k)) x ∧ New w w' ∧ w.heap.size ≤ x.1 ∧ w'.rowD x.1 = x.2 ∧ w'.soft x.1 = true) : Calls Tryz.prog 98 #[.pointer (some ⟨bF, 0, none⟩), .int .i64 k, .int .u64 n] w fun e w' => e = .returned (.tuple #[]) ∧ ∃ b c R', Mem w0 w' ((bF, #[.slice (some ⟨b, 0, none⟩) mn c, .int .i64 ((p + k : Nat) : Int)]) :: L) R' ∧ InM R' b 0 mn c (putB M p (leB n k)) ∧ ∀ x ∈ R, x ∈ R' := by
 have HM := Lib.hid hm
 have HPM := Lib.hid (Any.rd_start (hv.keep (List.sublist_append_left [(bF, #[(.slice (some ⟨mb, mo, none⟩) mn mc), .int .i64 p])] L)) hm.rd)
 have hlen : (putB M p (leB n k)).length = mn := by rw [putB_len (by rw [leB_len, hm.len]; exact h)]; exact hm.len
 have HWS : Hid (∃ v x, PutW mn (putB M p (leB n k)) v x) := Lib.hid (by
   obtain ⟨v, x, hr⟩ := Any.AppRow.some (k := 1) (c := cellsB (putB M p (leB n k))) (n := mn) (by rw [cellsB_len, hlen, Nat.mul_one]) (by have := hm.most; unfold maxLen; omega)
   have hq := hr
   obtain ⟨n', c, e, g, _⟩ := hq
   rw [cellsB_len, hlen, Nat.mul_one] at g
   subst e
   subst g
   exact ⟨_, x, c, rfl, hr⟩)
 have HPN : Hid (∀ w1, Rd w1 1 (.slice (some ⟨mb, mo, none⟩) mn mc) (cellsB M) → Calls Tryz.prog 107 #[(.agg #[(.slice (some ⟨mb, mo, none⟩) mn mc)]), .int .i64 p, .int .i64 k, .int .u64 n] w1 fun e w' => ∃ v x, e = .returned v ∧ PutW mn (putB M p (leB n k)) v x ∧ New w1 w' ∧ w1.heap.size ≤ x.1 ∧ w'.rowD x.1 = x.2 ∧ w'.soft x.1 = true) := Lib.hid (fun w1 hr => by
   refine (PutNum_row ((Mem.nil w1).old hr) ⟨Mem.z, hm.len, hm.pos, hm.most, hm.good⟩ p n k h0 h1 h hle).mono ?_
   rintro e w' ⟨b, c, rfl, z, hrow, hv1⟩
   have hx := hv1.vars.rows (b, z) (List.mem_cons_self ..)
   exact ⟨_, (b, z), rfl, ⟨c, rfl, hrow⟩, hv1.below, hx.2.2, hx.1, hx.2.1⟩)
 have HG : Hid (goodB (putB M p (leB n k))) := Lib.hid (putB_good hm.good (leB_good n k))
 have HLEN := Lib.hid hlen
 have hb : (p : Int) + (k : Int) ≤ 8192 := by have := hm.most; omega
 have q1 : IntKind.i64.wrap ((p : Int) + (k : Int)) = (p : Int) + (k : Int) := IntWalk.i64_in _ (by omega)
 clear hm h0 h1 h hle hlen
 go_enter Tryz.func98, Tryz.ntmps98
 go_wp2
 replace hv : Mem w0 _ ([(bF, _)] ++ L) _ := hv
 refine Any.wp_region_walk [⟨[], none⟩, ⟨[], none⟩, ⟨[], none⟩, ⟨[], none⟩, ⟨[1000], none⟩, ⟨[], none⟩, ⟨[], none⟩, ⟨[], none⟩, ⟨[1000], none⟩, ⟨[], none⟩, ⟨[], none⟩, ⟨[], some 9⟩, ⟨[], none⟩, ⟨[], none⟩, ⟨[], none⟩, ⟨[], none⟩, ⟨[], none⟩, ⟨[1000], some 1000⟩] [.val, .val, .val, .val, .val, .val, .val, .val, .val, .val, .val, .own (PutW mn (putB M p (leB n k))), .pure, .pure, .pure, .val, .val, .put] (by kernel_rfl) (by kernel_rfl) (hv.vars.keep (List.sublist_append_left [(bF, #[(.slice (some ⟨mb, mo, none⟩) mn mc), .int .i64 p])] L)) ?_
 simp only [List.length_cons, List.length_nil, Nat.zero_add, Any.someVals]
 iterate 18 apply Exists.intro
 repeat (first
   | (refine Any.E_off rfl ?_; simp only [Act.put, sia, scs, scz])
   | (apply Any.E_pureq rfl rfl rfl
      case h => intro K hK; go_big_quiet_op; (refine hK _ ?_; rfl)
      case hr => exact fun _ => rfl
      simp only [Act.put, sia, scs, scz])
   | (apply Any.E_val rfl rfl rfl rfl
      case h =>
        intro E' hA K hK
        first
          | ((with_reducible refine Any.at_qload (T := 26) ?_); refine Any.q_ldp 1000 hA (by decide) rfl rfl 1 _ Tryz.underlying26 rfl infoM (by decide) (show 0 + 1 ≤ 2 from by decide) #[(.slice (some ⟨mb, mo, none⟩) mn mc)] rfl ?_; refine hK _ ?_; rfl)
          | ((with_reducible refine Any.at_qload (T := 3) ?_); refine Any.q_ldc 1000 hA (by decide) rfl rfl _ Tryz.underlying3 rfl (.int .i64 p) rfl ?_; refine hK _ ?_; rfl)
          | (go_big_quiet_op; first
            | (refine hK _ ?_; rfl)
            | (refine ⟨_, fun _ _ => rfl, ?_⟩; refine hK _ ?_; rfl)
            | (apply Exists.intro; refine ⟨fun w1 hw1 => ?_, ?_⟩; · (first
                | fail)
               refine hK _ ?_; rfl))
      case hD => rfl
      simp only [Act.put, sia, scs, scz])
   | ((with_reducible refine Any.at_ealloc ?_); refine Any.E_lay rfl rfl rfl (fun _ => rfl) ?_; intro B; simp only [Act.put, sia, scs, scz])
   | ((with_reducible refine Any.at_ecall ?_); refine Any.E_callown (W := PutW mn (putB M p (leB n k))) rfl rfl rfl (Go.Proofs.enters_of Tryz.func107 (by kernel_rfl) rfl) rfl [(.agg #[(.slice (some ⟨mb, mo, none⟩) mn mc)]), .int .i64 p, .int .i64 k, .int .u64 n] rfl HWS.out (fun E' w1 hw1 => HPN.out w1 (hw1.rdold HPM.out.1 HPM.out.2)) ?_; intro v9 x9 hW9; obtain ⟨vc, rfl, hrow⟩ := hW9; replace hrow := Lib.hid hrow; simp only [Act.put, sia, scs, scz])
   | ((with_reducible refine Any.at_estore (T := 26) ?_); refine Any.E_putp rfl rfl rfl rfl rfl rfl 1 infoM rfl (by show 0 + 1 ≤ 2; decide) (by simp [Value.oneCell']) (c' := #[(.slice (some ⟨x9.1, 0, none⟩) mn vc), .int .i64 p]) (splice_two _ _ _) ?_; simp only [Act.put, sia, scs, scz]))
 try any_goals exact undef
 refine Any.E_nil ?_
 intro w9 hE9
 replace hv : Mem w0 w9 ([(bF, #[(.slice (some ⟨x9.1, 0, none⟩) mn vc), .int .i64 p]), x9] ++ L) _ := hE9.memr hv [1000, 9] (by decide)
 clear hE9
 simp only [List.cons_append, List.nil_append] at hv
 go_wp2_with (first
   | ((with_reducible refine at_load (T := 3) ?_); refine wl_ldc rfl bF 1 rfl _ hv.vars.ro _ Tryz.underlying3 rfl (.int .i64 p) rfl ?_)
   | ((with_reducible refine at_store (T := 3) ?_); refine wl_stc rfl bF 1 rfl (.int .i64 ((p : Int) + (k : Int))) rfl _ hv.vars.ro hv.vars.so (by kernel_rfl) rfl (by show 1 < 2; decide) ?_; intro w2 hw2; replace hv := hv.sets (by repeat first | exact .z | apply SetM.s) hw2; clear hw2))
 go_end0
 have hv2 := Mem.yield (L1 := []) (L2 := (bF, #[(.slice (some ⟨x9.1, 0, none⟩) mn vc), .int .i64 ((p + k) : Nat)]) :: L) (hv.perm (List.Perm.swap x9 _ L)) hrow.out
 simp only [List.nil_append] at hv2
 exact ⟨rfl, x9.1, vc, _, hv2, ⟨Mem.z, HLEN.out, HM.out.pos, HM.out.most, HG.out⟩, fun x hx => Mem.s hx⟩
theorem get_2 {w0 w : World} {L : List (Nat × Array Value)} {R : List (Nat × Value × List Value)} {bF mb mo mn mc p : Nat} {M : List Nat} (hv : Mem w0 w ((bF, #[(.slice (some ⟨mb, mo, none⟩) mn mc), .int .i64 p]) :: L) R) (hm : InM R mb mo mn mc M) (h : p + 2 ≤ mn) : Calls Tryz.prog 95 #[.pointer (some ⟨bF, 0, none⟩), .int .i64 2] w fun e w' => e = .returned (.int .u64 (getN M p 2 : Nat)) ∧ Mem w0 w' ((bF, #[(.slice (some ⟨mb, mo, none⟩) mn mc), .int .i64 ((p + 2) : Nat)]) :: L) R := get_M hv hm 2 (by decide) (by decide) h
theorem put_2 {w0 w : World} {L : List (Nat × Array Value)} {R : List (Nat × Value × List Value)} {bF mb mo mn mc p : Nat} {M : List Nat} (hv : Mem w0 w ((bF, #[(.slice (some ⟨mb, mo, none⟩) mn mc), .int .i64 p]) :: L) R) (hm : InM R mb mo mn mc M) (n : Nat) (hn : n < 18446744073709551616) (h : p + 2 ≤ mn) : Calls Tryz.prog 98 #[.pointer (some ⟨bF, 0, none⟩), .int .i64 2, .int .u64 n] w fun e w' => e = .returned (.tuple #[]) ∧ ∃ b c R', Mem w0 w' ((bF, #[.slice (some ⟨b, 0, none⟩) mn c, .int .i64 ((p + 2 : Nat) : Int)]) :: L) R' ∧ InM R' b 0 mn c (putB M p (leB n 2)) ∧ ∀ x ∈ R, x ∈ R' := put_gen hv hm n 2 (by decide) (by decide) h (fun w => LeR_2 n hn w)
theorem get_4 {w0 w : World} {L : List (Nat × Array Value)} {R : List (Nat × Value × List Value)} {bF mb mo mn mc p : Nat} {M : List Nat} (hv : Mem w0 w ((bF, #[(.slice (some ⟨mb, mo, none⟩) mn mc), .int .i64 p]) :: L) R) (hm : InM R mb mo mn mc M) (h : p + 4 ≤ mn) : Calls Tryz.prog 95 #[.pointer (some ⟨bF, 0, none⟩), .int .i64 4] w fun e w' => e = .returned (.int .u64 (getN M p 4 : Nat)) ∧ Mem w0 w' ((bF, #[(.slice (some ⟨mb, mo, none⟩) mn mc), .int .i64 ((p + 4) : Nat)]) :: L) R := get_M hv hm 4 (by decide) (by decide) h
theorem put_4 {w0 w : World} {L : List (Nat × Array Value)} {R : List (Nat × Value × List Value)} {bF mb mo mn mc p : Nat} {M : List Nat} (hv : Mem w0 w ((bF, #[(.slice (some ⟨mb, mo, none⟩) mn mc), .int .i64 p]) :: L) R) (hm : InM R mb mo mn mc M) (n : Nat) (hn : n < 18446744073709551616) (h : p + 4 ≤ mn) : Calls Tryz.prog 98 #[.pointer (some ⟨bF, 0, none⟩), .int .i64 4, .int .u64 n] w fun e w' => e = .returned (.tuple #[]) ∧ ∃ b c R', Mem w0 w' ((bF, #[.slice (some ⟨b, 0, none⟩) mn c, .int .i64 ((p + 4 : Nat) : Int)]) :: L) R' ∧ InM R' b 0 mn c (putB M p (leB n 4)) ∧ ∀ x ∈ R, x ∈ R' := put_gen hv hm n 4 (by decide) (by decide) h (fun w => LeR_4 n hn w)
theorem get_8 {w0 w : World} {L : List (Nat × Array Value)} {R : List (Nat × Value × List Value)} {bF mb mo mn mc p : Nat} {M : List Nat} (hv : Mem w0 w ((bF, #[(.slice (some ⟨mb, mo, none⟩) mn mc), .int .i64 p]) :: L) R) (hm : InM R mb mo mn mc M) (h : p + 8 ≤ mn) : Calls Tryz.prog 95 #[.pointer (some ⟨bF, 0, none⟩), .int .i64 8] w fun e w' => e = .returned (.int .u64 (getN M p 8 : Nat)) ∧ Mem w0 w' ((bF, #[(.slice (some ⟨mb, mo, none⟩) mn mc), .int .i64 ((p + 8) : Nat)]) :: L) R := get_M hv hm 8 (by decide) (by decide) h
theorem put_8 {w0 w : World} {L : List (Nat × Array Value)} {R : List (Nat × Value × List Value)} {bF mb mo mn mc p : Nat} {M : List Nat} (hv : Mem w0 w ((bF, #[(.slice (some ⟨mb, mo, none⟩) mn mc), .int .i64 p]) :: L) R) (hm : InM R mb mo mn mc M) (n : Nat) (hn : n < 18446744073709551616) (h : p + 8 ≤ mn) : Calls Tryz.prog 98 #[.pointer (some ⟨bF, 0, none⟩), .int .i64 8, .int .u64 n] w fun e w' => e = .returned (.tuple #[]) ∧ ∃ b c R', Mem w0 w' ((bF, #[.slice (some ⟨b, 0, none⟩) mn c, .int .i64 ((p + 8 : Nat) : Int)]) :: L) R' ∧ InM R' b 0 mn c (putB M p (leB n 8)) ∧ ∀ x ∈ R, x ∈ R' := put_gen hv hm n 8 (by decide) (by decide) h (fun w => LeR_8 n hn w)
theorem built_fld (mb mo mn mc p : Nat) : Tryz.prog.built 185 [(0, (.agg #[(.slice (some ⟨mb, mo, none⟩) mn mc)])), (1, .int .i64 p)] = some #[(.slice (some ⟨mb, mo, none⟩) mn mc), .int .i64 p] := by kernel_rfl
theorem reading_M {w0 w : World} {L : List (Nat × Array Value)} {R : List (Nat × Value × List Value)} {mb mo mn mc : Nat} {M : List Nat} (hv : Mem w0 w L R) (hm : InM R mb mo mn mc M) (base n p : Nat) (hn : okN n) (hb : base + sizeN n ≤ mn) (hp : base + p ≤ 100000) {f : FuncId} {cap : Array Value} (hE : Enters Tryz.prog f) {Post : World → Prop}
   (hdo : ∀ bF w1, Mem w0 w1 ((bF, #[(.slice (some ⟨mb, mo, none⟩) mn mc), .int .i64 ((base + p) : Nat)]) :: L) R → Calls Tryz.prog f (#[.pointer (some ⟨bF, 0, none⟩)] ++ cap) w1 fun e w' => e = .returned (.tuple #[]) ∧ Post w') :
   Calls Tryz.prog 92 #[(.agg #[(.slice (some ⟨mb, mo, none⟩) mn mc)]), .int .i64 base, .int .i64 n, .int .i64 p, .func (.func f) #[] cap] w fun e w' => e = .returned (.int .i64 0) ∧ Post w' := by
 have HE := Lib.hid hE
 have HDO := Lib.hid hdo
 have HN := Lib.hid hn
 have HB := Lib.hid hb
 have HM8 : Hid (mn ≤ 8192) := Lib.hid hm.most
 have q1 : IntKind.i64.wrap ((base : Int) + (p : Int)) = ((base + p : Nat) : Int) := by rw [IntWalk.i64_in _ (by omega)]; omega
 clear hE hdo hn hb hm hp
 go_enter Tryz.func92, Tryz.ntmps92
 go_wp2_with (first
   | ((with_reducible refine at_box (T := 26) (dst := some 5) ?_); refine wl_newb rfl #[(.slice (some ⟨mb, mo, none⟩) mn mc)] 26 (fun _ => rfl) ?_; intro b5 w2 hm2; replace hv := hv.madeAt hm2; clear hm2)
   | ((with_reducible refine at_load (T := 26) ?_); refine wl_ldv rfl b5 rfl _ hv.vars.ro 1 _ Tryz.underlying26 rfl infoM (by decide) rfl ?_)
   | (go_at_call 53; (with_reducible refine (RingCheck_ok _ _ _ _ _ _ HN.out HB.out HM8.out _).mono ?_); rintro e w1 ⟨rfl, hn1⟩; replace hv := hv.new hn1; clear hn1)
   | ((with_reducible refine at_build ?_); refine wl_build rfl [(0, (.agg #[(.slice (some ⟨mb, mo, none⟩) mn mc)])), (1, .int .i64 ((base + p : Nat) : Int))] rfl (built_fld _ _ _ _ _) ?_)
   | ((with_reducible refine at_box (T := 185) (dst := some 22) ?_); refine wl_newb rfl #[(.slice (some ⟨mb, mo, none⟩) mn mc), .int .i64 ((base + p : Nat) : Int)] 185 (fun _ => rfl) ?_; intro bF w2 hm2; replace hv := hv.madeAt hm2; clear hm2)
   | ((with_reducible refine at_call ?_); refine wl_callv rfl HE.out rfl [.pointer (some ⟨bF, 0, none⟩)] rfl (HDO.out bF _ (hv.swap.drop)) ?_; rintro e w1 ⟨rfl, hpost⟩; refine ⟨_, rfl, ?_⟩; replace hpost := Lib.hid hpost; clear hv))
 go_ret
 exact ⟨rfl, hpost.out⟩
end Go.Proofs.YtjmibgomkgkhnaaGreat
end
