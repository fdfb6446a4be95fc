/-
  Rings: numbers read and written one behind the other.
-/
import Derived.Test.YtcelehhaggoijaaQuFld
import Derived.Deep.DeepMust
set_option linter.unusedVariables false
set_option linter.unusedSimpArgs false
namespace Go.Proofs.Qu
open Go Go.RowKit Go.Proofs.Nm
/-- Memory that was put anew: its row. -/
def PutW (mn : Nat) (M : List Nat) (v : Value) (x : Nat × Array Value) : Prop := ∃ c, v = .tuple #[.agg #[.slice (some ⟨x.1, 0, none⟩) mn c], .int .i64 0] ∧ AppRow (.slice (some ⟨x.1, 0, none⟩) mn c) 1 (cellsB M) x
end Go.Proofs.Qu
namespace Go.Proofs.Ytcelehhaggoijaa
open Go.Proofs.Qu Go.Proofs.Nm Go.RowKit Go.Proofs
theorem infoF : (Try.prog.info? 121).map (·.size) = some 2 := by kernel_rfl
theorem Num_w {mb mo mn mc : Nat} {M : List Nat} (hl : M.length = mn) (hp : 0 < mn) (hm8 : mn ≤ 8192) (hg : goodB M) (p n : Nat) (h0 : 0 < n) (h1 : n ≤ 8) (h : p + n ≤ mn) (w : World) (hr : Rd w 1 (.slice (some ⟨mb, mo, none⟩) mn mc) (cellsB M)) : Calls Try.prog 74 #[(.agg #[(.slice (some ⟨mb, mo, none⟩) mn mc)]), .int .i64 (p : Nat), .int .i64 (n : Nat)] w fun e w' => e = .returned (.tuple #[.int .u64 (getN M p n : Nat), .int .i64 0]) ∧ New w w' :=
  Num_ok ((Mem.nil w).old hr) ⟨Mem.z, hl, hp, hm8, hg⟩ p n h0 h1 h
set_option maxRecDepth 100000 in
set_option maxHeartbeats 4000000 in
theorem get_M {w0 w : World} {L : List (Nat × Array Value)} {R : List (Nat × Value × List Value)} {bF mb mo mn mc p : Nat} {M : List Nat} (hv : Mem w0 w ((bF, #[(.slice (some ⟨mb, mo, none⟩) mn mc), .int .i64 (p : Nat)]) :: L) R) (hm : InM R mb mo mn mc M) (k : Nat) (h0 : 0 < k) (h1 : k ≤ 8) (h : p + k ≤ mn) : Calls Try.prog 62 #[.pointer (some ⟨bF, 0, none⟩), .int .i64 (k : Nat)] w fun e w' => e = .returned (.int .u64 (getN M p k : Nat)) ∧ Mem w0 w' ((bF, #[(.slice (some ⟨mb, mo, none⟩) mn mc), .int .i64 ((p + k) : Nat)]) :: L) R := by
  have HPM := Lib.hid (Any.rd_start (hv.keep (List.sublist_append_left [(bF, #[(.slice (some ⟨mb, mo, none⟩) mn mc), .int .i64 (p : Nat)])] L)) hm.rd)
  obtain ⟨x, hx⟩ : ∃ x, getN M p k = x := ⟨_, rfl⟩
  have HKN : Hid (∀ w1, Rd w1 1 (.slice (some ⟨mb, mo, none⟩) mn mc) (cellsB M) → Calls Try.prog 74 #[(.agg #[(.slice (some ⟨mb, mo, none⟩) mn mc)]), .int .i64 (p : Nat), .int .i64 (k : Nat)] w1 fun e w' => e = .returned (.tuple #[.int .u64 (x : Nat), .int .i64 0]) ∧ New w1 w') := Lib.hid (fun w1 hr => by
    have := Num_w hm.len hm.pos hm.most hm.good p k h0 h1 h w1 hr
    rw [hx] at this; exact this)
  rw [hx]
  have hb : (p : Int) + (k : Int) ≤ 8192 := by have := hm.most; omega
  have q1 : IntKind.i64.wrap ((p : Int) + (k : Int)) = (p : Int) + (k : Int) := IntWalk.i64_in _ (by omega)
  clear hx hm h0 h1 h
  go_enter Try.func62, Try.ntmps62
  go_wp2
  have hv0 := hv
  clear hv
  have hv : Mem w0 _ ([(bF, #[(.slice (some ⟨mb, mo, none⟩) mn mc), .int .i64 (p : Nat)])] ++ L) _ := hv0
  clear hv0
  refine Any.wp_region_walk [⟨[], none⟩, ⟨[], none⟩, ⟨[], none⟩, ⟨[1000], none⟩, ⟨[], none⟩, ⟨[], none⟩, ⟨[], none⟩, ⟨[1000], none⟩, ⟨[], none⟩, ⟨[], none⟩, ⟨[], none⟩, ⟨[], none⟩, ⟨[], none⟩, ⟨[], none⟩, ⟨[], none⟩] [.val, .val, .val, .val, .val, .val, .val, .val, .val, .val, .val, .val, .val, .val, .val] (by kernel_rfl) (by kernel_rfl) (hv.vars.keep (List.sublist_append_left [(bF, #[(.slice (some ⟨mb, mo, none⟩) mn mc), .int .i64 (p : Nat)])] L)) ?_
  simp only [List.length_cons, List.length_nil, Nat.zero_add, Any.someVals]
  iterate 15 apply Exists.intro
  repeat (first
    | (refine Any.E_off rfl ?_; simp only [Act.put, List.setIfInBounds_toArray, List.set_cons_succ, List.set_cons_zero])
    | (apply Any.E_pureq rfl rfl rfl
       case h => intro K hK; go_big_quiet_op; (refine hK _ ?_; rfl)
       case hr => exact fun _ => rfl
       simp only [Act.put, List.setIfInBounds_toArray, List.set_cons_succ, List.set_cons_zero])
    | (apply Any.E_val rfl rfl rfl rfl
       case h =>
         intro E' hA K hK
         first
           | ((with_reducible refine Any.at_qload (T := 25) ?_); refine Any.q_ldp 1000 hA (by decide) rfl rfl 1 _ Try.underlying25 rfl infoM (by decide) (show 0 + 1 ≤ 2 from by decide) #[(.slice (some ⟨mb, mo, none⟩) mn mc)] rfl ?_; refine hK _ ?_; rfl)
           | ((with_reducible refine Any.at_qload (T := 3) ?_); refine Any.q_ldc 1000 hA (by decide) rfl rfl _ Try.underlying3 rfl (.int .i64 (p : Nat)) rfl ?_; refine hK _ ?_; rfl)
           | (go_big_quiet_op; first
             | (refine hK _ ?_; rfl)
             | (refine ⟨_, fun _ _ => rfl, ?_⟩; refine hK _ ?_; rfl)
             | (apply Exists.intro; refine ⟨fun w1 hw1 => ?_, ?_⟩; · (first
                 | (go_at_call 74; exact Any.calls_VE (HKN.out _ (hw1.rdold HPM.out.1 HPM.out.2)) hw1))
                refine hK _ ?_; rfl))
       case hD => rfl
       simp only [Act.put, List.setIfInBounds_toArray, List.set_cons_succ, List.set_cons_zero])
    | ((with_reducible refine Any.at_ealloc ?_); refine Any.E_lay rfl rfl rfl (fun _ => rfl) ?_; intro B; simp only [Act.put, List.setIfInBounds_toArray, List.set_cons_succ, List.set_cons_zero]))
  try any_goals exact undef
  refine Any.E_nil ?_
  intro w9 hE9
  replace hv : Mem w0 w9 ([(bF, #[(.slice (some ⟨mb, mo, none⟩) mn mc), .int .i64 (p : Nat)])] ++ L) _ := hE9.memr hv [1000] (by decide)
  clear hE9
  simp only [List.cons_append, List.nil_append] at hv
  go_wp2_with (first
    | ((with_reducible refine at_load (T := 3) ?_); refine wl_ldc rfl bF 1 rfl _ (hv.vars.row (by first | exact .head _ | exact .tail _ (.head _) | exact .tail _ (.tail _ (.head _)) | exact .tail _ (.tail _ (.tail _ (.head _))) | exact .tail _ (.tail _ (.tail _ (.tail _ (.head _)))) | exact .tail _ (.tail _ (.tail _ (.tail _ (.tail _ (.head _))))) | exact .tail _ (.tail _ (.tail _ (.tail _ (.tail _ (.tail _ (.head _)))))) | exact .tail _ (.tail _ (.tail _ (.tail _ (.tail _ (.tail _ (.tail _ (.head _))))))))) _ Try.underlying3 rfl (.int .i64 (p : Nat)) rfl ?_)
    | ((with_reducible refine at_store (T := 3) ?_); refine wl_stc rfl bF 1 rfl (.int .i64 ((p : Int) + (k : Int))) rfl _ (hv.vars.row (by first | exact .head _ | exact .tail _ (.head _) | exact .tail _ (.tail _ (.head _)) | exact .tail _ (.tail _ (.tail _ (.head _))) | exact .tail _ (.tail _ (.tail _ (.tail _ (.head _)))) | exact .tail _ (.tail _ (.tail _ (.tail _ (.tail _ (.head _))))) | exact .tail _ (.tail _ (.tail _ (.tail _ (.tail _ (.tail _ (.head _)))))) | exact .tail _ (.tail _ (.tail _ (.tail _ (.tail _ (.tail _ (.tail _ (.head _))))))))) (hv.vars.sft (by first | exact .head _ | exact .tail _ (.head _) | exact .tail _ (.tail _ (.head _)) | exact .tail _ (.tail _ (.tail _ (.head _))) | exact .tail _ (.tail _ (.tail _ (.tail _ (.head _)))) | exact .tail _ (.tail _ (.tail _ (.tail _ (.tail _ (.head _))))) | exact .tail _ (.tail _ (.tail _ (.tail _ (.tail _ (.tail _ (.head _)))))) | exact .tail _ (.tail _ (.tail _ (.tail _ (.tail _ (.tail _ (.tail _ (.head _))))))))) (by kernel_rfl) rfl (by show 1 < 2; decide) ?_; intro w2 hw2; (first | (replace hv := hv.set 0 rfl hw2) | (replace hv := hv.set 1 rfl hw2) | (replace hv := hv.set 2 rfl hw2) | (replace hv := hv.set 3 rfl hw2)); clear hw2; simp only [List.set] at hv))
  go_ret
  exact ⟨rfl, hv⟩
theorem splice_two (a b v : Value) : splice #[a, b] 0 #[v] = #[v, b] := by simp [splice]
set_option maxRecDepth 100000 in
set_option maxHeartbeats 4000000 in
theorem put_gen {w0 w : World} {L : List (Nat × Array Value)} {R : List (Nat × Value × List Value)} {bF mb mo mn mc p : Nat} {M : List Nat} (hv : Mem w0 w ((bF, #[(.slice (some ⟨mb, mo, none⟩) mn mc), .int .i64 (p : Nat)]) :: L) R) (hm : InM R mb mo mn mc M) (n k : Nat) (h0 : 0 < k) (h1 : k ≤ 8) (h : p + k ≤ mn) (hle : ∀ w, Calls Try.prog 89 #[.int .u64 (n : Nat), .int .i64 (k : Nat)] w fun e w' => ∃ v x, e = .returned v ∧ AppRow v 1 (cellsB (leB n k)) x ∧ New w w' ∧ w.heap.size ≤ x.1 ∧ w'.rowD x.1 = x.2 ∧ w'.soft x.1 = true) : Calls Try.prog 58 #[.pointer (some ⟨bF, 0, none⟩), .int .i64 (k : Nat), .int .u64 (n : Nat)] w fun e w' => e = .returned (.tuple #[]) ∧ ∃ b c R', Mem w0 w' ((bF, #[.slice (some ⟨b, 0, none⟩) mn c, .int .i64 ((p + k : Nat) : Int)]) :: L) R' ∧ InM R' b 0 mn c (putB M p (leB n k)) ∧ ∀ x ∈ R, x ∈ R' := by
  have HM := Lib.hid hm
  have HPM := Lib.hid (Any.rd_start (hv.keep (List.sublist_append_left [(bF, #[(.slice (some ⟨mb, mo, none⟩) mn mc), .int .i64 (p : Nat)])] L)) hm.rd)
  have hlen : (putB M p (leB n k)).length = mn := by rw [putB_len (by rw [leB_len, hm.len]; exact h)]; exact hm.len
  have HWS : Hid (∃ v x, PutW mn (putB M p (leB n k)) v x) := Lib.hid (by
    obtain ⟨v, x, hr⟩ := Any.AppRow.some (k := 1) (c := cellsB (putB M p (leB n k))) (n := mn) (by rw [cellsB_len, hlen, Nat.mul_one]) (by have := hm.most; unfold maxLen; omega)
    have hq := hr
    obtain ⟨n', c, e, g, _⟩ := hq
    rw [cellsB_len, hlen, Nat.mul_one] at g
    subst e
    subst g
    exact ⟨_, x, c, rfl, hr⟩)
  have HPN : Hid (∀ w1, Rd w1 1 (.slice (some ⟨mb, mo, none⟩) mn mc) (cellsB M) → Calls Try.prog 72 #[(.agg #[(.slice (some ⟨mb, mo, none⟩) mn mc)]), .int .i64 (p : Nat), .int .i64 (k : Nat), .int .u64 (n : Nat)] w1 fun e w' => ∃ v x, e = .returned v ∧ PutW mn (putB M p (leB n k)) v x ∧ New w1 w' ∧ w1.heap.size ≤ x.1 ∧ w'.rowD x.1 = x.2 ∧ w'.soft x.1 = true) := Lib.hid (fun w1 hr => by
    refine (PutNum_row ((Mem.nil w1).old hr) ⟨Mem.z, hm.len, hm.pos, hm.most, hm.good⟩ p n k h0 h1 h hle).mono ?_
    rintro e w' ⟨b, c, rfl, z, hrow, hv1⟩
    have hx := hv1.vars.rows (b, z) (List.mem_cons_self ..)
    exact ⟨_, (b, z), rfl, ⟨c, rfl, hrow⟩, hv1.below, hx.2.2, hx.1, hx.2.1⟩)
  have HG : Hid (goodB (putB M p (leB n k))) := Lib.hid (putB_good hm.good (leB_good n k))
  have HLEN := Lib.hid hlen
  have hb : (p : Int) + (k : Int) ≤ 8192 := by have := hm.most; omega
  have q1 : IntKind.i64.wrap ((p : Int) + (k : Int)) = (p : Int) + (k : Int) := IntWalk.i64_in _ (by omega)
  clear hm h0 h1 h hle hlen
  go_enter Try.func58, Try.ntmps58
  go_wp2
  have hv0 := hv
  clear hv
  have hv : Mem w0 _ ([(bF, #[(.slice (some ⟨mb, mo, none⟩) mn mc), .int .i64 (p : Nat)])] ++ L) _ := hv0
  clear hv0
  refine Any.wp_region_walk [⟨[], none⟩, ⟨[], none⟩, ⟨[], none⟩, ⟨[], none⟩, ⟨[1000], none⟩, ⟨[], none⟩, ⟨[], none⟩, ⟨[], none⟩, ⟨[1000], none⟩, ⟨[], none⟩, ⟨[], none⟩, ⟨[], some 9⟩, ⟨[], none⟩, ⟨[], none⟩, ⟨[], none⟩, ⟨[], none⟩, ⟨[], none⟩, ⟨[1000], some 1000⟩] [.val, .val, .val, .val, .val, .val, .val, .val, .val, .val, .val, .own (PutW mn (putB M p (leB n k))), .pure, .pure, .pure, .val, .val, .put] (by kernel_rfl) (by kernel_rfl) (hv.vars.keep (List.sublist_append_left [(bF, #[(.slice (some ⟨mb, mo, none⟩) mn mc), .int .i64 (p : Nat)])] L)) ?_
  simp only [List.length_cons, List.length_nil, Nat.zero_add, Any.someVals]
  iterate 18 apply Exists.intro
  repeat (first
    | (refine Any.E_off rfl ?_; simp only [Act.put, List.setIfInBounds_toArray, List.set_cons_succ, List.set_cons_zero])
    | (apply Any.E_pureq rfl rfl rfl
       case h => intro K hK; go_big_quiet_op; (refine hK _ ?_; rfl)
       case hr => exact fun _ => rfl
       simp only [Act.put, List.setIfInBounds_toArray, List.set_cons_succ, List.set_cons_zero])
    | (apply Any.E_val rfl rfl rfl rfl
       case h =>
         intro E' hA K hK
         first
           | ((with_reducible refine Any.at_qload (T := 25) ?_); refine Any.q_ldp 1000 hA (by decide) rfl rfl 1 _ Try.underlying25 rfl infoM (by decide) (show 0 + 1 ≤ 2 from by decide) #[(.slice (some ⟨mb, mo, none⟩) mn mc)] rfl ?_; refine hK _ ?_; rfl)
           | ((with_reducible refine Any.at_qload (T := 3) ?_); refine Any.q_ldc 1000 hA (by decide) rfl rfl _ Try.underlying3 rfl (.int .i64 (p : Nat)) rfl ?_; refine hK _ ?_; rfl)
           | (go_big_quiet_op; first
             | (refine hK _ ?_; rfl)
             | (refine ⟨_, fun _ _ => rfl, ?_⟩; refine hK _ ?_; rfl)
             | (apply Exists.intro; refine ⟨fun w1 hw1 => ?_, ?_⟩; · (first
                 | fail)
                refine hK _ ?_; rfl))
       case hD => rfl
       simp only [Act.put, List.setIfInBounds_toArray, List.set_cons_succ, List.set_cons_zero])
    | ((with_reducible refine Any.at_ealloc ?_); refine Any.E_lay rfl rfl rfl (fun _ => rfl) ?_; intro B; simp only [Act.put, List.setIfInBounds_toArray, List.set_cons_succ, List.set_cons_zero])
    | ((with_reducible refine Any.at_ecall ?_); refine Any.E_callown (W := PutW mn (putB M p (leB n k))) rfl rfl rfl (Go.Proofs.enters_of Try.func72 (by kernel_rfl) rfl) rfl [(.agg #[(.slice (some ⟨mb, mo, none⟩) mn mc)]), .int .i64 (p : Nat), .int .i64 (k : Nat), .int .u64 (n : Nat)] rfl HWS.out (fun E' w1 hw1 => HPN.out w1 (hw1.rdold HPM.out.1 HPM.out.2)) ?_; intro v9 x9 hW9; obtain ⟨vc, rfl, hrow⟩ := hW9; replace hrow := Lib.hid hrow; simp only [Act.put, List.setIfInBounds_toArray, List.set_cons_succ, List.set_cons_zero])
    | ((with_reducible refine Any.at_estore (T := 25) ?_); refine Any.E_putp rfl rfl rfl rfl rfl rfl 1 infoM rfl (by show 0 + 1 ≤ 2; decide) (by simp [Value.oneCell']) (c' := #[(.slice (some ⟨x9.1, 0, none⟩) mn vc), .int .i64 (p : Nat)]) (splice_two _ _ _) ?_; simp only [Act.put, List.setIfInBounds_toArray, List.set_cons_succ, List.set_cons_zero]))
  try any_goals exact undef
  refine Any.E_nil ?_
  intro w9 hE9
  replace hv : Mem w0 w9 ([(bF, #[(.slice (some ⟨x9.1, 0, none⟩) mn vc), .int .i64 (p : Nat)]), x9] ++ L) _ := hE9.memr hv [1000, 9] (by decide)
  clear hE9
  simp only [List.cons_append, List.nil_append] at hv
  go_wp2_with (first
    | ((with_reducible refine at_load (T := 3) ?_); refine wl_ldc rfl bF 1 rfl _ (hv.vars.row (by first | exact .head _ | exact .tail _ (.head _) | exact .tail _ (.tail _ (.head _)) | exact .tail _ (.tail _ (.tail _ (.head _))) | exact .tail _ (.tail _ (.tail _ (.tail _ (.head _)))) | exact .tail _ (.tail _ (.tail _ (.tail _ (.tail _ (.head _))))) | exact .tail _ (.tail _ (.tail _ (.tail _ (.tail _ (.tail _ (.head _)))))) | exact .tail _ (.tail _ (.tail _ (.tail _ (.tail _ (.tail _ (.tail _ (.head _))))))))) _ Try.underlying3 rfl (.int .i64 (p : Nat)) rfl ?_)
    | ((with_reducible refine at_store (T := 3) ?_); refine wl_stc rfl bF 1 rfl (.int .i64 ((p : Int) + (k : Int))) rfl _ (hv.vars.row (by first | exact .head _ | exact .tail _ (.head _) | exact .tail _ (.tail _ (.head _)) | exact .tail _ (.tail _ (.tail _ (.head _))) | exact .tail _ (.tail _ (.tail _ (.tail _ (.head _)))) | exact .tail _ (.tail _ (.tail _ (.tail _ (.tail _ (.head _))))) | exact .tail _ (.tail _ (.tail _ (.tail _ (.tail _ (.tail _ (.head _)))))) | exact .tail _ (.tail _ (.tail _ (.tail _ (.tail _ (.tail _ (.tail _ (.head _))))))))) (hv.vars.sft (by first | exact .head _ | exact .tail _ (.head _) | exact .tail _ (.tail _ (.head _)) | exact .tail _ (.tail _ (.tail _ (.head _))) | exact .tail _ (.tail _ (.tail _ (.tail _ (.head _)))) | exact .tail _ (.tail _ (.tail _ (.tail _ (.tail _ (.head _))))) | exact .tail _ (.tail _ (.tail _ (.tail _ (.tail _ (.tail _ (.head _)))))) | exact .tail _ (.tail _ (.tail _ (.tail _ (.tail _ (.tail _ (.tail _ (.head _))))))))) (by kernel_rfl) rfl (by show 1 < 2; decide) ?_; intro w2 hw2; (first | (replace hv := hv.set 0 rfl hw2) | (replace hv := hv.set 1 rfl hw2) | (replace hv := hv.set 2 rfl hw2) | (replace hv := hv.set 3 rfl hw2)); clear hw2; simp only [List.set] at hv))
  go_end0
  have hv2 := Mem.yield (L1 := []) (L2 := (bF, #[(.slice (some ⟨x9.1, 0, none⟩) mn vc), .int .i64 ((p + k) : Nat)]) :: L) (hv.perm (List.Perm.swap x9 _ L)) hrow.out
  simp only [List.nil_append] at hv2
  exact ⟨rfl, x9.1, vc, _, hv2, ⟨Mem.z, HLEN.out, HM.out.pos, HM.out.most, HG.out⟩, fun x hx => Mem.s hx⟩
theorem get_2 {w0 w : World} {L : List (Nat × Array Value)} {R : List (Nat × Value × List Value)} {bF mb mo mn mc p : Nat} {M : List Nat} (hv : Mem w0 w ((bF, #[(.slice (some ⟨mb, mo, none⟩) mn mc), .int .i64 (p : Nat)]) :: L) R) (hm : InM R mb mo mn mc M) (h : p + 2 ≤ mn) : Calls Try.prog 62 #[.pointer (some ⟨bF, 0, none⟩), .int .i64 2] w fun e w' => e = .returned (.int .u64 (getN M p 2 : Nat)) ∧ Mem w0 w' ((bF, #[(.slice (some ⟨mb, mo, none⟩) mn mc), .int .i64 ((p + 2) : Nat)]) :: L) R := get_M hv hm 2 (by decide) (by decide) h
theorem put_2 {w0 w : World} {L : List (Nat × Array Value)} {R : List (Nat × Value × List Value)} {bF mb mo mn mc p : Nat} {M : List Nat} (hv : Mem w0 w ((bF, #[(.slice (some ⟨mb, mo, none⟩) mn mc), .int .i64 (p : Nat)]) :: L) R) (hm : InM R mb mo mn mc M) (n : Nat) (hn : n < 18446744073709551616) (h : p + 2 ≤ mn) : Calls Try.prog 58 #[.pointer (some ⟨bF, 0, none⟩), .int .i64 2, .int .u64 (n : Nat)] w fun e w' => e = .returned (.tuple #[]) ∧ ∃ b c R', Mem w0 w' ((bF, #[.slice (some ⟨b, 0, none⟩) mn c, .int .i64 ((p + 2 : Nat) : Int)]) :: L) R' ∧ InM R' b 0 mn c (putB M p (leB n 2)) ∧ ∀ x ∈ R, x ∈ R' := put_gen hv hm n 2 (by decide) (by decide) h (fun w => LeR_2 n hn w)
theorem get_4 {w0 w : World} {L : List (Nat × Array Value)} {R : List (Nat × Value × List Value)} {bF mb mo mn mc p : Nat} {M : List Nat} (hv : Mem w0 w ((bF, #[(.slice (some ⟨mb, mo, none⟩) mn mc), .int .i64 (p : Nat)]) :: L) R) (hm : InM R mb mo mn mc M) (h : p + 4 ≤ mn) : Calls Try.prog 62 #[.pointer (some ⟨bF, 0, none⟩), .int .i64 4] w fun e w' => e = .returned (.int .u64 (getN M p 4 : Nat)) ∧ Mem w0 w' ((bF, #[(.slice (some ⟨mb, mo, none⟩) mn mc), .int .i64 ((p + 4) : Nat)]) :: L) R := get_M hv hm 4 (by decide) (by decide) h
theorem put_4 {w0 w : World} {L : List (Nat × Array Value)} {R : List (Nat × Value × List Value)} {bF mb mo mn mc p : Nat} {M : List Nat} (hv : Mem w0 w ((bF, #[(.slice (some ⟨mb, mo, none⟩) mn mc), .int .i64 (p : Nat)]) :: L) R) (hm : InM R mb mo mn mc M) (n : Nat) (hn : n < 18446744073709551616) (h : p + 4 ≤ mn) : Calls Try.prog 58 #[.pointer (some ⟨bF, 0, none⟩), .int .i64 4, .int .u64 (n : Nat)] w fun e w' => e = .returned (.tuple #[]) ∧ ∃ b c R', Mem w0 w' ((bF, #[.slice (some ⟨b, 0, none⟩) mn c, .int .i64 ((p + 4 : Nat) : Int)]) :: L) R' ∧ InM R' b 0 mn c (putB M p (leB n 4)) ∧ ∀ x ∈ R, x ∈ R' := put_gen hv hm n 4 (by decide) (by decide) h (fun w => LeR_4 n hn w)
theorem get_8 {w0 w : World} {L : List (Nat × Array Value)} {R : List (Nat × Value × List Value)} {bF mb mo mn mc p : Nat} {M : List Nat} (hv : Mem w0 w ((bF, #[(.slice (some ⟨mb, mo, none⟩) mn mc), .int .i64 (p : Nat)]) :: L) R) (hm : InM R mb mo mn mc M) (h : p + 8 ≤ mn) : Calls Try.prog 62 #[.pointer (some ⟨bF, 0, none⟩), .int .i64 8] w fun e w' => e = .returned (.int .u64 (getN M p 8 : Nat)) ∧ Mem w0 w' ((bF, #[(.slice (some ⟨mb, mo, none⟩) mn mc), .int .i64 ((p + 8) : Nat)]) :: L) R := get_M hv hm 8 (by decide) (by decide) h
theorem put_8 {w0 w : World} {L : List (Nat × Array Value)} {R : List (Nat × Value × List Value)} {bF mb mo mn mc p : Nat} {M : List Nat} (hv : Mem w0 w ((bF, #[(.slice (some ⟨mb, mo, none⟩) mn mc), .int .i64 (p : Nat)]) :: L) R) (hm : InM R mb mo mn mc M) (n : Nat) (hn : n < 18446744073709551616) (h : p + 8 ≤ mn) : Calls Try.prog 58 #[.pointer (some ⟨bF, 0, none⟩), .int .i64 8, .int .u64 (n : Nat)] w fun e w' => e = .returned (.tuple #[]) ∧ ∃ b c R', Mem w0 w' ((bF, #[.slice (some ⟨b, 0, none⟩) mn c, .int .i64 ((p + 8 : Nat) : Int)]) :: L) R' ∧ InM R' b 0 mn c (putB M p (leB n 8)) ∧ ∀ x ∈ R, x ∈ R' := put_gen hv hm n 8 (by decide) (by decide) h (fun w => LeR_8 n hn w)
theorem built_fld (mb mo mn mc p : Nat) : Try.prog.built 121 [(0, (.agg #[(.slice (some ⟨mb, mo, none⟩) mn mc)])), (1, .int .i64 (p : Nat))] = some #[(.slice (some ⟨mb, mo, none⟩) mn mc), .int .i64 (p : Nat)] := by kernel_rfl
set_option maxRecDepth 100000 in
set_option maxHeartbeats 4000000 in
theorem reading_M {w0 w : World} {L : List (Nat × Array Value)} {R : List (Nat × Value × List Value)} {mb mo mn mc : Nat} {M : List Nat} (hv : Mem w0 w L R) (hm : InM R mb mo mn mc M) (base n p : Nat) (hn : okN n) (hb : base + sizeN n ≤ mn) (hp : base + p ≤ 100000) {f : FuncId} {cap : Array Value} (hE : Enters Try.prog f) {Post : World → Prop}
    (hdo : ∀ bF w1, Mem w0 w1 ((bF, #[(.slice (some ⟨mb, mo, none⟩) mn mc), .int .i64 ((base + p) : Nat)]) :: L) R → Calls Try.prog f (#[.pointer (some ⟨bF, 0, none⟩)] ++ cap) w1 fun e w' => e = .returned (.tuple #[]) ∧ Post w') :
    Calls Try.prog 54 #[(.agg #[(.slice (some ⟨mb, mo, none⟩) mn mc)]), .int .i64 (base : Nat), .int .i64 (n : Nat), .int .i64 (p : Nat), .func (.func f) #[] cap] w fun e w' => e = .returned (.int .i64 0) ∧ Post w' := by
  have HE := Lib.hid hE
  have HDO := Lib.hid hdo
  have HN := Lib.hid hn
  have HB := Lib.hid hb
  have HM8 : Hid (mn ≤ 8192) := Lib.hid hm.most
  have q1 : IntKind.i64.wrap ((base : Int) + (p : Int)) = ((base + p : Nat) : Int) := by rw [IntWalk.i64_in _ (by omega)]; omega
  clear hE hdo hn hb hm hp
  go_enter Try.func54, Try.ntmps54
  go_wp2_with (first
    | ((with_reducible refine at_box (T := 25) (dst := some 5) ?_); refine wl_newb rfl #[(.slice (some ⟨mb, mo, none⟩) mn mc)] 25 (fun _ => rfl) ?_; intro b5 w2 hm2; replace hv := hv.madeAt hm2; clear hm2)
    | ((with_reducible refine at_load (T := 25) ?_); refine wl_ldv rfl b5 rfl _ (hv.vars.row (by first | exact .head _ | exact .tail _ (.head _) | exact .tail _ (.tail _ (.head _)) | exact .tail _ (.tail _ (.tail _ (.head _))) | exact .tail _ (.tail _ (.tail _ (.tail _ (.head _)))) | exact .tail _ (.tail _ (.tail _ (.tail _ (.tail _ (.head _))))) | exact .tail _ (.tail _ (.tail _ (.tail _ (.tail _ (.tail _ (.head _)))))) | exact .tail _ (.tail _ (.tail _ (.tail _ (.tail _ (.tail _ (.tail _ (.head _))))))))) 1 _ Try.underlying25 rfl infoM (by decide) rfl ?_)
    | (go_at_call 22; (with_reducible refine (RingCheck_ok _ _ _ _ _ _ HN.out HB.out HM8.out _).mono ?_); rintro e w1 ⟨rfl, hn1⟩; replace hv := hv.new hn1; clear hn1)
    | ((with_reducible refine at_build ?_); refine wl_build rfl [(0, (.agg #[(.slice (some ⟨mb, mo, none⟩) mn mc)])), (1, .int .i64 ((base + p : Nat) : Int))] rfl (built_fld _ _ _ _ _) ?_)
    | ((with_reducible refine at_box (T := 121) (dst := some 22) ?_); refine wl_newb rfl #[(.slice (some ⟨mb, mo, none⟩) mn mc), .int .i64 ((base + p : Nat) : Int)] 121 (fun _ => rfl) ?_; intro bF w2 hm2; replace hv := hv.madeAt hm2; clear hm2)
    | ((with_reducible refine at_call ?_); refine wl_callv rfl HE.out rfl [.pointer (some ⟨bF, 0, none⟩)] rfl (HDO.out bF _ (hv.swap.drop)) ?_; rintro e w1 ⟨rfl, hpost⟩; refine ⟨_, rfl, ?_⟩; replace hpost := Lib.hid hpost; clear hv))
  go_ret
  exact ⟨rfl, hpost.out⟩
end Go.Proofs.Ytcelehhaggoijaa
