/-
  Machine memory: numbers are got and put.
-/
import Derived.Test.YtcelehhaggoijaaQuMem
import Derived.Test.YtcelehhaggoijaaAnyC
set_option linter.unusedVariables false
set_option linter.unusedSimpArgs false
namespace Go.Proofs.Qu
open Go Go.RowKit Go.Proofs.Nm
/-- The number that stands there. -/
def getN (M : List Nat) (p n : Nat) : Nat := fromB (getB M p n)
theorem getN_lt {M : List Nat} (h : goodB M) (p n : Nat) : getN M p n < 18446744073709551616 := by
  have := fromTo_lt (getB_good (p := p) (n := n) h) (min 8 (getB M p n).length)
  exact Nat.lt_of_lt_of_le this (pow256 (by omega))
end Go.Proofs.Qu
namespace Go.Proofs.Ytcelehhaggoijaa
open Go.Proofs.Qu Go.Proofs.Nm Go.RowKit Go.Proofs
set_option maxRecDepth 100000 in
set_option maxHeartbeats 4000000 in
theorem Num_ok {w0 w : World} {L : List (Nat × Array Value)} {R : List (Nat × Value × List Value)} {mb mo mn mc : Nat} {M : List Nat} (hv : Mem w0 w L R) (hm : InM R mb mo mn mc M) (p n : Nat) (h0 : 0 < n) (h1 : n ≤ 8) (h : p + n ≤ mn) : Calls Try.prog 74 #[(.agg #[(.slice (some ⟨mb, mo, none⟩) mn mc)]), .int .i64 (p : Nat), .int .i64 (n : Nat)] w fun e w' => e = .returned (.tuple #[.int .u64 (getN M p n : Nat), .int .i64 0]) ∧ New w w' := by
  have hv0 := hv
  clear hv
  have hv : Mem w w [] R := ⟨Vars.nil w, fun x hx => ⟨(hv0.rds x hx).1, fun _ _ _ _ _ _ p hp => (List.not_mem_nil hp).elim⟩⟩
  have HM := Lib.hid hm
  have HH := Lib.hid h
  have HN0 := Lib.hid h0
  have HN8 := Lib.hid h1
  have HG : Hid (goodB (getB M p n)) := Lib.hid (getB_good hm.good)
  have HM8 : Hid (mn ≤ 8192) := Lib.hid hm.most
  clear hm h h0 h1 hv0
  go_enter Try.func74, Try.ntmps74
  go_wp2_with (first
    | ((with_reducible refine at_box (T := 25) (dst := some 3) ?_); refine wl_newb rfl #[(.slice (some ⟨mb, mo, none⟩) mn mc)] 25 (fun _ => rfl) ?_; intro b3 w2 hm2; replace hv := hv.madeAt hm2; clear hm2)
    | ((with_reducible refine at_load (T := 25) ?_); refine wl_ldv rfl b3 rfl _ (hv.vars.row (by first | exact .head _ | exact .tail _ (.head _) | exact .tail _ (.tail _ (.head _)) | exact .tail _ (.tail _ (.tail _ (.head _))) | exact .tail _ (.tail _ (.tail _ (.tail _ (.head _)))) | exact .tail _ (.tail _ (.tail _ (.tail _ (.tail _ (.head _))))) | exact .tail _ (.tail _ (.tail _ (.tail _ (.tail _ (.tail _ (.head _)))))) | exact .tail _ (.tail _ (.tail _ (.tail _ (.tail _ (.tail _ (.tail _ (.head _))))))))) 1 _ Try.underlying25 rfl infoM (by decide) rfl ?_)
    | (go_at_call 88; (with_reducible refine (sized_ok _ _ _ _ _ HN0.out HN8.out HM8.out _).mono ?_); rintro e w1 ⟨rfl, hn1⟩; replace hv := hv.new hn1; clear hn1)
    | (go_at_call 12; (with_reducible refine (Get_ok hv HM.out p n HN0.out HH.out).mono ?_); rintro e w1 ⟨vb, vc, R1, rfl, hv1, hd1, hs1⟩; replace hv := hv1; have HD := Lib.hid hd1; clear hv1 hd1 hs1)
    | (go_at_call 90; (with_reducible refine (FromLe_any _ _ _ (hv.rd HD.out) HG.out).mono ?_); rintro e w1 ⟨rfl, rfl⟩))
  go_ret2
  exact ⟨rfl, hv.below⟩
set_option maxRecDepth 100000 in
set_option maxHeartbeats 4000000 in
theorem PutNum_row {w0 w : World} {L : List (Nat × Array Value)} {R : List (Nat × Value × List Value)} {mb mo mn mc : Nat} {M : List Nat} (hv : Mem w0 w L R) (hm : InM R mb mo mn mc M) (p n k : Nat) (h0 : 0 < k) (h1 : k ≤ 8) (h : p + k ≤ mn) (hle : ∀ w, Calls Try.prog 89 #[.int .u64 (n : Nat), .int .i64 (k : Nat)] w fun e w' => ∃ v x, e = .returned v ∧ AppRow v 1 (cellsB (leB n k)) x ∧ New w w' ∧ w.heap.size ≤ x.1 ∧ w'.rowD x.1 = x.2 ∧ w'.soft x.1 = true) :
    Calls Try.prog 72 #[(.agg #[(.slice (some ⟨mb, mo, none⟩) mn mc)]), .int .i64 (p : Nat), .int .i64 (k : Nat), .int .u64 (n : Nat)] w fun e w' => ∃ b c, e = .returned (.tuple #[.agg #[.slice (some ⟨b, 0, none⟩) mn c], .int .i64 0]) ∧ ∃ z, AppRow (.slice (some ⟨b, 0, none⟩) mn c) 1 (cellsB (putB M p (leB n k))) (b, z) ∧ Mem w0 w' ((b, z) :: L) R := by
  have HM := Lib.hid hm
  have HH := Lib.hid h
  have HK0 := Lib.hid h0
  have HK8 := Lib.hid h1
  have HLE := Lib.hid hle
  have HM8 : Hid (mn ≤ 8192) := Lib.hid hm.most
  have HWS : Hid (∃ v x, AppRow v 1 (cellsB (leB n k)) x) := Lib.hid (Any.AppRow.some (n := k) (by rw [cellsB_len, leB_len, Nat.mul_one]) (by unfold maxLen; omega))
  clear hm h h0 h1 hle
  go_enter Try.func72, Try.ntmps72
  go_wp2_with (first
    | ((with_reducible refine at_box (T := 25) (dst := some 4) ?_); refine wl_newb rfl #[(.slice (some ⟨mb, mo, none⟩) mn mc)] 25 (fun _ => rfl) ?_; intro b4 w2 hm2; replace hv := hv.madeAt hm2; clear hm2)
    | ((with_reducible refine at_alloc (T := 25) (dst := some 8) ?_); refine wl_newb rfl #[.slice none 0 0] 25 (fun _ => rfl) ?_; intro b8 w2 hm2; replace hv := hv.madeAt hm2; clear hm2)
    | ((with_reducible refine at_load (T := 25) ?_); refine wl_ldv rfl b4 rfl _ (hv.vars.row (by first | exact .head _ | exact .tail _ (.head _) | exact .tail _ (.tail _ (.head _)) | exact .tail _ (.tail _ (.tail _ (.head _))) | exact .tail _ (.tail _ (.tail _ (.tail _ (.head _)))) | exact .tail _ (.tail _ (.tail _ (.tail _ (.tail _ (.head _))))) | exact .tail _ (.tail _ (.tail _ (.tail _ (.tail _ (.tail _ (.head _)))))) | exact .tail _ (.tail _ (.tail _ (.tail _ (.tail _ (.tail _ (.tail _ (.head _))))))))) 1 _ Try.underlying25 rfl infoM (by decide) rfl ?_)
    | (go_at_call 88; (with_reducible refine (sized_ok _ _ _ _ _ HK0.out HK8.out HM8.out _).mono ?_); rintro e w1 ⟨rfl, hn1⟩; replace hv := hv.new hn1; clear hn1))
  have hv0 := hv
  clear hv
  have hv : Mem w0 _ ([(b8, #[.slice none 0 0]), (b4, #[(.slice (some ⟨mb, mo, none⟩) mn mc)])] ++ L) _ := hv0
  clear hv0
  refine Any.wp_region_cut 5 [⟨[1001], none⟩, ⟨[], none⟩, ⟨[], none⟩, ⟨[], none⟩, ⟨[], some 9⟩, ⟨[], none⟩, ⟨[], none⟩, ⟨[], none⟩, ⟨[], none⟩, ⟨[], none⟩] [.val, .val, .val, .val, .own (fun v x => AppRow v 1 (cellsB (leB n k)) x)] (by kernel_rfl) (by kernel_rfl) (hv.vars.keep (List.sublist_append_left [(b8, #[.slice none 0 0]), (b4, #[(.slice (some ⟨mb, mo, none⟩) mn mc)])] L)) ?_
  simp only [Any.someVals, List.take_succ_cons, List.take_zero]
  iterate 5 apply Exists.intro
  repeat (first
    | (refine Any.E_off rfl ?_; simp only [Act.put, List.setIfInBounds_toArray, List.set_cons_succ, List.set_cons_zero])
    | (apply Any.E_pureq rfl rfl rfl
       case h => intro K hK; go_big_quiet_op; (refine hK _ ?_; rfl)
       case hr => exact fun _ => rfl
       simp only [Act.put, List.setIfInBounds_toArray, List.set_cons_succ, List.set_cons_zero])
    | (apply Any.E_val rfl rfl rfl rfl
       case h =>
         intro E' hA K hK
         first
           | ((with_reducible refine Any.at_qload (T := 25) ?_); refine Any.q_ldv 1001 hA (by decide) rfl rfl 1 _ Try.underlying25 rfl infoM (by decide) rfl ?_; refine hK _ ?_; rfl)
           | (go_big_quiet_op; first
             | (refine hK _ ?_; rfl)
             | (refine ⟨_, fun _ _ => rfl, ?_⟩; refine hK _ ?_; rfl)
             | (apply Exists.intro; refine ⟨fun w1 hw1 => ?_, ?_⟩; · (first
                 | fail)
                refine hK _ ?_; rfl))
       case hD => rfl
       simp only [Act.put, List.setIfInBounds_toArray, List.set_cons_succ, List.set_cons_zero])
    | ((with_reducible refine Any.at_ealloc ?_); refine Any.E_lay rfl rfl rfl (fun _ => rfl) ?_; intro B; simp only [Act.put, List.setIfInBounds_toArray, List.set_cons_succ, List.set_cons_zero])
    | ((with_reducible refine Any.at_ecall ?_); refine Any.E_callown (W := fun v x => AppRow v 1 (cellsB (leB n k)) x) rfl rfl rfl (Go.Proofs.enters_of Try.func89 (by kernel_rfl) rfl) rfl [.int .u64 (n : Nat), .int .i64 (k : Nat)] rfl HWS.out (fun E' w1 hw1 => HLE.out w1) ?_; intro v9 x9 hW9; have hq9 := hW9; obtain ⟨n9, c9, rfl, g9, g8⟩ := hq9; clear g8; replace g9 := Lib.hid g9; replace hW9 := Lib.hid hW9; simp only [Act.put, List.setIfInBounds_toArray, List.set_cons_succ, List.set_cons_zero])
    | ((with_reducible refine Any.at_estore (T := 25) ?_); refine Any.E_putv (T := 25) rfl rfl rfl rfl rfl rfl 1 infoM rfl rfl (by simp [Value.oneCell']) ?_; simp only [Act.put, List.setIfInBounds_toArray, List.set_cons_succ, List.set_cons_zero]))
  try any_goals exact undef
  refine Any.E_nil ?_
  intro w9 hE9
  replace hv : Mem w0 w9 ([x9, (b8, #[.slice none 0 0]), (b4, #[(.slice (some ⟨mb, mo, none⟩) mn mc)])] ++ L) _ := hE9.memr (L1 := [(b8, #[.slice none 0 0]), (b4, #[(.slice (some ⟨mb, mo, none⟩) mn mc)])]) hv [9, 1000, 1001] (by decide)
  clear hE9
  have hv2 := Mem.yield (L1 := []) hv hW9.out
  replace hv := hv2
  clear hv2
  simp only [List.nil_append] at hv
  have hn9 : n9 = k := by have h9 := g9.out; rw [cellsB_len, leB_len] at h9; omega
  subst hn9
  refine Any.wpOp_callv rfl rfl (Go.Proofs.enters_of Try.func18 (by kernel_rfl) rfl) rfl [(.agg #[(.slice (some ⟨mb, mo, none⟩) mn mc)]), .int .i64 (p : Nat), .slice (some ⟨x9.1, 0, none⟩) n9 c9] rfl ?_
  refine (Put_row hv (HM.out.mono fun x hx => Mem.s hx) p Mem.z (leB_good n n9) HK0.out HH.out).mono ?_
  rintro e w1 ⟨vb, vc, rfl, vz, hrow, hv1⟩
  have hv2 := (hv1.perm (perm3i (vb, vz) _ _ L)).dropR
  replace hv := hv2
  have HROW := Lib.hid hrow
  clear hv1 hv2 hrow
  refine ⟨_, rfl, ?_⟩
  have hv0 := hv
  clear hv
  have hv : Mem w0 _ ([(b8, #[.slice none 0 0]), (b4, #[(.slice (some ⟨mb, mo, none⟩) mn mc)])] ++ ((vb, vz) :: L)) _ := hv0
  clear hv0
  refine Any.wpAny_rest 6 [⟨[], none⟩, ⟨[], none⟩, ⟨[1000], some 1000⟩, ⟨[], none⟩] [.val, .val, .put, .val] (by kernel_rfl) (hv.vars.keep (List.sublist_append_left [(b8, #[.slice none 0 0]), (b4, #[(.slice (some ⟨mb, mo, none⟩) mn mc)])] ((vb, vz) :: L))) ?_
  simp only [List.length_cons, List.length_nil, Nat.zero_add, Nat.reduceAdd, Nat.reduceSub, Any.someVals, List.drop_succ_cons, List.drop_zero]
  simp only [Act.put, List.setIfInBounds_toArray, List.set_cons_succ, List.set_cons_zero]
  iterate 4 apply Exists.intro
  repeat (first
    | (refine Any.E_off rfl ?_; simp only [Act.put, List.setIfInBounds_toArray, List.set_cons_succ, List.set_cons_zero])
    | (apply Any.E_pureq rfl rfl rfl
       case h => intro K hK; go_big_quiet_op; (refine hK _ ?_; rfl)
       case hr => exact fun _ => rfl
       simp only [Act.put, List.setIfInBounds_toArray, List.set_cons_succ, List.set_cons_zero])
    | (apply Any.E_val rfl rfl rfl rfl
       case h =>
         intro E' hA K hK
         first
           | ((with_reducible refine Any.at_qload (T := 25) ?_); refine Any.q_ldv 1001 hA (by decide) rfl rfl 1 _ Try.underlying25 rfl infoM (by decide) rfl ?_; refine hK _ ?_; rfl)
           | (go_big_quiet_op; first
             | (refine hK _ ?_; rfl)
             | (refine ⟨_, fun _ _ => rfl, ?_⟩; refine hK _ ?_; rfl)
             | (apply Exists.intro; refine ⟨fun w1 hw1 => ?_, ?_⟩; · (first
                 | fail)
                refine hK _ ?_; rfl))
       case hD => rfl
       simp only [Act.put, List.setIfInBounds_toArray, List.set_cons_succ, List.set_cons_zero])
    | ((with_reducible refine Any.at_ealloc ?_); refine Any.E_lay rfl rfl rfl (fun _ => rfl) ?_; intro B; simp only [Act.put, List.setIfInBounds_toArray, List.set_cons_succ, List.set_cons_zero])
    | ((with_reducible refine Any.at_ecall ?_); refine Any.E_callown (W := fun v x => AppRow v 1 (cellsB (leB n k)) x) rfl rfl rfl (Go.Proofs.enters_of Try.func89 (by kernel_rfl) rfl) rfl [.int .u64 (n : Nat), .int .i64 (k : Nat)] rfl HWS.out (fun E' w1 hw1 => HLE.out w1) ?_; intro v9 x9 hW9; have hq9 := hW9; obtain ⟨n9, c9, rfl, g9, g8⟩ := hq9; clear g8; replace g9 := Lib.hid g9; replace hW9 := Lib.hid hW9; simp only [Act.put, List.setIfInBounds_toArray, List.set_cons_succ, List.set_cons_zero])
    | ((with_reducible refine Any.at_estore (T := 25) ?_); refine Any.E_putv (T := 25) rfl rfl rfl rfl rfl rfl 1 infoM rfl rfl (by simp [Value.oneCell']) ?_; simp only [Act.put, List.setIfInBounds_toArray, List.set_cons_succ, List.set_cons_zero]))
  try any_goals exact undef
  refine Any.E_nil ?_
  intro w9 hE9
  replace hv : Mem w0 w9 ([(b8, #[.slice (some ⟨vb, 0, none⟩) mn vc]), (b4, #[(.slice (some ⟨mb, mo, none⟩) mn mc)])] ++ ((vb, vz) :: L)) _ := hE9.memr0 (L1 := [(b8, #[.slice none 0 0]), (b4, #[(.slice (some ⟨mb, mo, none⟩) mn mc)])]) hv [1000, 1001] (by decide)
  clear hE9
  simp only [List.cons_append, List.nil_append] at hv
  go_wp2
  try simp only [Exit.inBlock, Exit.then]
  refine ret_cell2 (v := .agg #[.slice (some ⟨vb, 0, none⟩) mn vc]) (v1 := .int .i64 0) rfl rfl (read_row _ b8 25 _ (hv.vars.row (b := b8) (by first | exact .head _ | exact .tail _ (.head _) | exact .tail _ (.tail _ (.head _)) | exact .tail _ (.tail _ (.tail _ (.head _))) | exact .tail _ (.tail _ (.tail _ (.tail _ (.head _)))) | exact .tail _ (.tail _ (.tail _ (.tail _ (.tail _ (.head _))))) | exact .tail _ (.tail _ (.tail _ (.tail _ (.tail _ (.tail _ (.head _)))))) | exact .tail _ (.tail _ (.tail _ (.tail _ (.tail _ (.tail _ (.tail _ (.head _))))))))) 1 _ Try.underlying25 rfl infoM (by decide) rfl) rfl rfl ?_
  exact ⟨vb, vc, rfl, vz, HROW.out, hv.drop.drop⟩
theorem PutNum_gen {w0 w : World} {L : List (Nat × Array Value)} {R : List (Nat × Value × List Value)} {mb mo mn mc : Nat} {M : List Nat} (hv : Mem w0 w L R) (hm : InM R mb mo mn mc M) (p n k : Nat) (h0 : 0 < k) (h1 : k ≤ 8) (h : p + k ≤ mn) (hle : ∀ w, Calls Try.prog 89 #[.int .u64 (n : Nat), .int .i64 (k : Nat)] w fun e w' => ∃ v x, e = .returned v ∧ AppRow v 1 (cellsB (leB n k)) x ∧ New w w' ∧ w.heap.size ≤ x.1 ∧ w'.rowD x.1 = x.2 ∧ w'.soft x.1 = true) :
    Calls Try.prog 72 #[(.agg #[(.slice (some ⟨mb, mo, none⟩) mn mc)]), .int .i64 (p : Nat), .int .i64 (k : Nat), .int .u64 (n : Nat)] w fun e w' => ∃ b c R', e = .returned (.tuple #[.agg #[.slice (some ⟨b, 0, none⟩) mn c], .int .i64 0]) ∧ Mem w0 w' L R' ∧ InM R' b 0 mn c (putB M p (leB n k)) ∧ ∀ x ∈ R, x ∈ R' := by
  refine (PutNum_row hv hm p n k h0 h1 h hle).mono ?_
  rintro e w' ⟨b, c, rfl, z, hrow, hv1⟩
  have hv2 := Mem.yield (L1 := []) hv1 hrow
  simp only [List.nil_append] at hv2
  exact ⟨b, c, _, rfl, hv2, ⟨Mem.z, by rw [putB_len (by rw [leB_len, hm.len]; omega)]; exact hm.len, hm.pos, hm.most, putB_good hm.good (leB_good n k)⟩, fun x hx => Mem.s hx⟩
theorem LeR_2 (n : Nat) (hn : n < 18446744073709551616) (w : World) : Calls Try.prog 89 #[.int .u64 (n : Nat), .int .i64 ((2 : Nat) : Int)] w fun e w' => ∃ v x, e = .returned v ∧ AppRow v 1 (cellsB (leB n 2)) x ∧ New w w' ∧ w.heap.size ≤ x.1 ∧ w'.rowD x.1 = x.2 ∧ w'.soft x.1 = true := by
  refine (Le_2 n hn w).mono ?_
  rintro e w' ⟨b, rfl, h1, h2, h3, h4⟩
  exact ⟨_, (b, putM 2 n 2), rfl, ⟨2, 2, rfl, by rw [cellsB_len, leB_len], Nat.le_refl _, by unfold maxLen; omega, by rw [Nat.mul_one]; exact size_putM _ _ _, by
    show (putM 2 n 2).toList.take _ = _
    rw [putM_full, List.take_of_length_le (by rw [cellsB_len, leB_len]; omega)]⟩, h4, h3, h1, h2⟩
theorem LeR_4 (n : Nat) (hn : n < 18446744073709551616) (w : World) : Calls Try.prog 89 #[.int .u64 (n : Nat), .int .i64 ((4 : Nat) : Int)] w fun e w' => ∃ v x, e = .returned v ∧ AppRow v 1 (cellsB (leB n 4)) x ∧ New w w' ∧ w.heap.size ≤ x.1 ∧ w'.rowD x.1 = x.2 ∧ w'.soft x.1 = true := by
  refine (Le_4 n hn w).mono ?_
  rintro e w' ⟨b, rfl, h1, h2, h3, h4⟩
  exact ⟨_, (b, putM 4 n 4), rfl, ⟨4, 4, rfl, by rw [cellsB_len, leB_len], Nat.le_refl _, by unfold maxLen; omega, by rw [Nat.mul_one]; exact size_putM _ _ _, by
    show (putM 4 n 4).toList.take _ = _
    rw [putM_full, List.take_of_length_le (by rw [cellsB_len, leB_len]; omega)]⟩, h4, h3, h1, h2⟩
theorem LeR_8 (n : Nat) (hn : n < 18446744073709551616) (w : World) : Calls Try.prog 89 #[.int .u64 (n : Nat), .int .i64 ((8 : Nat) : Int)] w fun e w' => ∃ v x, e = .returned v ∧ AppRow v 1 (cellsB (leB n 8)) x ∧ New w w' ∧ w.heap.size ≤ x.1 ∧ w'.rowD x.1 = x.2 ∧ w'.soft x.1 = true := by
  refine (Le_8 n hn w).mono ?_
  rintro e w' ⟨b, rfl, h1, h2, h3, h4⟩
  exact ⟨_, (b, putM 8 n 8), rfl, ⟨8, 8, rfl, by rw [cellsB_len, leB_len], Nat.le_refl _, by unfold maxLen; omega, by rw [Nat.mul_one]; exact size_putM _ _ _, by
    show (putM 8 n 8).toList.take _ = _
    rw [putM_full, List.take_of_length_le (by rw [cellsB_len, leB_len]; omega)]⟩, h4, h3, h1, h2⟩
end Go.Proofs.Ytcelehhaggoijaa
