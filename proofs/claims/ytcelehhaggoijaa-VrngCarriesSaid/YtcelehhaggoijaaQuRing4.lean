/-
  Rings: one is made available; one is given back.
-/
import Derived.Test.YtcelehhaggoijaaQuRing3
set_option linter.unusedVariables false
set_option linter.unusedSimpArgs false
namespace Go.Proofs.Qu
open Go Go.RowKit Go.Proofs.Nm
/-- An entry made available; one given back. -/
def offerM (M : List Nat) (base n i first : Nat) : List Nat := putB (putB M (base + (16 * n + (4 + 2 * (i % n)))) (leB first 2)) (base + 16 * n + 2) (leB ((i + 1) % 65536) 2)
def returnM (M : List Nat) (base n i id len : Nat) : List Nat := putB (putB (putB M (base + (backN n + (4 + 8 * (i % n)))) (leB id 4)) (base + (backN n + (4 + 8 * (i % n))) + 4) (leB len 4)) (base + backN n + 2) (leB ((i + 1) % 65536) 2)
theorem sum3_i64 {a b s : Nat} (h : a + b + 2 = s) (hs : s ≤ 1000000) : IntKind.i64.wrap (IntKind.i64.wrap ((a : Int) + (b : Int)) + 2) = (s : Int) := by
  rw [IntWalk.i64_in ((a : Int) + (b : Int)) (by omega), IntWalk.i64_in _ (by omega)]; omega
theorem sum3_w64 {a b s : Nat} (h : a + b + 2 = s) (hs : s ≤ 1000000) : wrap64 (wrap64 ((a : Int) + (b : Int)) + 2) = (s : Int) := by unfold wrap64; omega
theorem inc16 (i : Nat) : IntKind.u16.wrap ((i : Int) + 1) = (((i + 1) % 65536 : Nat) : Int) := by
  have := wrap16n (i + 1)
  rw [← this]; rfl
theorem sub_off {α : Type} (f b10 b9 b8 b7 b6 b5 : α) (L : List α) : (b10 :: b5 :: L).Sublist (f :: b10 :: b9 :: b8 :: b7 :: b6 :: b5 :: L) := .cons _ (.cons_cons _ (.cons _ (.cons _ (.cons _ (.cons _ (List.Sublist.refl _))))))
end Go.Proofs.Qu
namespace Go.Proofs.Ytcelehhaggoijaa
open Go.Proofs.Qu Go.Proofs.Nm Go.RowKit Go.Proofs
set_option maxRecDepth 100000 in
set_option maxHeartbeats 4000000 in
theorem next_M {w0 w : World} {L : List (Nat × Array Value)} {R : List (Nat × Value × List Value)} {bF mb mo mn mc p : Nat} {M : List Nat} (hv : Mem w0 w ((bF, #[(.slice (some ⟨mb, mo, none⟩) mn mc), .int .i64 (p : Nat)]) :: L) R) (hm : InM R mb mo mn mc M) (base part i : Nat) (h : base + part + 2 + 2 ≤ mn) : Calls Try.prog 59 #[.pointer (some ⟨bF, 0, none⟩), .int .i64 (base : Nat), .int .i64 (part : Nat), .int .u16 (i : Nat)] w fun e w' => e = .returned (.tuple #[]) ∧ ∃ b c R', Mem w0 w' ((bF, #[.slice (some ⟨b, 0, none⟩) mn c, .int .i64 ((base + part + 2 + 2 : Nat) : Int)]) :: L) R' ∧ InM R' b 0 mn c (putB M (base + part + 2) (leB ((i + 1) % 65536) 2)) ∧ ∀ x ∈ R, x ∈ R' := by
  have HM := Lib.hid hm
  have HSUB : Hid (∀ x ∈ R, x ∈ R) := Lib.hid (fun x hx => hx)
  obtain ⟨bp, hbp⟩ : ∃ bp, base + part = bp := ⟨_, rfl⟩
  rw [hbp] at h ⊢
  have P1 := Lib.hid h
  have hs9 : bp + 2 ≤ 100000 := by have := hm.most; omega
  have q1 : IntKind.i64.wrap ((base : Int) + (part : Int)) = (bp : Int) := sum_i64 hbp (by omega)
  have q1w : wrap64 ((base : Int) + (part : Int)) = (bp : Int) := sum_w64 hbp (by omega)
  have q2 : IntKind.i64.wrap ((bp : Int) + 2) = ((bp + 2 : Nat) : Int) := by rw [IntWalk.i64_in _ (by omega)]; omega
  obtain ⟨j, hj⟩ : ∃ j, (i + 1) % 65536 = j := ⟨_, rfl⟩
  have hj2 : j < 65536 := by rw [← hj]; exact Nat.mod_lt _ (by decide)
  have q3 : IntKind.u16.wrap ((i : Int) + 1) = (j : Int) := by rw [inc16, hj]
  have A1 : Hid (j < 18446744073709551616) := Lib.hid (by omega)
  have q4 : IntKind.u64.wrap (j : Int) = (j : Int) := wrap_u64 (by omega)
  rw [hj]
  clear hm h hbp hs9 hj hj2
  go_enter Try.func59, Try.ntmps59
  go_wp2_with (first
    | ((with_reducible refine at_store (T := 3) ?_); refine wl_stc rfl bF 1 rfl (.int .i64 ((bp + 2 : Nat) : Int)) rfl _ (hv.vars.row (by first | exact .head _ | exact .tail _ (.head _) | exact .tail _ (.tail _ (.head _)) | exact .tail _ (.tail _ (.tail _ (.head _))) | exact .tail _ (.tail _ (.tail _ (.tail _ (.head _)))) | exact .tail _ (.tail _ (.tail _ (.tail _ (.tail _ (.head _))))) | exact .tail _ (.tail _ (.tail _ (.tail _ (.tail _ (.tail _ (.head _)))))) | exact .tail _ (.tail _ (.tail _ (.tail _ (.tail _ (.tail _ (.tail _ (.head _))))))))) (hv.vars.sft (by first | exact .head _ | exact .tail _ (.head _) | exact .tail _ (.tail _ (.head _)) | exact .tail _ (.tail _ (.tail _ (.head _))) | exact .tail _ (.tail _ (.tail _ (.tail _ (.head _)))) | exact .tail _ (.tail _ (.tail _ (.tail _ (.tail _ (.head _))))) | exact .tail _ (.tail _ (.tail _ (.tail _ (.tail _ (.tail _ (.head _)))))) | exact .tail _ (.tail _ (.tail _ (.tail _ (.tail _ (.tail _ (.tail _ (.head _))))))))) (by kernel_rfl) rfl (by show 1 < 2; decide) ?_; intro w2 hw2; (first | (replace hv := hv.set 0 rfl hw2) | (replace hv := hv.set 1 rfl hw2) | (replace hv := hv.set 2 rfl hw2) | (replace hv := hv.set 3 rfl hw2)); clear hw2; simp only [List.set] at hv)
    | (go_at_call 58; (with_reducible refine (put_2 hv HM.out j A1.out P1.out).mono ?_); rintro e w1 ⟨rfl, vb, vc, R1, hv1, hi1, hs1⟩; replace hv := hv1; replace HM := Lib.hid hi1; replace HSUB := Lib.hid (fun x hx => hs1 x (HSUB.out x hx)); clear hv1 hi1 hs1))
  go_end0
  exact ⟨rfl, vb, vc, R1, hv, HM.out, HSUB.out⟩
set_option maxRecDepth 100000 in
set_option maxHeartbeats 16000000 in
theorem OffC {b5 b6 b7 b8 b9 b10 first n i base : Nat} {z10 : Array Value} {v0 : Value} {w0 w : World} {L : List (Nat × Array Value)} {R : List (Nat × Value × List Value)} {bF mb mo mn mc : Nat} {M : List Nat} (hn : okN n) (hb : base + sizeN n ≤ mn) (hi : i < 65536) (hf : first < 65536)
    (hv : Mem w0 w ((bF, #[(.slice (some ⟨mb, mo, none⟩) mn mc), .int .i64 ((base + (16 * n + (4 + 2 * (i % n)))) : Nat)]) :: (b10, z10) :: (b9, #[.int .i64 (first : Nat)]) :: (b8, #[.int .u16 (i : Nat)]) :: (b7, #[.int .i64 (n : Nat)]) :: (b6, #[.int .i64 (base : Nat)]) :: (b5, #[v0]) :: L) R) (hm : InM R mb mo mn mc M) :
    Calls Try.prog 57 #[.pointer (some ⟨bF, 0, none⟩), .pointer (some ⟨b9, 0, none⟩), .pointer (some ⟨b6, 0, none⟩), .pointer (some ⟨b7, 0, none⟩), .pointer (some ⟨b8, 0, none⟩), .pointer (some ⟨b5, 0, none⟩)] w fun e w' => e = .returned (.tuple #[]) ∧ ∃ b c R', Mem w0 w' ((b10, z10) :: (b5, #[.slice (some ⟨b, 0, none⟩) mn c]) :: L) R' ∧ InM R' b 0 mn c (offerM M base n i first) ∧ ∀ x ∈ R, x ∈ R' := by
  have HM := Lib.hid hm
  have HSUB : Hid (∀ x ∈ R, x ∈ R) := Lib.hid (fun x hx => hx)
  have hbnd := avail_bnd (i := i) hn
  obtain ⟨av, hav⟩ : ∃ av, 16 * n = av := ⟨_, rfl⟩
  have HAV : Hid (∀ w, Calls Try.prog 55 #[.int .i64 (n : Nat)] w fun e w' => e = .returned (.int .i64 (av : Nat)) ∧ New w w') := Lib.hid (fun w => by have := avail_ok n hn w; rw [hav] at this; exact this)
  have hav2 : av + 6 ≤ sizeN n := by have := hbnd.1; omega
  have HNX : Hid (base + av + 2 + 2 ≤ mn) := Lib.hid (by omega)
  unfold offerM
  rw [hav] at hv hbnd ⊢
  obtain ⟨p, hp⟩ : ∃ p, base + (av + (4 + 2 * (i % n))) = p := ⟨_, rfl⟩
  rw [hp] at hv ⊢
  have P1 : Hid (p + 2 ≤ mn) := Lib.hid (by rw [← hp]; have := hbnd.1; omega)
  have A1 : Hid (first < 18446744073709551616) := Lib.hid (by omega)
  have q1 : IntKind.u64.wrap (first : Int) = (first : Int) := wrap_u64 (by omega)
  clear hn hb hi hf hbnd hav hav2 hp hm
  go_enter Try.func57, Try.ntmps57
  go_wp2_with (first
    | ((with_reducible refine at_load (T := 3) ?_); refine wl_ldc rfl b9 0 rfl _ (hv.vars.row (by first | exact .head _ | exact .tail _ (.head _) | exact .tail _ (.tail _ (.head _)) | exact .tail _ (.tail _ (.tail _ (.head _))) | exact .tail _ (.tail _ (.tail _ (.tail _ (.head _)))) | exact .tail _ (.tail _ (.tail _ (.tail _ (.tail _ (.head _))))) | exact .tail _ (.tail _ (.tail _ (.tail _ (.tail _ (.tail _ (.head _)))))) | exact .tail _ (.tail _ (.tail _ (.tail _ (.tail _ (.tail _ (.tail _ (.head _))))))))) _ Try.underlying3 rfl (.int .i64 (first : Nat)) rfl ?_)
    | (go_at_call 58; (with_reducible refine (put_2 hv HM.out first A1.out P1.out).mono ?_); rintro e w1 ⟨rfl, vb, vc, R1, hv1, hi1, hs1⟩; replace hv := hv1; replace HM := Lib.hid hi1; replace HSUB := Lib.hid (fun x hx => hs1 x (HSUB.out x hx)); clear hv1 hi1 hs1))
  have hv0 := hv
  clear hv
  have hv : Mem w0 _ ([(bF, #[.slice (some ⟨vb, 0, none⟩) mn vc, .int .i64 ((p + 2) : Nat)]), (b10, z10), (b9, #[.int .i64 (first : Nat)]), (b8, #[.int .u16 (i : Nat)]), (b7, #[.int .i64 (n : Nat)]), (b6, #[.int .i64 (base : Nat)])] ++ ((b5, #[v0]) :: L)) _ := hv0
  clear hv0
  refine Any.wp_region_cut 5 [⟨[], none⟩, ⟨[1005], none⟩, ⟨[1004], none⟩, ⟨[], none⟩, ⟨[1003], none⟩, ⟨[], none⟩] [.val, .val, .val, .val, .val] (by kernel_rfl) (by kernel_rfl) (hv.vars.keep (List.sublist_append_left [(bF, #[.slice (some ⟨vb, 0, none⟩) mn vc, .int .i64 ((p + 2) : Nat)]), (b10, z10), (b9, #[.int .i64 (first : Nat)]), (b8, #[.int .u16 (i : Nat)]), (b7, #[.int .i64 (n : Nat)]), (b6, #[.int .i64 (base : Nat)])] ((b5, #[v0]) :: L))) ?_
  simp only [Any.someVals, List.take_succ_cons, List.take_zero]
  iterate 5 apply Exists.intro
  repeat (first
    | (refine Any.E_off rfl ?_; simp only [Act.put, List.setIfInBounds_toArray, List.set_cons_succ, List.set_cons_zero])
    | (apply Any.E_pureq rfl rfl rfl
       case h => intro K hK; go_big_quiet_op; (refine hK _ ?_; rfl)
       case hr => exact fun _ => rfl
       simp only [Act.put, List.setIfInBounds_toArray, List.set_cons_succ, List.set_cons_zero])
    | (apply Any.E_val rfl rfl rfl rfl
       case h =>
         intro E' hA K hK
         first
           | ((with_reducible refine Any.at_qload (T := 3) ?_); refine Any.q_ldc 1005 hA (by decide) rfl rfl _ Try.underlying3 rfl (.int .i64 (base : Nat)) rfl ?_; refine hK _ ?_; rfl)
           | ((with_reducible refine Any.at_qload (T := 3) ?_); refine Any.q_ldc 1004 hA (by decide) rfl rfl _ Try.underlying3 rfl (.int .i64 (n : Nat)) rfl ?_; refine hK _ ?_; rfl)
           | ((with_reducible refine Any.at_qload (T := 27) ?_); refine Any.q_ldc 1003 hA (by decide) rfl rfl _ Try.underlying27 rfl (.int .u16 (i : Nat)) rfl ?_; refine hK _ ?_; rfl)
           | (go_big_quiet_op; first
             | (refine hK _ ?_; rfl)
             | (refine ⟨_, fun _ _ => rfl, ?_⟩; refine hK _ ?_; rfl)
             | (apply Exists.intro; refine ⟨fun w1 hw1 => ?_, ?_⟩; · (first
                 | (go_at_call 55; exact Any.calls_VE (HAV.out _) hw1))
                refine hK _ ?_; rfl))
       case hD => rfl
       simp only [Act.put, List.setIfInBounds_toArray, List.set_cons_succ, List.set_cons_zero])
    | ((with_reducible refine Any.at_ealloc ?_); refine Any.E_lay rfl rfl rfl (fun _ => rfl) ?_; intro B; simp only [Act.put, List.setIfInBounds_toArray, List.set_cons_succ, List.set_cons_zero]))
  try any_goals exact undef
  refine Any.E_nil ?_
  intro w9 hE9
  replace hv : Mem w0 w9 ([(bF, #[.slice (some ⟨vb, 0, none⟩) mn vc, .int .i64 ((p + 2) : Nat)]), (b10, z10), (b9, #[.int .i64 (first : Nat)]), (b8, #[.int .u16 (i : Nat)]), (b7, #[.int .i64 (n : Nat)]), (b6, #[.int .i64 (base : Nat)])] ++ ((b5, #[v0]) :: L)) _ := hE9.memr (L1 := [(bF, #[.slice (some ⟨vb, 0, none⟩) mn vc, .int .i64 ((p + 2) : Nat)]), (b10, z10), (b9, #[.int .i64 (first : Nat)]), (b8, #[.int .u16 (i : Nat)]), (b7, #[.int .i64 (n : Nat)]), (b6, #[.int .i64 (base : Nat)])]) hv [1000, 1001, 1002, 1003, 1004, 1005] (by decide)
  clear hE9
  refine Any.wpOp_callv rfl rfl (Go.Proofs.enters_of Try.func59 (by kernel_rfl) rfl) rfl [.pointer (some ⟨bF, 0, none⟩), .int .i64 (base : Nat), .int .i64 (av : Nat), .int .u16 (i : Nat)] rfl ?_
  refine (next_M hv HM.out base av i HNX.out).mono ?_
  rintro e w1 ⟨rfl, vb, vc, R1, hv1, hi1, hs1⟩
  replace hv := hv1
  replace HM := Lib.hid hi1
  replace HSUB := Lib.hid (fun x hx => hs1 x (HSUB.out x hx))
  clear hv1 hi1 hs1
  refine ⟨_, rfl, ?_⟩
  have hv0 := hv
  clear hv
  have hv : Mem w0 _ ([(bF, #[.slice (some ⟨vb, 0, none⟩) mn vc, .int .i64 ((base + av + 2 + 2 : Nat) : Int)]), (b10, z10), (b9, #[.int .i64 (first : Nat)]), (b8, #[.int .u16 (i : Nat)]), (b7, #[.int .i64 (n : Nat)]), (b6, #[.int .i64 (base : Nat)])] ++ ((b5, #[v0]) :: L)) _ := hv0
  clear hv0
  refine Any.wpAny_rest 6 [] [] (by kernel_rfl) (hv.vars.keep (List.sublist_append_left [(bF, #[.slice (some ⟨vb, 0, none⟩) mn vc, .int .i64 ((base + av + 2 + 2 : Nat) : Int)]), (b10, z10), (b9, #[.int .i64 (first : Nat)]), (b8, #[.int .u16 (i : Nat)]), (b7, #[.int .i64 (n : Nat)]), (b6, #[.int .i64 (base : Nat)])] ((b5, #[v0]) :: L))) ?_
  simp only [List.length_cons, List.length_nil, Nat.zero_add, Nat.reduceAdd, Nat.reduceSub, Any.someVals, List.drop_succ_cons, List.drop_zero]
  simp only [Act.put, List.setIfInBounds_toArray, List.set_cons_succ, List.set_cons_zero]
  iterate 0 apply Exists.intro
  repeat (first
    | (refine Any.E_off rfl ?_; simp only [Act.put, List.setIfInBounds_toArray, List.set_cons_succ, List.set_cons_zero])
    | (apply Any.E_pureq rfl rfl rfl
       case h => intro K hK; go_big_quiet_op; (refine hK _ ?_; rfl)
       case hr => exact fun _ => rfl
       simp only [Act.put, List.setIfInBounds_toArray, List.set_cons_succ, List.set_cons_zero])
    | (apply Any.E_val rfl rfl rfl rfl
       case h =>
         intro E' hA K hK
         first
           | ((with_reducible refine Any.at_qload (T := 3) ?_); refine Any.q_ldc 1005 hA (by decide) rfl rfl _ Try.underlying3 rfl (.int .i64 (base : Nat)) rfl ?_; refine hK _ ?_; rfl)
           | ((with_reducible refine Any.at_qload (T := 3) ?_); refine Any.q_ldc 1004 hA (by decide) rfl rfl _ Try.underlying3 rfl (.int .i64 (n : Nat)) rfl ?_; refine hK _ ?_; rfl)
           | ((with_reducible refine Any.at_qload (T := 27) ?_); refine Any.q_ldc 1003 hA (by decide) rfl rfl _ Try.underlying27 rfl (.int .u16 (i : Nat)) rfl ?_; refine hK _ ?_; rfl)
           | (go_big_quiet_op; first
             | (refine hK _ ?_; rfl)
             | (refine ⟨_, fun _ _ => rfl, ?_⟩; refine hK _ ?_; rfl)
             | (apply Exists.intro; refine ⟨fun w1 hw1 => ?_, ?_⟩; · (first
                 | (go_at_call 55; exact Any.calls_VE (HAV.out _) hw1))
                refine hK _ ?_; rfl))
       case hD => rfl
       simp only [Act.put, List.setIfInBounds_toArray, List.set_cons_succ, List.set_cons_zero])
    | ((with_reducible refine Any.at_ealloc ?_); refine Any.E_lay rfl rfl rfl (fun _ => rfl) ?_; intro B; simp only [Act.put, List.setIfInBounds_toArray, List.set_cons_succ, List.set_cons_zero]))
  try any_goals exact undef
  refine Any.E_nil ?_
  intro w9 hE9
  replace hv : Mem w0 w9 ([(bF, #[.slice (some ⟨vb, 0, none⟩) mn vc, .int .i64 ((base + av + 2 + 2 : Nat) : Int)]), (b10, z10), (b9, #[.int .i64 (first : Nat)]), (b8, #[.int .u16 (i : Nat)]), (b7, #[.int .i64 (n : Nat)]), (b6, #[.int .i64 (base : Nat)])] ++ ((b5, #[v0]) :: L)) _ := hE9.memr0 (L1 := [(bF, #[.slice (some ⟨vb, 0, none⟩) mn vc, .int .i64 ((base + av + 2 + 2 : Nat) : Int)]), (b10, z10), (b9, #[.int .i64 (first : Nat)]), (b8, #[.int .u16 (i : Nat)]), (b7, #[.int .i64 (n : Nat)]), (b6, #[.int .i64 (base : Nat)])]) hv [1000, 1001, 1002, 1003, 1004, 1005] (by decide)
  clear hE9
  simp only [List.cons_append, List.nil_append] at hv
  go_wp2_with (first
    | ((with_reducible refine at_load (T := 25) ?_); refine wl_ldp rfl bF 0 rfl _ (hv.vars.row (by first | exact .head _ | exact .tail _ (.head _) | exact .tail _ (.tail _ (.head _)) | exact .tail _ (.tail _ (.tail _ (.head _))) | exact .tail _ (.tail _ (.tail _ (.tail _ (.head _)))) | exact .tail _ (.tail _ (.tail _ (.tail _ (.tail _ (.head _))))) | exact .tail _ (.tail _ (.tail _ (.tail _ (.tail _ (.tail _ (.head _)))))) | exact .tail _ (.tail _ (.tail _ (.tail _ (.tail _ (.tail _ (.tail _ (.head _))))))))) 1 _ Try.underlying25 rfl infoM (by decide) (by show 0 + 1 ≤ 2; decide) #[.slice (some ⟨vb, 0, none⟩) mn vc] rfl ?_)
    | ((with_reducible refine at_store (T := 25) ?_); refine wl_stv rfl b5 rfl _ rfl _ (hv.vars.row (by first | exact .head _ | exact .tail _ (.head _) | exact .tail _ (.tail _ (.head _)) | exact .tail _ (.tail _ (.tail _ (.head _))) | exact .tail _ (.tail _ (.tail _ (.tail _ (.head _)))) | exact .tail _ (.tail _ (.tail _ (.tail _ (.tail _ (.head _))))) | exact .tail _ (.tail _ (.tail _ (.tail _ (.tail _ (.tail _ (.head _)))))) | exact .tail _ (.tail _ (.tail _ (.tail _ (.tail _ (.tail _ (.tail _ (.head _))))))))) (hv.vars.sft (by first | exact .head _ | exact .tail _ (.head _) | exact .tail _ (.tail _ (.head _)) | exact .tail _ (.tail _ (.tail _ (.head _))) | exact .tail _ (.tail _ (.tail _ (.tail _ (.head _)))) | exact .tail _ (.tail _ (.tail _ (.tail _ (.tail _ (.head _))))) | exact .tail _ (.tail _ (.tail _ (.tail _ (.tail _ (.tail _ (.head _)))))) | exact .tail _ (.tail _ (.tail _ (.tail _ (.tail _ (.tail _ (.tail _ (.head _))))))))) 1 infoM rfl rfl (by simp [Value.oneCell']) ?_; intro w2 hw2; (first | (replace hv := hv.set 0 rfl hw2) | (replace hv := hv.set 1 rfl hw2) | (replace hv := hv.set 2 rfl hw2) | (replace hv := hv.set 3 rfl hw2) | (replace hv := hv.set 4 rfl hw2) | (replace hv := hv.set 5 rfl hw2) | (replace hv := hv.set 6 rfl hw2) | (replace hv := hv.set 7 rfl hw2)); clear hw2; simp only [List.set] at hv))
  go_end0
  exact ⟨rfl, vb, vc, R1, hv.keep (sub_off _ _ _ _ _ _ _ L), HM.out, HSUB.out⟩
set_option maxRecDepth 100000 in
set_option maxHeartbeats 16000000 in
theorem Offer_M {w0 w : World} {L : List (Nat × Array Value)} {R : List (Nat × Value × List Value)} {mb mo mn mc : Nat} {M : List Nat} (hv : Mem w0 w L R) (hm : InM R mb mo mn mc M) (base n i : Nat) (hn : okN n) (hb : base + sizeN n ≤ mn) (hi : i < 65536) {first : Nat} (hf : first < 65536) :
    Calls Try.prog 33 #[(.agg #[(.slice (some ⟨mb, mo, none⟩) mn mc)]), .int .i64 (base : Nat), .int .i64 (n : Nat), .int .u16 (i : Nat), .int .i64 (first : Nat)] w fun e w' => ∃ b c R', e = .returned (.tuple #[.agg #[.slice (some ⟨b, 0, none⟩) mn c], .int .i64 0]) ∧ Mem w0 w' L R' ∧ InM R' b 0 mn c (offerM M base n i first) ∧ ∀ x ∈ R, x ∈ R' := by
  have HM := Lib.hid hm
  have HN := Lib.hid hn
  have HB := Lib.hid hb
  have hm8 := hm.most
  obtain ⟨M2, hM2⟩ : ∃ M2, (offerM M base n i first) = M2 := ⟨_, rfl⟩
  rw [hM2]
  have hcl0 : ∀ (bF : Nat) (w1 : World) (b5 b6 b7 b8 b9 b10 : Nat), Mem w0 w1 ((bF, #[(.slice (some ⟨mb, mo, none⟩) mn mc), .int .i64 ((base + (16 * n + (4 + 2 * (i % n))) : Nat) : Int)]) :: (b10, #[.slice none 0 0]) :: (b9, #[.int .i64 (first : Nat)]) :: (b8, #[.int .u16 (i : Nat)]) :: (b7, #[.int .i64 (n : Nat)]) :: (b6, #[.int .i64 (base : Nat)]) :: (b5, #[(.slice (some ⟨mb, mo, none⟩) mn mc)]) :: L) R → Calls Try.prog 57 #[.pointer (some ⟨bF, 0, none⟩), .pointer (some ⟨b9, 0, none⟩), .pointer (some ⟨b6, 0, none⟩), .pointer (some ⟨b7, 0, none⟩), .pointer (some ⟨b8, 0, none⟩), .pointer (some ⟨b5, 0, none⟩)] w1 fun e w' => e = .returned (.tuple #[]) ∧ ∃ b c R', Mem w0 w' ((b10, #[.slice none 0 0]) :: (b5, #[.slice (some ⟨b, 0, none⟩) mn c]) :: L) R' ∧ InM R' b 0 mn c M2 ∧ ∀ x ∈ R, x ∈ R' := fun bF w1 b5 b6 b7 b8 b9 b10 h => by
    have := OffC hn hb hi hf h hm
    rw [hM2] at this
    exact this
  have hbnd := avail_bnd (i := i) hn
  obtain ⟨av, hav⟩ : ∃ av, 16 * n = av := ⟨_, rfl⟩
  have HAV : Hid (∀ w, Calls Try.prog 55 #[.int .i64 (n : Nat)] w fun e w' => e = .returned (.int .i64 (av : Nat)) ∧ New w w') := Lib.hid (fun w => by have := avail_ok n HN.out w; rw [hav] at this; exact this)
  obtain ⟨pl, hpl⟩ : ∃ pl, 4 + 2 * (i % n) = pl := ⟨_, rfl⟩
  have HPL : Hid (∀ w, Calls Try.prog 56 #[.int .i64 (n : Nat), .int .u16 (i : Nat), .int .i64 2] w fun e w' => e = .returned (.int .i64 (pl : Nat)) ∧ New w w') := Lib.hid (fun w => by have := place_ok n i 2 HN.out hi (by decide) w; rw [hpl] at this; exact this)
  obtain ⟨s, hs⟩ : ∃ s, av + pl = s := ⟨_, rfl⟩
  rw [hav, hpl, hs] at hcl0 hbnd
  have HCL := Lib.hid hcl0
  have hs9 : s ≤ 1000000 := Nat.le_trans (Nat.le_trans (Nat.le_add_right _ _) hbnd.1) (Nat.le_trans hbnd.2 (by decide))
  have q1 : IntKind.i64.wrap ((av : Int) + (pl : Int)) = (s : Int) := sum_i64 hs hs9
  have q3 : wrap64 ((av : Int) + (pl : Int)) = (s : Int) := sum_w64 hs hs9
  have HH : Hid (base + s + 2 ≤ mn) := Lib.hid (by rw [Nat.add_assoc]; exact Nat.le_trans (Nat.add_le_add_left hbnd.1 base) hb)
  have HP : Hid (base + s ≤ 100000) := Lib.hid (Nat.le_trans (Nat.le_trans (Nat.le_add_right _ _) HH.out) (Nat.le_trans hm8 (by decide)))
  clear hn hb hi hm8 hM2 hcl0 hbnd hav hpl hs hs9 hm
  go_enter Try.func33, Try.ntmps33
  go_wp2_with (first
    | ((with_reducible refine at_box (T := 25) (dst := some 5) ?_); refine wl_newb rfl #[(.slice (some ⟨mb, mo, none⟩) mn mc)] 25 (fun _ => rfl) ?_; intro b5 w2 hm2; replace hv := hv.madeAt hm2; clear hm2)
    | ((with_reducible refine at_box (T := 3) (dst := some 6) ?_); refine wl_newb rfl #[.int .i64 (base : Nat)] 3 (fun _ => rfl) ?_; intro b6 w2 hm2; replace hv := hv.madeAt hm2; clear hm2)
    | ((with_reducible refine at_box (T := 3) (dst := some 7) ?_); refine wl_newb rfl #[.int .i64 (n : Nat)] 3 (fun _ => rfl) ?_; intro b7 w2 hm2; replace hv := hv.madeAt hm2; clear hm2)
    | ((with_reducible refine at_box (T := 27) (dst := some 8) ?_); refine wl_newb rfl #[.int .u16 (i : Nat)] 27 (fun _ => rfl) ?_; intro b8 w2 hm2; replace hv := hv.madeAt hm2; clear hm2)
    | ((with_reducible refine at_box (T := 3) (dst := some 9) ?_); refine wl_newb rfl #[.int .i64 (first : Nat)] 3 (fun _ => rfl) ?_; intro b9 w2 hm2; replace hv := hv.madeAt hm2; clear hm2)
    | ((with_reducible refine at_alloc (T := 25) (dst := some 10) ?_); refine wl_newb rfl #[.slice none 0 0] 25 (fun _ => rfl) ?_; intro b10 w2 hm2; replace hv := hv.madeAt hm2; clear hm2))
  have hv0 := hv
  clear hv
  have hv : Mem w0 _ ([(b10, #[.slice none 0 0]), (b9, #[.int .i64 (first : Nat)]), (b8, #[.int .u16 (i : Nat)]), (b7, #[.int .i64 (n : Nat)]), (b6, #[.int .i64 (base : Nat)]), (b5, #[(.slice (some ⟨mb, mo, none⟩) mn mc)])] ++ L) _ := hv0
  clear hv0
  refine Any.wp_region_cut 10 [⟨[1005], none⟩, ⟨[1004], none⟩, ⟨[1003], none⟩, ⟨[1003], none⟩, ⟨[], none⟩, ⟨[1003], none⟩, ⟨[1002], none⟩, ⟨[], none⟩, ⟨[], none⟩, ⟨[], none⟩, ⟨[], none⟩, ⟨[], none⟩] [.val, .val, .val, .val, .val, .val, .val, .val, .val, .val] (by kernel_rfl) (by kernel_rfl) (hv.vars.keep (List.sublist_append_left [(b10, #[.slice none 0 0]), (b9, #[.int .i64 (first : Nat)]), (b8, #[.int .u16 (i : Nat)]), (b7, #[.int .i64 (n : Nat)]), (b6, #[.int .i64 (base : Nat)]), (b5, #[(.slice (some ⟨mb, mo, none⟩) mn mc)])] L)) ?_
  simp only [Any.someVals, List.take_succ_cons, List.take_zero]
  iterate 10 apply Exists.intro
  repeat (first
    | (refine Any.E_off rfl ?_; simp only [Act.put, List.setIfInBounds_toArray, List.set_cons_succ, List.set_cons_zero])
    | (apply Any.E_pureq rfl rfl rfl
       case h => intro K hK; go_big_quiet_op; (refine hK _ ?_; rfl)
       case hr => exact fun _ => rfl
       simp only [Act.put, List.setIfInBounds_toArray, List.set_cons_succ, List.set_cons_zero])
    | (apply Any.E_val rfl rfl rfl rfl
       case h =>
         intro E' hA K hK
         first
           | ((with_reducible refine Any.at_qload (T := 25) ?_); refine Any.q_ldv 1005 hA (by decide) rfl rfl 1 _ Try.underlying25 rfl infoM (by decide) rfl ?_; refine hK _ ?_; rfl)
           | ((with_reducible refine Any.at_qload (T := 3) ?_); refine Any.q_ldc 1004 hA (by decide) rfl rfl _ Try.underlying3 rfl (.int .i64 (base : Nat)) rfl ?_; refine hK _ ?_; rfl)
           | ((with_reducible refine Any.at_qload (T := 3) ?_); refine Any.q_ldc 1003 hA (by decide) rfl rfl _ Try.underlying3 rfl (.int .i64 (n : Nat)) rfl ?_; refine hK _ ?_; rfl)
           | ((with_reducible refine Any.at_qload (T := 27) ?_); refine Any.q_ldc 1002 hA (by decide) rfl rfl _ Try.underlying27 rfl (.int .u16 (i : Nat)) rfl ?_; refine hK _ ?_; rfl)
           | (go_big_quiet_op; first
             | (refine hK _ ?_; rfl)
             | (refine ⟨_, fun _ _ => rfl, ?_⟩; refine hK _ ?_; rfl)
             | (apply Exists.intro; refine ⟨fun w1 hw1 => ?_, ?_⟩; · (first
                 | (go_at_call 55; exact Any.calls_VE (HAV.out _) hw1)
                 | (go_at_call 56; exact Any.calls_VE (HPL.out _) hw1))
                refine hK _ ?_; rfl))
       case hD => rfl
       simp only [Act.put, List.setIfInBounds_toArray, List.set_cons_succ, List.set_cons_zero])
    | ((with_reducible refine Any.at_ealloc ?_); refine Any.E_lay rfl rfl rfl (fun _ => rfl) ?_; intro B; simp only [Act.put, List.setIfInBounds_toArray, List.set_cons_succ, List.set_cons_zero]))
  try any_goals exact undef
  refine Any.E_nil ?_
  intro w9 hE9
  replace hv : Mem w0 w9 ([(b10, #[.slice none 0 0]), (b9, #[.int .i64 (first : Nat)]), (b8, #[.int .u16 (i : Nat)]), (b7, #[.int .i64 (n : Nat)]), (b6, #[.int .i64 (base : Nat)]), (b5, #[(.slice (some ⟨mb, mo, none⟩) mn mc)])] ++ L) _ := hE9.memr (L1 := [(b10, #[.slice none 0 0]), (b9, #[.int .i64 (first : Nat)]), (b8, #[.int .u16 (i : Nat)]), (b7, #[.int .i64 (n : Nat)]), (b6, #[.int .i64 (base : Nat)]), (b5, #[(.slice (some ⟨mb, mo, none⟩) mn mc)])]) hv [1000, 1001, 1002, 1003, 1004, 1005] (by decide)
  clear hE9
  refine Any.wpOp_callv rfl rfl (Go.Proofs.enters_of Try.func54 (by kernel_rfl) rfl) rfl [(.agg #[(.slice (some ⟨mb, mo, none⟩) mn mc)]), .int .i64 (base : Nat), .int .i64 (n : Nat), .int .i64 (s : Nat), .func (.func 57) #[] #[.pointer (some ⟨b9, 0, none⟩), .pointer (some ⟨b6, 0, none⟩), .pointer (some ⟨b7, 0, none⟩), .pointer (some ⟨b8, 0, none⟩), .pointer (some ⟨b5, 0, none⟩)]] rfl ?_
  refine (reading_M hv HM.out base n s HN.out HB.out HP.out (Go.Proofs.enters_of Try.func57 (by kernel_rfl) rfl) (cap := #[.pointer (some ⟨b9, 0, none⟩), .pointer (some ⟨b6, 0, none⟩), .pointer (some ⟨b7, 0, none⟩), .pointer (some ⟨b8, 0, none⟩), .pointer (some ⟨b5, 0, none⟩)]) (Post := fun w' => ∃ b c R', Mem w0 w' ((b10, #[.slice none 0 0]) :: (b5, #[.slice (some ⟨b, 0, none⟩) mn c]) :: L) R' ∧ InM R' b 0 mn c M2 ∧ ∀ x ∈ R, x ∈ R') (fun bF w1 hv1 => HCL.out bF w1 _ _ _ _ _ _ hv1)).mono ?_
  rintro e w1 ⟨rfl, vb, vc, R1, hv1, hi1, hs1⟩
  replace hv := hv1
  have HI1 := Lib.hid hi1
  have HS1 := Lib.hid hs1
  clear hv1 hi1 hs1
  refine ⟨_, rfl, ?_⟩
  have hv0 := hv
  clear hv
  have hv : Mem w0 _ ([(b10, #[.slice none 0 0]), (b5, #[(.slice (some ⟨vb, 0, none⟩) mn vc)])] ++ L) _ := hv0
  clear hv0
  refine Any.wpAny_rest 11 [⟨[], none⟩] [.val] (by kernel_rfl) (hv.vars.keep (List.sublist_append_left [(b10, #[.slice none 0 0]), (b5, #[(.slice (some ⟨vb, 0, none⟩) mn vc)])] L)) ?_
  simp only [List.length_cons, List.length_nil, Nat.zero_add, Nat.reduceAdd, Nat.reduceSub, Any.someVals, List.drop_succ_cons, List.drop_zero]
  simp only [Act.put, List.setIfInBounds_toArray, List.set_cons_succ, List.set_cons_zero]
  iterate 1 apply Exists.intro
  repeat (first
    | (refine Any.E_off rfl ?_; simp only [Act.put, List.setIfInBounds_toArray, List.set_cons_succ, List.set_cons_zero])
    | (apply Any.E_pureq rfl rfl rfl
       case h => intro K hK; go_big_quiet_op; (refine hK _ ?_; rfl)
       case hr => exact fun _ => rfl
       simp only [Act.put, List.setIfInBounds_toArray, List.set_cons_succ, List.set_cons_zero])
    | (apply Any.E_val rfl rfl rfl rfl
       case h =>
         intro E' hA K hK
         first
           | ((with_reducible refine Any.at_qload (T := 25) ?_); refine Any.q_ldv 1005 hA (by decide) rfl rfl 1 _ Try.underlying25 rfl infoM (by decide) rfl ?_; refine hK _ ?_; rfl)
           | ((with_reducible refine Any.at_qload (T := 3) ?_); refine Any.q_ldc 1004 hA (by decide) rfl rfl _ Try.underlying3 rfl (.int .i64 (base : Nat)) rfl ?_; refine hK _ ?_; rfl)
           | ((with_reducible refine Any.at_qload (T := 3) ?_); refine Any.q_ldc 1003 hA (by decide) rfl rfl _ Try.underlying3 rfl (.int .i64 (n : Nat)) rfl ?_; refine hK _ ?_; rfl)
           | ((with_reducible refine Any.at_qload (T := 27) ?_); refine Any.q_ldc 1002 hA (by decide) rfl rfl _ Try.underlying27 rfl (.int .u16 (i : Nat)) rfl ?_; refine hK _ ?_; rfl)
           | (go_big_quiet_op; first
             | (refine hK _ ?_; rfl)
             | (refine ⟨_, fun _ _ => rfl, ?_⟩; refine hK _ ?_; rfl)
             | (apply Exists.intro; refine ⟨fun w1 hw1 => ?_, ?_⟩; · (first
                 | (go_at_call 55; exact Any.calls_VE (HAV.out _) hw1)
                 | (go_at_call 56; exact Any.calls_VE (HPL.out _) hw1))
                refine hK _ ?_; rfl))
       case hD => rfl
       simp only [Act.put, List.setIfInBounds_toArray, List.set_cons_succ, List.set_cons_zero])
    | ((with_reducible refine Any.at_ealloc ?_); refine Any.E_lay rfl rfl rfl (fun _ => rfl) ?_; intro B; simp only [Act.put, List.setIfInBounds_toArray, List.set_cons_succ, List.set_cons_zero]))
  try any_goals exact undef
  refine Any.E_nil ?_
  intro w9 hE9
  replace hv : Mem w0 w9 ([(b10, #[.slice none 0 0]), (b5, #[(.slice (some ⟨vb, 0, none⟩) mn vc)])] ++ L) _ := hE9.memr0 (L1 := [(b10, #[.slice none 0 0]), (b5, #[(.slice (some ⟨vb, 0, none⟩) mn vc)])]) hv [1000, 1001] (by decide)
  clear hE9
  simp only [List.cons_append, List.nil_append] at hv
  go_wp2_with (first
    | ((with_reducible refine at_load (T := 25) ?_); refine wl_ldv rfl b5 rfl _ (hv.vars.row (by first | exact .head _ | exact .tail _ (.head _) | exact .tail _ (.tail _ (.head _)) | exact .tail _ (.tail _ (.tail _ (.head _))) | exact .tail _ (.tail _ (.tail _ (.tail _ (.head _)))) | exact .tail _ (.tail _ (.tail _ (.tail _ (.tail _ (.head _))))) | exact .tail _ (.tail _ (.tail _ (.tail _ (.tail _ (.tail _ (.head _)))))) | exact .tail _ (.tail _ (.tail _ (.tail _ (.tail _ (.tail _ (.tail _ (.head _))))))))) 1 _ Try.underlying25 rfl infoM (by decide) rfl ?_)
    | ((with_reducible refine at_store (T := 25) ?_); refine wl_stv rfl b10 rfl _ rfl _ (hv.vars.row (by first | exact .head _ | exact .tail _ (.head _) | exact .tail _ (.tail _ (.head _)) | exact .tail _ (.tail _ (.tail _ (.head _))) | exact .tail _ (.tail _ (.tail _ (.tail _ (.head _)))) | exact .tail _ (.tail _ (.tail _ (.tail _ (.tail _ (.head _))))) | exact .tail _ (.tail _ (.tail _ (.tail _ (.tail _ (.tail _ (.head _)))))) | exact .tail _ (.tail _ (.tail _ (.tail _ (.tail _ (.tail _ (.tail _ (.head _))))))))) (hv.vars.sft (by first | exact .head _ | exact .tail _ (.head _) | exact .tail _ (.tail _ (.head _)) | exact .tail _ (.tail _ (.tail _ (.head _))) | exact .tail _ (.tail _ (.tail _ (.tail _ (.head _)))) | exact .tail _ (.tail _ (.tail _ (.tail _ (.tail _ (.head _))))) | exact .tail _ (.tail _ (.tail _ (.tail _ (.tail _ (.tail _ (.head _)))))) | exact .tail _ (.tail _ (.tail _ (.tail _ (.tail _ (.tail _ (.tail _ (.head _))))))))) 1 infoM rfl rfl (by simp [Value.oneCell']) ?_; intro w2 hw2; (first | (replace hv := hv.set 0 rfl hw2) | (replace hv := hv.set 1 rfl hw2) | (replace hv := hv.set 2 rfl hw2) | (replace hv := hv.set 3 rfl hw2) | (replace hv := hv.set 4 rfl hw2) | (replace hv := hv.set 5 rfl hw2) | (replace hv := hv.set 6 rfl hw2) | (replace hv := hv.set 7 rfl hw2)); clear hw2; simp only [List.set] at hv))
  try simp only [Exit.inBlock, Exit.then]
  refine ret_cell2 (v := .agg #[(.slice (some ⟨vb, 0, none⟩) mn vc)]) (v1 := .int .i64 0) rfl rfl (read_row _ b10 25 _ (hv.vars.row (b := b10) (by first | exact .head _ | exact .tail _ (.head _) | exact .tail _ (.tail _ (.head _)) | exact .tail _ (.tail _ (.tail _ (.head _))) | exact .tail _ (.tail _ (.tail _ (.tail _ (.head _)))) | exact .tail _ (.tail _ (.tail _ (.tail _ (.tail _ (.head _))))) | exact .tail _ (.tail _ (.tail _ (.tail _ (.tail _ (.tail _ (.head _)))))) | exact .tail _ (.tail _ (.tail _ (.tail _ (.tail _ (.tail _ (.tail _ (.head _))))))))) 1 _ Try.underlying25 rfl infoM (by decide) rfl) rfl rfl ?_
  exact ⟨vb, vc, R1, rfl, hv.drop.drop, HI1.out, HS1.out⟩
set_option maxRecDepth 100000 in
set_option maxHeartbeats 16000000 in
theorem RetC {b5 b6 b7 b8 b9 b10 id len n i base : Nat} {z10 : Array Value} {v0 : Value} {w0 w : World} {L : List (Nat × Array Value)} {R : List (Nat × Value × List Value)} {bF mb mo mn mc : Nat} {M : List Nat} (hn : okN n) (hb : base + sizeN n ≤ mn) (hi : i < 65536) (hf : id < 4294967296) (hf2 : len < 4294967296)
    (hv : Mem w0 w ((bF, #[(.slice (some ⟨mb, mo, none⟩) mn mc), .int .i64 ((base + (backN n + (4 + 8 * (i % n)))) : Nat)]) :: (b10, z10) :: (b9, #[.int .u32 (id : Nat), .int .u32 (len : Nat)]) :: (b8, #[.int .u16 (i : Nat)]) :: (b7, #[.int .i64 (n : Nat)]) :: (b6, #[.int .i64 (base : Nat)]) :: (b5, #[v0]) :: L) R) (hm : InM R mb mo mn mc M) :
    Calls Try.prog 64 #[.pointer (some ⟨bF, 0, none⟩), .pointer (some ⟨b9, 0, none⟩), .pointer (some ⟨b6, 0, none⟩), .pointer (some ⟨b7, 0, none⟩), .pointer (some ⟨b8, 0, none⟩), .pointer (some ⟨b5, 0, none⟩)] w fun e w' => e = .returned (.tuple #[]) ∧ ∃ b c R', Mem w0 w' ((b10, z10) :: (b5, #[.slice (some ⟨b, 0, none⟩) mn c]) :: L) R' ∧ InM R' b 0 mn c (returnM M base n i id len) ∧ ∀ x ∈ R, x ∈ R' := by
  have HM := Lib.hid hm
  have HSUB : Hid (∀ x ∈ R, x ∈ R) := Lib.hid (fun x hx => hx)
  have hbnd := used_bnd (i := i) hn
  obtain ⟨av, hav⟩ : ∃ av, backN n = av := ⟨_, rfl⟩
  have HAV : Hid (∀ w, Calls Try.prog 46 #[.int .i64 (n : Nat)] w fun e w' => e = .returned (.int .i64 (av : Nat)) ∧ New w w') := Lib.hid (fun w => by have := back_ok n hn w; rw [hav] at this; exact this)
  have hav2 : av + 12 ≤ sizeN n := by have := hbnd.1; omega
  have HNX : Hid (base + av + 2 + 2 ≤ mn) := Lib.hid (by omega)
  unfold returnM
  rw [hav] at hv hbnd ⊢
  obtain ⟨p, hp⟩ : ∃ p, base + (av + (4 + 8 * (i % n))) = p := ⟨_, rfl⟩
  rw [hp] at hv ⊢
  have P1 : Hid (p + 4 ≤ mn) := Lib.hid (by rw [← hp]; have := hbnd.1; omega)
  have P2 : Hid (p + 4 + 4 ≤ mn) := Lib.hid (by rw [← hp]; have := hbnd.1; omega)
  have A1 : Hid (id < 18446744073709551616) := Lib.hid (by omega)
  have A2 : Hid (len < 18446744073709551616) := Lib.hid (by omega)
  have q1 : IntKind.u64.wrap (id : Int) = (id : Int) := wrap_u64 (by omega)
  have q2 : IntKind.u64.wrap (len : Int) = (len : Int) := wrap_u64 (by omega)
  clear hn hb hi hf hf2 hbnd hav hav2 hp hm
  go_enter Try.func64, Try.ntmps64
  go_wp2_with (first
    | ((with_reducible refine at_load (T := 94) ?_); refine wl_ldc rfl b9 0 rfl _ (hv.vars.row (by first | exact .head _ | exact .tail _ (.head _) | exact .tail _ (.tail _ (.head _)) | exact .tail _ (.tail _ (.tail _ (.head _))) | exact .tail _ (.tail _ (.tail _ (.tail _ (.head _)))) | exact .tail _ (.tail _ (.tail _ (.tail _ (.tail _ (.head _))))) | exact .tail _ (.tail _ (.tail _ (.tail _ (.tail _ (.tail _ (.head _)))))) | exact .tail _ (.tail _ (.tail _ (.tail _ (.tail _ (.tail _ (.tail _ (.head _))))))))) _ Try.underlying94 rfl (.int .u32 (id : Nat)) rfl ?_)
    | ((with_reducible refine at_load (T := 94) ?_); refine wl_ldc rfl b9 1 rfl _ (hv.vars.row (by first | exact .head _ | exact .tail _ (.head _) | exact .tail _ (.tail _ (.head _)) | exact .tail _ (.tail _ (.tail _ (.head _))) | exact .tail _ (.tail _ (.tail _ (.tail _ (.head _)))) | exact .tail _ (.tail _ (.tail _ (.tail _ (.tail _ (.head _))))) | exact .tail _ (.tail _ (.tail _ (.tail _ (.tail _ (.tail _ (.head _)))))) | exact .tail _ (.tail _ (.tail _ (.tail _ (.tail _ (.tail _ (.tail _ (.head _))))))))) _ Try.underlying94 rfl (.int .u32 (len : Nat)) rfl ?_)
    | (go_at_call 58; (with_reducible refine (put_4 hv HM.out id A1.out P1.out).mono ?_); rintro e w1 ⟨rfl, vb, vc, R1, hv1, hi1, hs1⟩; replace hv := hv1; replace HM := Lib.hid hi1; replace HSUB := Lib.hid (fun x hx => hs1 x (HSUB.out x hx)); clear hv1 hi1 hs1)
    | (go_at_call 58; (with_reducible refine (put_4 hv HM.out len A2.out P2.out).mono ?_); rintro e w1 ⟨rfl, vb, vc, R1, hv1, hi1, hs1⟩; replace hv := hv1; replace HM := Lib.hid hi1; replace HSUB := Lib.hid (fun x hx => hs1 x (HSUB.out x hx)); clear hv1 hi1 hs1))
  have hv0 := hv
  clear hv
  have hv : Mem w0 _ ([(bF, #[.slice (some ⟨vb, 0, none⟩) mn vc, .int .i64 ((p + 4 + 4) : Nat)]), (b10, z10), (b9, #[.int .u32 (id : Nat), .int .u32 (len : Nat)]), (b8, #[.int .u16 (i : Nat)]), (b7, #[.int .i64 (n : Nat)]), (b6, #[.int .i64 (base : Nat)])] ++ ((b5, #[v0]) :: L)) _ := hv0
  clear hv0
  refine Any.wp_region_cut 5 [⟨[], none⟩, ⟨[1005], none⟩, ⟨[1004], none⟩, ⟨[], none⟩, ⟨[1003], none⟩, ⟨[], none⟩] [.val, .val, .val, .val, .val] (by kernel_rfl) (by kernel_rfl) (hv.vars.keep (List.sublist_append_left [(bF, #[.slice (some ⟨vb, 0, none⟩) mn vc, .int .i64 ((p + 4 + 4) : Nat)]), (b10, z10), (b9, #[.int .u32 (id : Nat), .int .u32 (len : Nat)]), (b8, #[.int .u16 (i : Nat)]), (b7, #[.int .i64 (n : Nat)]), (b6, #[.int .i64 (base : Nat)])] ((b5, #[v0]) :: L))) ?_
  simp only [Any.someVals, List.take_succ_cons, List.take_zero]
  iterate 5 apply Exists.intro
  repeat (first
    | (refine Any.E_off rfl ?_; simp only [Act.put, List.setIfInBounds_toArray, List.set_cons_succ, List.set_cons_zero])
    | (apply Any.E_pureq rfl rfl rfl
       case h => intro K hK; go_big_quiet_op; (refine hK _ ?_; rfl)
       case hr => exact fun _ => rfl
       simp only [Act.put, List.setIfInBounds_toArray, List.set_cons_succ, List.set_cons_zero])
    | (apply Any.E_val rfl rfl rfl rfl
       case h =>
         intro E' hA K hK
         first
           | ((with_reducible refine Any.at_qload (T := 3) ?_); refine Any.q_ldc 1005 hA (by decide) rfl rfl _ Try.underlying3 rfl (.int .i64 (base : Nat)) rfl ?_; refine hK _ ?_; rfl)
           | ((with_reducible refine Any.at_qload (T := 3) ?_); refine Any.q_ldc 1004 hA (by decide) rfl rfl _ Try.underlying3 rfl (.int .i64 (n : Nat)) rfl ?_; refine hK _ ?_; rfl)
           | ((with_reducible refine Any.at_qload (T := 27) ?_); refine Any.q_ldc 1003 hA (by decide) rfl rfl _ Try.underlying27 rfl (.int .u16 (i : Nat)) rfl ?_; refine hK _ ?_; rfl)
           | (go_big_quiet_op; first
             | (refine hK _ ?_; rfl)
             | (refine ⟨_, fun _ _ => rfl, ?_⟩; refine hK _ ?_; rfl)
             | (apply Exists.intro; refine ⟨fun w1 hw1 => ?_, ?_⟩; · (first
                 | (go_at_call 46; exact Any.calls_VE (HAV.out _) hw1))
                refine hK _ ?_; rfl))
       case hD => rfl
       simp only [Act.put, List.setIfInBounds_toArray, List.set_cons_succ, List.set_cons_zero])
    | ((with_reducible refine Any.at_ealloc ?_); refine Any.E_lay rfl rfl rfl (fun _ => rfl) ?_; intro B; simp only [Act.put, List.setIfInBounds_toArray, List.set_cons_succ, List.set_cons_zero]))
  try any_goals exact undef
  refine Any.E_nil ?_
  intro w9 hE9
  replace hv : Mem w0 w9 ([(bF, #[.slice (some ⟨vb, 0, none⟩) mn vc, .int .i64 ((p + 4 + 4) : Nat)]), (b10, z10), (b9, #[.int .u32 (id : Nat), .int .u32 (len : Nat)]), (b8, #[.int .u16 (i : Nat)]), (b7, #[.int .i64 (n : Nat)]), (b6, #[.int .i64 (base : Nat)])] ++ ((b5, #[v0]) :: L)) _ := hE9.memr (L1 := [(bF, #[.slice (some ⟨vb, 0, none⟩) mn vc, .int .i64 ((p + 4 + 4) : Nat)]), (b10, z10), (b9, #[.int .u32 (id : Nat), .int .u32 (len : Nat)]), (b8, #[.int .u16 (i : Nat)]), (b7, #[.int .i64 (n : Nat)]), (b6, #[.int .i64 (base : Nat)])]) hv [1000, 1001, 1002, 1003, 1004, 1005] (by decide)
  clear hE9
  refine Any.wpOp_callv rfl rfl (Go.Proofs.enters_of Try.func59 (by kernel_rfl) rfl) rfl [.pointer (some ⟨bF, 0, none⟩), .int .i64 (base : Nat), .int .i64 (av : Nat), .int .u16 (i : Nat)] rfl ?_
  refine (next_M hv HM.out base av i HNX.out).mono ?_
  rintro e w1 ⟨rfl, vb, vc, R1, hv1, hi1, hs1⟩
  replace hv := hv1
  replace HM := Lib.hid hi1
  replace HSUB := Lib.hid (fun x hx => hs1 x (HSUB.out x hx))
  clear hv1 hi1 hs1
  refine ⟨_, rfl, ?_⟩
  have hv0 := hv
  clear hv
  have hv : Mem w0 _ ([(bF, #[.slice (some ⟨vb, 0, none⟩) mn vc, .int .i64 ((base + av + 2 + 2 : Nat) : Int)]), (b10, z10), (b9, #[.int .u32 (id : Nat), .int .u32 (len : Nat)]), (b8, #[.int .u16 (i : Nat)]), (b7, #[.int .i64 (n : Nat)]), (b6, #[.int .i64 (base : Nat)])] ++ ((b5, #[v0]) :: L)) _ := hv0
  clear hv0
  refine Any.wpAny_rest 6 [] [] (by kernel_rfl) (hv.vars.keep (List.sublist_append_left [(bF, #[.slice (some ⟨vb, 0, none⟩) mn vc, .int .i64 ((base + av + 2 + 2 : Nat) : Int)]), (b10, z10), (b9, #[.int .u32 (id : Nat), .int .u32 (len : Nat)]), (b8, #[.int .u16 (i : Nat)]), (b7, #[.int .i64 (n : Nat)]), (b6, #[.int .i64 (base : Nat)])] ((b5, #[v0]) :: L))) ?_
  simp only [List.length_cons, List.length_nil, Nat.zero_add, Nat.reduceAdd, Nat.reduceSub, Any.someVals, List.drop_succ_cons, List.drop_zero]
  simp only [Act.put, List.setIfInBounds_toArray, List.set_cons_succ, List.set_cons_zero]
  iterate 0 apply Exists.intro
  repeat (first
    | (refine Any.E_off rfl ?_; simp only [Act.put, List.setIfInBounds_toArray, List.set_cons_succ, List.set_cons_zero])
    | (apply Any.E_pureq rfl rfl rfl
       case h => intro K hK; go_big_quiet_op; (refine hK _ ?_; rfl)
       case hr => exact fun _ => rfl
       simp only [Act.put, List.setIfInBounds_toArray, List.set_cons_succ, List.set_cons_zero])
    | (apply Any.E_val rfl rfl rfl rfl
       case h =>
         intro E' hA K hK
         first
           | ((with_reducible refine Any.at_qload (T := 3) ?_); refine Any.q_ldc 1005 hA (by decide) rfl rfl _ Try.underlying3 rfl (.int .i64 (base : Nat)) rfl ?_; refine hK _ ?_; rfl)
           | ((with_reducible refine Any.at_qload (T := 3) ?_); refine Any.q_ldc 1004 hA (by decide) rfl rfl _ Try.underlying3 rfl (.int .i64 (n : Nat)) rfl ?_; refine hK _ ?_; rfl)
           | ((with_reducible refine Any.at_qload (T := 27) ?_); refine Any.q_ldc 1003 hA (by decide) rfl rfl _ Try.underlying27 rfl (.int .u16 (i : Nat)) rfl ?_; refine hK _ ?_; rfl)
           | (go_big_quiet_op; first
             | (refine hK _ ?_; rfl)
             | (refine ⟨_, fun _ _ => rfl, ?_⟩; refine hK _ ?_; rfl)
             | (apply Exists.intro; refine ⟨fun w1 hw1 => ?_, ?_⟩; · (first
                 | (go_at_call 46; exact Any.calls_VE (HAV.out _) hw1))
                refine hK _ ?_; rfl))
       case hD => rfl
       simp only [Act.put, List.setIfInBounds_toArray, List.set_cons_succ, List.set_cons_zero])
    | ((with_reducible refine Any.at_ealloc ?_); refine Any.E_lay rfl rfl rfl (fun _ => rfl) ?_; intro B; simp only [Act.put, List.setIfInBounds_toArray, List.set_cons_succ, List.set_cons_zero]))
  try any_goals exact undef
  refine Any.E_nil ?_
  intro w9 hE9
  replace hv : Mem w0 w9 ([(bF, #[.slice (some ⟨vb, 0, none⟩) mn vc, .int .i64 ((base + av + 2 + 2 : Nat) : Int)]), (b10, z10), (b9, #[.int .u32 (id : Nat), .int .u32 (len : Nat)]), (b8, #[.int .u16 (i : Nat)]), (b7, #[.int .i64 (n : Nat)]), (b6, #[.int .i64 (base : Nat)])] ++ ((b5, #[v0]) :: L)) _ := hE9.memr0 (L1 := [(bF, #[.slice (some ⟨vb, 0, none⟩) mn vc, .int .i64 ((base + av + 2 + 2 : Nat) : Int)]), (b10, z10), (b9, #[.int .u32 (id : Nat), .int .u32 (len : Nat)]), (b8, #[.int .u16 (i : Nat)]), (b7, #[.int .i64 (n : Nat)]), (b6, #[.int .i64 (base : Nat)])]) hv [1000, 1001, 1002, 1003, 1004, 1005] (by decide)
  clear hE9
  simp only [List.cons_append, List.nil_append] at hv
  go_wp2_with (first
    | ((with_reducible refine at_load (T := 25) ?_); refine wl_ldp rfl bF 0 rfl _ (hv.vars.row (by first | exact .head _ | exact .tail _ (.head _) | exact .tail _ (.tail _ (.head _)) | exact .tail _ (.tail _ (.tail _ (.head _))) | exact .tail _ (.tail _ (.tail _ (.tail _ (.head _)))) | exact .tail _ (.tail _ (.tail _ (.tail _ (.tail _ (.head _))))) | exact .tail _ (.tail _ (.tail _ (.tail _ (.tail _ (.tail _ (.head _)))))) | exact .tail _ (.tail _ (.tail _ (.tail _ (.tail _ (.tail _ (.tail _ (.head _))))))))) 1 _ Try.underlying25 rfl infoM (by decide) (by show 0 + 1 ≤ 2; decide) #[.slice (some ⟨vb, 0, none⟩) mn vc] rfl ?_)
    | ((with_reducible refine at_store (T := 25) ?_); refine wl_stv rfl b5 rfl _ rfl _ (hv.vars.row (by first | exact .head _ | exact .tail _ (.head _) | exact .tail _ (.tail _ (.head _)) | exact .tail _ (.tail _ (.tail _ (.head _))) | exact .tail _ (.tail _ (.tail _ (.tail _ (.head _)))) | exact .tail _ (.tail _ (.tail _ (.tail _ (.tail _ (.head _))))) | exact .tail _ (.tail _ (.tail _ (.tail _ (.tail _ (.tail _ (.head _)))))) | exact .tail _ (.tail _ (.tail _ (.tail _ (.tail _ (.tail _ (.tail _ (.head _))))))))) (hv.vars.sft (by first | exact .head _ | exact .tail _ (.head _) | exact .tail _ (.tail _ (.head _)) | exact .tail _ (.tail _ (.tail _ (.head _))) | exact .tail _ (.tail _ (.tail _ (.tail _ (.head _)))) | exact .tail _ (.tail _ (.tail _ (.tail _ (.tail _ (.head _))))) | exact .tail _ (.tail _ (.tail _ (.tail _ (.tail _ (.tail _ (.head _)))))) | exact .tail _ (.tail _ (.tail _ (.tail _ (.tail _ (.tail _ (.tail _ (.head _))))))))) 1 infoM rfl rfl (by simp [Value.oneCell']) ?_; intro w2 hw2; (first | (replace hv := hv.set 0 rfl hw2) | (replace hv := hv.set 1 rfl hw2) | (replace hv := hv.set 2 rfl hw2) | (replace hv := hv.set 3 rfl hw2) | (replace hv := hv.set 4 rfl hw2) | (replace hv := hv.set 5 rfl hw2) | (replace hv := hv.set 6 rfl hw2) | (replace hv := hv.set 7 rfl hw2)); clear hw2; simp only [List.set] at hv))
  go_end0
  exact ⟨rfl, vb, vc, R1, hv.keep (sub_off _ _ _ _ _ _ _ L), HM.out, HSUB.out⟩
set_option maxRecDepth 100000 in
set_option maxHeartbeats 16000000 in
theorem Return_M {w0 w : World} {L : List (Nat × Array Value)} {R : List (Nat × Value × List Value)} {mb mo mn mc : Nat} {M : List Nat} (hv : Mem w0 w L R) (hm : InM R mb mo mn mc M) (base n i : Nat) (hn : okN n) (hb : base + sizeN n ≤ mn) (hi : i < 65536) {id len : Nat} (hf : id < 4294967296) (hf2 : len < 4294967296) :
    Calls Try.prog 38 #[(.agg #[(.slice (some ⟨mb, mo, none⟩) mn mc)]), .int .i64 (base : Nat), .int .i64 (n : Nat), .int .u16 (i : Nat), .agg #[.int .u32 (id : Nat), .int .u32 (len : Nat)]] w fun e w' => ∃ b c R', e = .returned (.tuple #[.agg #[.slice (some ⟨b, 0, none⟩) mn c], .int .i64 0]) ∧ Mem w0 w' L R' ∧ InM R' b 0 mn c (returnM M base n i id len) ∧ ∀ x ∈ R, x ∈ R' := by
  have HM := Lib.hid hm
  have HN := Lib.hid hn
  have HB := Lib.hid hb
  have hm8 := hm.most
  obtain ⟨M2, hM2⟩ : ∃ M2, (returnM M base n i id len) = M2 := ⟨_, rfl⟩
  rw [hM2]
  have hcl0 : ∀ (bF : Nat) (w1 : World) (b5 b6 b7 b8 b9 b10 : Nat), Mem w0 w1 ((bF, #[(.slice (some ⟨mb, mo, none⟩) mn mc), .int .i64 ((base + (backN n + (4 + 8 * (i % n))) : Nat) : Int)]) :: (b10, #[.slice none 0 0]) :: (b9, #[.int .u32 (id : Nat), .int .u32 (len : Nat)]) :: (b8, #[.int .u16 (i : Nat)]) :: (b7, #[.int .i64 (n : Nat)]) :: (b6, #[.int .i64 (base : Nat)]) :: (b5, #[(.slice (some ⟨mb, mo, none⟩) mn mc)]) :: L) R → Calls Try.prog 64 #[.pointer (some ⟨bF, 0, none⟩), .pointer (some ⟨b9, 0, none⟩), .pointer (some ⟨b6, 0, none⟩), .pointer (some ⟨b7, 0, none⟩), .pointer (some ⟨b8, 0, none⟩), .pointer (some ⟨b5, 0, none⟩)] w1 fun e w' => e = .returned (.tuple #[]) ∧ ∃ b c R', Mem w0 w' ((b10, #[.slice none 0 0]) :: (b5, #[.slice (some ⟨b, 0, none⟩) mn c]) :: L) R' ∧ InM R' b 0 mn c M2 ∧ ∀ x ∈ R, x ∈ R' := fun bF w1 b5 b6 b7 b8 b9 b10 h => by
    have := RetC hn hb hi hf hf2 h hm
    rw [hM2] at this
    exact this
  have hbnd := used_bnd (i := i) hn
  obtain ⟨av, hav⟩ : ∃ av, backN n = av := ⟨_, rfl⟩
  have HAV : Hid (∀ w, Calls Try.prog 46 #[.int .i64 (n : Nat)] w fun e w' => e = .returned (.int .i64 (av : Nat)) ∧ New w w') := Lib.hid (fun w => by have := back_ok n HN.out w; rw [hav] at this; exact this)
  obtain ⟨pl, hpl⟩ : ∃ pl, 4 + 8 * (i % n) = pl := ⟨_, rfl⟩
  have HPL : Hid (∀ w, Calls Try.prog 56 #[.int .i64 (n : Nat), .int .u16 (i : Nat), .int .i64 8] w fun e w' => e = .returned (.int .i64 (pl : Nat)) ∧ New w w') := Lib.hid (fun w => by have := place_ok n i 8 HN.out hi (by decide) w; rw [hpl] at this; exact this)
  obtain ⟨s, hs⟩ : ∃ s, av + pl = s := ⟨_, rfl⟩
  rw [hav, hpl, hs] at hcl0 hbnd
  have HCL := Lib.hid hcl0
  have hs9 : s ≤ 1000000 := Nat.le_trans (Nat.le_trans (Nat.le_add_right _ _) hbnd.1) (Nat.le_trans hbnd.2 (by decide))
  have q1 : IntKind.i64.wrap ((av : Int) + (pl : Int)) = (s : Int) := sum_i64 hs hs9
  have q3 : wrap64 ((av : Int) + (pl : Int)) = (s : Int) := sum_w64 hs hs9
  have HH : Hid (base + s + 8 ≤ mn) := Lib.hid (by rw [Nat.add_assoc]; exact Nat.le_trans (Nat.add_le_add_left hbnd.1 base) hb)
  have HP : Hid (base + s ≤ 100000) := Lib.hid (Nat.le_trans (Nat.le_trans (Nat.le_add_right _ _) HH.out) (Nat.le_trans hm8 (by decide)))
  clear hn hb hi hm8 hM2 hcl0 hbnd hav hpl hs hs9 hm
  go_enter Try.func38, Try.ntmps38
  go_wp2_with (first
    | ((with_reducible refine at_box (T := 25) (dst := some 5) ?_); refine wl_newb rfl #[(.slice (some ⟨mb, mo, none⟩) mn mc)] 25 (fun _ => rfl) ?_; intro b5 w2 hm2; replace hv := hv.madeAt hm2; clear hm2)
    | ((with_reducible refine at_box (T := 3) (dst := some 6) ?_); refine wl_newb rfl #[.int .i64 (base : Nat)] 3 (fun _ => rfl) ?_; intro b6 w2 hm2; replace hv := hv.madeAt hm2; clear hm2)
    | ((with_reducible refine at_box (T := 3) (dst := some 7) ?_); refine wl_newb rfl #[.int .i64 (n : Nat)] 3 (fun _ => rfl) ?_; intro b7 w2 hm2; replace hv := hv.madeAt hm2; clear hm2)
    | ((with_reducible refine at_box (T := 27) (dst := some 8) ?_); refine wl_newb rfl #[.int .u16 (i : Nat)] 27 (fun _ => rfl) ?_; intro b8 w2 hm2; replace hv := hv.madeAt hm2; clear hm2)
    | ((with_reducible refine at_box (T := 101) (dst := some 9) ?_); refine wl_newb rfl #[.int .u32 (id : Nat), .int .u32 (len : Nat)] 101 (fun _ => rfl) ?_; intro b9 w2 hm2; replace hv := hv.madeAt hm2; clear hm2)
    | ((with_reducible refine at_alloc (T := 25) (dst := some 10) ?_); refine wl_newb rfl #[.slice none 0 0] 25 (fun _ => rfl) ?_; intro b10 w2 hm2; replace hv := hv.madeAt hm2; clear hm2))
  have hv0 := hv
  clear hv
  have hv : Mem w0 _ ([(b10, #[.slice none 0 0]), (b9, #[.int .u32 (id : Nat), .int .u32 (len : Nat)]), (b8, #[.int .u16 (i : Nat)]), (b7, #[.int .i64 (n : Nat)]), (b6, #[.int .i64 (base : Nat)]), (b5, #[(.slice (some ⟨mb, mo, none⟩) mn mc)])] ++ L) _ := hv0
  clear hv0
  refine Any.wp_region_cut 10 [⟨[1005], none⟩, ⟨[1004], none⟩, ⟨[1003], none⟩, ⟨[1003], none⟩, ⟨[], none⟩, ⟨[1003], none⟩, ⟨[1002], none⟩, ⟨[], none⟩, ⟨[], none⟩, ⟨[], none⟩, ⟨[], none⟩, ⟨[], none⟩] [.val, .val, .val, .val, .val, .val, .val, .val, .val, .val] (by kernel_rfl) (by kernel_rfl) (hv.vars.keep (List.sublist_append_left [(b10, #[.slice none 0 0]), (b9, #[.int .u32 (id : Nat), .int .u32 (len : Nat)]), (b8, #[.int .u16 (i : Nat)]), (b7, #[.int .i64 (n : Nat)]), (b6, #[.int .i64 (base : Nat)]), (b5, #[(.slice (some ⟨mb, mo, none⟩) mn mc)])] L)) ?_
  simp only [Any.someVals, List.take_succ_cons, List.take_zero]
  iterate 10 apply Exists.intro
  repeat (first
    | (refine Any.E_off rfl ?_; simp only [Act.put, List.setIfInBounds_toArray, List.set_cons_succ, List.set_cons_zero])
    | (apply Any.E_pureq rfl rfl rfl
       case h => intro K hK; go_big_quiet_op; (refine hK _ ?_; rfl)
       case hr => exact fun _ => rfl
       simp only [Act.put, List.setIfInBounds_toArray, List.set_cons_succ, List.set_cons_zero])
    | (apply Any.E_val rfl rfl rfl rfl
       case h =>
         intro E' hA K hK
         first
           | ((with_reducible refine Any.at_qload (T := 25) ?_); refine Any.q_ldv 1005 hA (by decide) rfl rfl 1 _ Try.underlying25 rfl infoM (by decide) rfl ?_; refine hK _ ?_; rfl)
           | ((with_reducible refine Any.at_qload (T := 3) ?_); refine Any.q_ldc 1004 hA (by decide) rfl rfl _ Try.underlying3 rfl (.int .i64 (base : Nat)) rfl ?_; refine hK _ ?_; rfl)
           | ((with_reducible refine Any.at_qload (T := 3) ?_); refine Any.q_ldc 1003 hA (by decide) rfl rfl _ Try.underlying3 rfl (.int .i64 (n : Nat)) rfl ?_; refine hK _ ?_; rfl)
           | ((with_reducible refine Any.at_qload (T := 27) ?_); refine Any.q_ldc 1002 hA (by decide) rfl rfl _ Try.underlying27 rfl (.int .u16 (i : Nat)) rfl ?_; refine hK _ ?_; rfl)
           | (go_big_quiet_op; first
             | (refine hK _ ?_; rfl)
             | (refine ⟨_, fun _ _ => rfl, ?_⟩; refine hK _ ?_; rfl)
             | (apply Exists.intro; refine ⟨fun w1 hw1 => ?_, ?_⟩; · (first
                 | (go_at_call 46; exact Any.calls_VE (HAV.out _) hw1)
                 | (go_at_call 56; exact Any.calls_VE (HPL.out _) hw1))
                refine hK _ ?_; rfl))
       case hD => rfl
       simp only [Act.put, List.setIfInBounds_toArray, List.set_cons_succ, List.set_cons_zero])
    | ((with_reducible refine Any.at_ealloc ?_); refine Any.E_lay rfl rfl rfl (fun _ => rfl) ?_; intro B; simp only [Act.put, List.setIfInBounds_toArray, List.set_cons_succ, List.set_cons_zero]))
  try any_goals exact undef
  refine Any.E_nil ?_
  intro w9 hE9
  replace hv : Mem w0 w9 ([(b10, #[.slice none 0 0]), (b9, #[.int .u32 (id : Nat), .int .u32 (len : Nat)]), (b8, #[.int .u16 (i : Nat)]), (b7, #[.int .i64 (n : Nat)]), (b6, #[.int .i64 (base : Nat)]), (b5, #[(.slice (some ⟨mb, mo, none⟩) mn mc)])] ++ L) _ := hE9.memr (L1 := [(b10, #[.slice none 0 0]), (b9, #[.int .u32 (id : Nat), .int .u32 (len : Nat)]), (b8, #[.int .u16 (i : Nat)]), (b7, #[.int .i64 (n : Nat)]), (b6, #[.int .i64 (base : Nat)]), (b5, #[(.slice (some ⟨mb, mo, none⟩) mn mc)])]) hv [1000, 1001, 1002, 1003, 1004, 1005] (by decide)
  clear hE9
  refine Any.wpOp_callv rfl rfl (Go.Proofs.enters_of Try.func54 (by kernel_rfl) rfl) rfl [(.agg #[(.slice (some ⟨mb, mo, none⟩) mn mc)]), .int .i64 (base : Nat), .int .i64 (n : Nat), .int .i64 (s : Nat), .func (.func 64) #[] #[.pointer (some ⟨b9, 0, none⟩), .pointer (some ⟨b6, 0, none⟩), .pointer (some ⟨b7, 0, none⟩), .pointer (some ⟨b8, 0, none⟩), .pointer (some ⟨b5, 0, none⟩)]] rfl ?_
  refine (reading_M hv HM.out base n s HN.out HB.out HP.out (Go.Proofs.enters_of Try.func64 (by kernel_rfl) rfl) (cap := #[.pointer (some ⟨b9, 0, none⟩), .pointer (some ⟨b6, 0, none⟩), .pointer (some ⟨b7, 0, none⟩), .pointer (some ⟨b8, 0, none⟩), .pointer (some ⟨b5, 0, none⟩)]) (Post := fun w' => ∃ b c R', Mem w0 w' ((b10, #[.slice none 0 0]) :: (b5, #[.slice (some ⟨b, 0, none⟩) mn c]) :: L) R' ∧ InM R' b 0 mn c M2 ∧ ∀ x ∈ R, x ∈ R') (fun bF w1 hv1 => HCL.out bF w1 _ _ _ _ _ _ hv1)).mono ?_
  rintro e w1 ⟨rfl, vb, vc, R1, hv1, hi1, hs1⟩
  replace hv := hv1
  have HI1 := Lib.hid hi1
  have HS1 := Lib.hid hs1
  clear hv1 hi1 hs1
  refine ⟨_, rfl, ?_⟩
  have hv0 := hv
  clear hv
  have hv : Mem w0 _ ([(b10, #[.slice none 0 0]), (b5, #[(.slice (some ⟨vb, 0, none⟩) mn vc)])] ++ L) _ := hv0
  clear hv0
  refine Any.wpAny_rest 11 [⟨[], none⟩] [.val] (by kernel_rfl) (hv.vars.keep (List.sublist_append_left [(b10, #[.slice none 0 0]), (b5, #[(.slice (some ⟨vb, 0, none⟩) mn vc)])] L)) ?_
  simp only [List.length_cons, List.length_nil, Nat.zero_add, Nat.reduceAdd, Nat.reduceSub, Any.someVals, List.drop_succ_cons, List.drop_zero]
  simp only [Act.put, List.setIfInBounds_toArray, List.set_cons_succ, List.set_cons_zero]
  iterate 1 apply Exists.intro
  repeat (first
    | (refine Any.E_off rfl ?_; simp only [Act.put, List.setIfInBounds_toArray, List.set_cons_succ, List.set_cons_zero])
    | (apply Any.E_pureq rfl rfl rfl
       case h => intro K hK; go_big_quiet_op; (refine hK _ ?_; rfl)
       case hr => exact fun _ => rfl
       simp only [Act.put, List.setIfInBounds_toArray, List.set_cons_succ, List.set_cons_zero])
    | (apply Any.E_val rfl rfl rfl rfl
       case h =>
         intro E' hA K hK
         first
           | ((with_reducible refine Any.at_qload (T := 25) ?_); refine Any.q_ldv 1005 hA (by decide) rfl rfl 1 _ Try.underlying25 rfl infoM (by decide) rfl ?_; refine hK _ ?_; rfl)
           | ((with_reducible refine Any.at_qload (T := 3) ?_); refine Any.q_ldc 1004 hA (by decide) rfl rfl _ Try.underlying3 rfl (.int .i64 (base : Nat)) rfl ?_; refine hK _ ?_; rfl)
           | ((with_reducible refine Any.at_qload (T := 3) ?_); refine Any.q_ldc 1003 hA (by decide) rfl rfl _ Try.underlying3 rfl (.int .i64 (n : Nat)) rfl ?_; refine hK _ ?_; rfl)
           | ((with_reducible refine Any.at_qload (T := 27) ?_); refine Any.q_ldc 1002 hA (by decide) rfl rfl _ Try.underlying27 rfl (.int .u16 (i : Nat)) rfl ?_; refine hK _ ?_; rfl)
           | (go_big_quiet_op; first
             | (refine hK _ ?_; rfl)
             | (refine ⟨_, fun _ _ => rfl, ?_⟩; refine hK _ ?_; rfl)
             | (apply Exists.intro; refine ⟨fun w1 hw1 => ?_, ?_⟩; · (first
                 | (go_at_call 46; exact Any.calls_VE (HAV.out _) hw1)
                 | (go_at_call 56; exact Any.calls_VE (HPL.out _) hw1))
                refine hK _ ?_; rfl))
       case hD => rfl
       simp only [Act.put, List.setIfInBounds_toArray, List.set_cons_succ, List.set_cons_zero])
    | ((with_reducible refine Any.at_ealloc ?_); refine Any.E_lay rfl rfl rfl (fun _ => rfl) ?_; intro B; simp only [Act.put, List.setIfInBounds_toArray, List.set_cons_succ, List.set_cons_zero]))
  try any_goals exact undef
  refine Any.E_nil ?_
  intro w9 hE9
  replace hv : Mem w0 w9 ([(b10, #[.slice none 0 0]), (b5, #[(.slice (some ⟨vb, 0, none⟩) mn vc)])] ++ L) _ := hE9.memr0 (L1 := [(b10, #[.slice none 0 0]), (b5, #[(.slice (some ⟨vb, 0, none⟩) mn vc)])]) hv [1000, 1001] (by decide)
  clear hE9
  simp only [List.cons_append, List.nil_append] at hv
  go_wp2_with (first
    | ((with_reducible refine at_load (T := 25) ?_); refine wl_ldv rfl b5 rfl _ (hv.vars.row (by first | exact .head _ | exact .tail _ (.head _) | exact .tail _ (.tail _ (.head _)) | exact .tail _ (.tail _ (.tail _ (.head _))) | exact .tail _ (.tail _ (.tail _ (.tail _ (.head _)))) | exact .tail _ (.tail _ (.tail _ (.tail _ (.tail _ (.head _))))) | exact .tail _ (.tail _ (.tail _ (.tail _ (.tail _ (.tail _ (.head _)))))) | exact .tail _ (.tail _ (.tail _ (.tail _ (.tail _ (.tail _ (.tail _ (.head _))))))))) 1 _ Try.underlying25 rfl infoM (by decide) rfl ?_)
    | ((with_reducible refine at_store (T := 25) ?_); refine wl_stv rfl b10 rfl _ rfl _ (hv.vars.row (by first | exact .head _ | exact .tail _ (.head _) | exact .tail _ (.tail _ (.head _)) | exact .tail _ (.tail _ (.tail _ (.head _))) | exact .tail _ (.tail _ (.tail _ (.tail _ (.head _)))) | exact .tail _ (.tail _ (.tail _ (.tail _ (.tail _ (.head _))))) | exact .tail _ (.tail _ (.tail _ (.tail _ (.tail _ (.tail _ (.head _)))))) | exact .tail _ (.tail _ (.tail _ (.tail _ (.tail _ (.tail _ (.tail _ (.head _))))))))) (hv.vars.sft (by first | exact .head _ | exact .tail _ (.head _) | exact .tail _ (.tail _ (.head _)) | exact .tail _ (.tail _ (.tail _ (.head _))) | exact .tail _ (.tail _ (.tail _ (.tail _ (.head _)))) | exact .tail _ (.tail _ (.tail _ (.tail _ (.tail _ (.head _))))) | exact .tail _ (.tail _ (.tail _ (.tail _ (.tail _ (.tail _ (.head _)))))) | exact .tail _ (.tail _ (.tail _ (.tail _ (.tail _ (.tail _ (.tail _ (.head _))))))))) 1 infoM rfl rfl (by simp [Value.oneCell']) ?_; intro w2 hw2; (first | (replace hv := hv.set 0 rfl hw2) | (replace hv := hv.set 1 rfl hw2) | (replace hv := hv.set 2 rfl hw2) | (replace hv := hv.set 3 rfl hw2) | (replace hv := hv.set 4 rfl hw2) | (replace hv := hv.set 5 rfl hw2) | (replace hv := hv.set 6 rfl hw2) | (replace hv := hv.set 7 rfl hw2)); clear hw2; simp only [List.set] at hv))
  try simp only [Exit.inBlock, Exit.then]
  refine ret_cell2 (v := .agg #[(.slice (some ⟨vb, 0, none⟩) mn vc)]) (v1 := .int .i64 0) rfl rfl (read_row _ b10 25 _ (hv.vars.row (b := b10) (by first | exact .head _ | exact .tail _ (.head _) | exact .tail _ (.tail _ (.head _)) | exact .tail _ (.tail _ (.tail _ (.head _))) | exact .tail _ (.tail _ (.tail _ (.tail _ (.head _)))) | exact .tail _ (.tail _ (.tail _ (.tail _ (.tail _ (.head _))))) | exact .tail _ (.tail _ (.tail _ (.tail _ (.tail _ (.tail _ (.head _)))))) | exact .tail _ (.tail _ (.tail _ (.tail _ (.tail _ (.tail _ (.tail _ (.head _))))))))) 1 _ Try.underlying25 rfl infoM (by decide) rfl) rfl rfl ?_
  exact ⟨vb, vc, R1, rfl, hv.drop.drop, HI1.out, HS1.out⟩
end Go.Proofs.Ytcelehhaggoijaa
