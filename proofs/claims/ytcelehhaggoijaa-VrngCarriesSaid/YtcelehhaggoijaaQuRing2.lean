/-
  Rings: what reads one: its indices and entries.
-/
import Derived.Test.YtcelehhaggoijaaQuRing
set_option linter.unusedVariables false
set_option linter.unusedSimpArgs false
namespace Go.Proofs.Qu
open Go Go.RowKit Go.Proofs.Nm
theorem avail_bnd {n i : Nat} (hn : okN n) : 16 * n + (4 + 2 * (i % n)) + 2 ≤ sizeN n ∧ sizeN n ≤ 424 := by
  have h1 := hn.size
  have h2 := Nat.mod_lt i (show 0 < n by have := hn.le; omega)
  generalize i % n = r at *
  omega
theorem used_bnd {n i : Nat} (hn : okN n) : backN n + (4 + 8 * (i % n)) + 8 ≤ sizeN n ∧ sizeN n ≤ 424 := by
  have h1 := hn.size
  have h2 := Nat.mod_lt i (show 0 < n by have := hn.le; omega)
  generalize i % n = r at *
  omega
theorem sum_i64 {a b s : Nat} (h : a + b = s) (hs : s ≤ 1000000) : IntKind.i64.wrap ((a : Int) + (b : Int)) = (s : Int) := by rw [IntWalk.i64_in _ (by omega)]; omega
theorem sum_w64 {a b s : Nat} (h : a + b = s) (hs : s ≤ 1000000) : wrap64 ((a : Int) + (b : Int)) = (s : Int) := by unfold wrap64; omega
end Go.Proofs.Qu
namespace Go.Proofs.Ytcelehhaggoijaa
open Go.Proofs.Qu Go.Proofs.Nm Go.RowKit Go.Proofs
set_option maxRecDepth 100000 in
set_option maxHeartbeats 4000000 in
theorem Index_w {mb mo mn mc : Nat} {M : List Nat} (hm : OkM mn M) (base n part : Nat) (hn : okN n) (hb : base + sizeN n ≤ mn) (h : part + 4 ≤ sizeN n) {x : Nat} (hx : getN M (base + (part + 2)) 2 = x) (w : World) (hr : Rd w 1 (.slice (some ⟨mb, mo, none⟩) mn mc) (cellsB M)) :
    Calls Try.prog 60 #[(.agg #[(.slice (some ⟨mb, mo, none⟩) mn mc)]), .int .i64 (base : Nat), .int .i64 (n : Nat), .int .i64 (part : Nat)] w fun e w' => e = .returned (.tuple #[.int .u16 (x : Nat), .int .i64 0]) ∧ New w w' := by
  have hv0 := (Mem.nil w).old hr
  have hv : Mem w w [] [(1, (.slice (some ⟨mb, mo, none⟩) mn mc), cellsB M)] := hv0
  have HM : Hid (InM [(1, (.slice (some ⟨mb, mo, none⟩) mn mc), cellsB M)] mb mo mn mc M) := Lib.hid ⟨Mem.z, hm.len, hm.pos, hm.most, hm.good⟩
  clear hv0 hr
  have HN := Lib.hid hn
  have HB := Lib.hid hb
  have HM8 : Hid (mn ≤ 8192) := Lib.hid hm.most
  have HOK := Lib.hid hm
  have hm8 := hm.most
  have hsz := hn.size
  have hle := hn.le
  have H1 := Lib.hid hx
  have HP : Hid (base + (part + 2) ≤ 100000) := Lib.hid (by omega)
  have HH : Hid (base + (part + 2) + 2 ≤ mn) := Lib.hid (by omega)
  have q1 : IntKind.i64.wrap ((part : Int) + 2) = ((part + 2 : Nat) : Int) := by rw [IntWalk.i64_in _ (by omega)]; omega
  clear hn hb h hx hm8 hsz hle hm
  go_enter Try.func60, Try.ntmps60
  go_wp2_with (first
    | ((with_reducible refine at_box (T := 25) (dst := some 4) ?_); refine wl_newb rfl #[(.slice (some ⟨mb, mo, none⟩) mn mc)] 25 (fun _ => rfl) ?_; intro b4 w2 hm2; replace hv := hv.madeAt hm2; clear hm2)
    | ((with_reducible refine at_alloc (T := 27) (dst := some 10) ?_); refine wl_newb rfl #[.int .u16 0] 27 (fun _ => rfl) ?_; intro b10 w2 hm2; replace hv := hv.madeAt hm2; clear hm2)
    | ((with_reducible refine at_load (T := 25) ?_); refine wl_ldv rfl b4 rfl _ (hv.vars.row (by first | exact .head _ | exact .tail _ (.head _) | exact .tail _ (.tail _ (.head _)) | exact .tail _ (.tail _ (.tail _ (.head _))) | exact .tail _ (.tail _ (.tail _ (.tail _ (.head _)))) | exact .tail _ (.tail _ (.tail _ (.tail _ (.tail _ (.head _))))) | exact .tail _ (.tail _ (.tail _ (.tail _ (.tail _ (.tail _ (.head _)))))) | exact .tail _ (.tail _ (.tail _ (.tail _ (.tail _ (.tail _ (.tail _ (.head _))))))))) 1 _ Try.underlying25 rfl infoM (by decide) rfl ?_)
    | (go_at_call 54; (refine (reading_M hv HM.out base n (part + 2) HN.out HB.out HP.out (enters_of Try.func73 (by kernel_rfl) rfl) (cap := #[.pointer (some ⟨b10, 0, none⟩)]) (Post := fun w' => Mem w w' ((b10, #[.int .u16 (x : Nat)]) :: (b4, #[(.slice (some ⟨mb, mo, none⟩) mn mc)]) :: []) [(1, (.slice (some ⟨mb, mo, none⟩) mn mc), cellsB M)]) (fun bF w1 hv1 => IdxC hv1 HM.out HH.out H1.out)).mono ?_); rintro e w1 ⟨rfl, hv1⟩; replace hv := hv1; clear hv1)
    | ((with_reducible refine at_load (T := 27) ?_); refine wl_ldc rfl b10 0 rfl _ (hv.vars.row (by first | exact .head _ | exact .tail _ (.head _) | exact .tail _ (.tail _ (.head _)) | exact .tail _ (.tail _ (.tail _ (.head _))) | exact .tail _ (.tail _ (.tail _ (.tail _ (.head _)))) | exact .tail _ (.tail _ (.tail _ (.tail _ (.tail _ (.head _))))) | exact .tail _ (.tail _ (.tail _ (.tail _ (.tail _ (.tail _ (.head _)))))) | exact .tail _ (.tail _ (.tail _ (.tail _ (.tail _ (.tail _ (.tail _ (.head _))))))))) _ Try.underlying27 rfl (.int .u16 (x : Nat)) rfl ?_))
  go_ret2
  exact ⟨rfl, hv.below⟩
set_option maxRecDepth 100000 in
set_option maxHeartbeats 4000000 in
theorem Avail_w {mb mo mn mc : Nat} {M : List Nat} (hm : OkM mn M) (base n : Nat) (hn : okN n) (hb : base + sizeN n ≤ mn) {x : Nat} (hx : getN M (base + (16 * n + 2)) 2 = x) (w : World) (hr : Rd w 1 (.slice (some ⟨mb, mo, none⟩) mn mc) (cellsB M)) :
    Calls Try.prog 35 #[(.agg #[(.slice (some ⟨mb, mo, none⟩) mn mc)]), .int .i64 (base : Nat), .int .i64 (n : Nat)] w fun e w' => e = .returned (.tuple #[.int .u16 (x : Nat), .int .i64 0]) ∧ New w w' := by
  have hv0 := (Mem.nil w).old hr
  have hv : Mem w w [] [(1, (.slice (some ⟨mb, mo, none⟩) mn mc), cellsB M)] := hv0
  have HM : Hid (InM [(1, (.slice (some ⟨mb, mo, none⟩) mn mc), cellsB M)] mb mo mn mc M) := Lib.hid ⟨Mem.z, hm.len, hm.pos, hm.most, hm.good⟩
  clear hv0 hr
  have HN := Lib.hid hn
  have HB := Lib.hid hb
  have HM8 : Hid (mn ≤ 8192) := Lib.hid hm.most
  have HOK := Lib.hid hm
  have hm8 := hm.most
  have hsz := hn.size
  have hle := hn.le
  obtain ⟨av, hav⟩ : ∃ av, 16 * n = av := ⟨_, rfl⟩
  have HAV : Hid (∀ w, Calls Try.prog 55 #[.int .i64 (n : Nat)] w fun e w' => e = .returned (.int .i64 (av : Nat)) ∧ New w w') := Lib.hid (fun w => by have := avail_ok n HN.out w; rw [hav] at this; exact this)
  rw [hav] at hx
  have HIX : Hid (∀ w, Rd w 1 (.slice (some ⟨mb, mo, none⟩) mn mc) (cellsB M) → Calls Try.prog 60 #[(.agg #[(.slice (some ⟨mb, mo, none⟩) mn mc)]), .int .i64 (base : Nat), .int .i64 (n : Nat), .int .i64 (av : Nat)] w fun e w' => e = .returned (.tuple #[.int .u16 (x : Nat), .int .i64 0]) ∧ New w w') := Lib.hid (fun w hr => Index_w HOK.out base n av HN.out HB.out (by rw [← hav]; omega) hx w hr)
  have HPV := Lib.hid hv
  clear hn hb hx hm8 hsz hle hav hm
  go_enter Try.func35, Try.ntmps35
  go_wp2_with (first
    | ((with_reducible refine at_box (T := 25) (dst := some 3) ?_); refine wl_newb rfl #[(.slice (some ⟨mb, mo, none⟩) mn mc)] 25 (fun _ => rfl) ?_; intro b3 w2 hm2; replace hv := hv.madeAt hm2; clear hm2))
  have HPM := Lib.hid (Any.rd_start hv HM.out.rd)
  refine Any.wp_region_walk [⟨[1000], none⟩, ⟨[], none⟩, ⟨[], none⟩, ⟨[], none⟩, ⟨[], none⟩, ⟨[], none⟩, ⟨[], none⟩, ⟨[], none⟩, ⟨[], none⟩, ⟨[], none⟩] [.val, .val, .val, .val, .val, .val, .val, .val, .val, .val] (by kernel_rfl) (by kernel_rfl) hv.vars ?_
  simp only [List.length_cons, List.length_nil, Nat.zero_add, Any.someVals]
  iterate 10 apply Exists.intro
  repeat (first
    | (refine Any.E_off rfl ?_; simp only [Act.put, List.setIfInBounds_toArray, List.set_cons_succ, List.set_cons_zero])
    | (apply Any.E_pureq rfl rfl rfl
       case h => intro K hK; go_big_quiet_op; (refine hK _ ?_; rfl)
       case hr => exact fun _ => rfl
       simp only [Act.put, List.setIfInBounds_toArray, List.set_cons_succ, List.set_cons_zero])
    | (apply Any.E_val rfl rfl rfl rfl
       case h =>
         intro E' hA K hK
         first
           | ((with_reducible refine Any.at_qload (T := 25) ?_); refine Any.q_ldv 1000 hA (by decide) rfl rfl 1 _ Try.underlying25 rfl infoM (by decide) rfl ?_; refine hK _ ?_; rfl)
           | (go_big_quiet_op; first
             | (refine hK _ ?_; rfl)
             | (refine ⟨_, fun _ _ => rfl, ?_⟩; refine hK _ ?_; rfl)
             | (apply Exists.intro; refine ⟨fun w1 hw1 => ?_, ?_⟩; · (first
                 | (go_at_call 55; exact Any.calls_VE (HAV.out _) hw1)
                 | (go_at_call 60; exact Any.calls_VE (HIX.out _ (hw1.rdold HPM.out.1 HPM.out.2)) hw1))
                refine hK _ ?_; rfl))
       case hD => rfl
       simp only [Act.put, List.setIfInBounds_toArray, List.set_cons_succ, List.set_cons_zero])
    | ((with_reducible refine Any.at_ealloc ?_); refine Any.E_lay rfl rfl rfl (fun _ => rfl) ?_; intro B; simp only [Act.put, List.setIfInBounds_toArray, List.set_cons_succ, List.set_cons_zero]))
  try any_goals exact undef
  refine Any.E_nil ?_
  intro w9 hE9
  replace hv : Mem w w9 [(b3, #[(.slice (some ⟨mb, mo, none⟩) mn mc)])] _ := hE9.mem hv [1000] (by decide)
  clear hE9
  go_wp2
  go_ret2
  exact ⟨rfl, hv.below⟩
set_option maxRecDepth 100000 in
set_option maxHeartbeats 4000000 in
theorem Used_w {mb mo mn mc : Nat} {M : List Nat} (hm : OkM mn M) (base n : Nat) (hn : okN n) (hb : base + sizeN n ≤ mn) {x : Nat} (hx : getN M (base + (backN n + 2)) 2 = x) (w : World) (hr : Rd w 1 (.slice (some ⟨mb, mo, none⟩) mn mc) (cellsB M)) :
    Calls Try.prog 39 #[(.agg #[(.slice (some ⟨mb, mo, none⟩) mn mc)]), .int .i64 (base : Nat), .int .i64 (n : Nat)] w fun e w' => e = .returned (.tuple #[.int .u16 (x : Nat), .int .i64 0]) ∧ New w w' := by
  have hv0 := (Mem.nil w).old hr
  have hv : Mem w w [] [(1, (.slice (some ⟨mb, mo, none⟩) mn mc), cellsB M)] := hv0
  have HM : Hid (InM [(1, (.slice (some ⟨mb, mo, none⟩) mn mc), cellsB M)] mb mo mn mc M) := Lib.hid ⟨Mem.z, hm.len, hm.pos, hm.most, hm.good⟩
  clear hv0 hr
  have HN := Lib.hid hn
  have HB := Lib.hid hb
  have HM8 : Hid (mn ≤ 8192) := Lib.hid hm.most
  have HOK := Lib.hid hm
  have hm8 := hm.most
  have hsz := hn.size
  have hle := hn.le
  obtain ⟨av, hav⟩ : ∃ av, backN n = av := ⟨_, rfl⟩
  have HAV : Hid (∀ w, Calls Try.prog 46 #[.int .i64 (n : Nat)] w fun e w' => e = .returned (.int .i64 (av : Nat)) ∧ New w w') := Lib.hid (fun w => by have := back_ok n HN.out w; rw [hav] at this; exact this)
  rw [hav] at hx
  have HIX : Hid (∀ w, Rd w 1 (.slice (some ⟨mb, mo, none⟩) mn mc) (cellsB M) → Calls Try.prog 60 #[(.agg #[(.slice (some ⟨mb, mo, none⟩) mn mc)]), .int .i64 (base : Nat), .int .i64 (n : Nat), .int .i64 (av : Nat)] w fun e w' => e = .returned (.tuple #[.int .u16 (x : Nat), .int .i64 0]) ∧ New w w') := Lib.hid (fun w hr => Index_w HOK.out base n av HN.out HB.out (by rw [← hav]; omega) hx w hr)
  have HPV := Lib.hid hv
  clear hn hb hx hm8 hsz hle hav hm
  go_enter Try.func39, Try.ntmps39
  go_wp2_with (first
    | ((with_reducible refine at_box (T := 25) (dst := some 3) ?_); refine wl_newb rfl #[(.slice (some ⟨mb, mo, none⟩) mn mc)] 25 (fun _ => rfl) ?_; intro b3 w2 hm2; replace hv := hv.madeAt hm2; clear hm2))
  have HPM := Lib.hid (Any.rd_start hv HM.out.rd)
  refine Any.wp_region_walk [⟨[1000], none⟩, ⟨[], none⟩, ⟨[], none⟩, ⟨[], none⟩, ⟨[], none⟩, ⟨[], none⟩, ⟨[], none⟩, ⟨[], none⟩, ⟨[], none⟩, ⟨[], none⟩] [.val, .val, .val, .val, .val, .val, .val, .val, .val, .val] (by kernel_rfl) (by kernel_rfl) hv.vars ?_
  simp only [List.length_cons, List.length_nil, Nat.zero_add, Any.someVals]
  iterate 10 apply Exists.intro
  repeat (first
    | (refine Any.E_off rfl ?_; simp only [Act.put, List.setIfInBounds_toArray, List.set_cons_succ, List.set_cons_zero])
    | (apply Any.E_pureq rfl rfl rfl
       case h => intro K hK; go_big_quiet_op; (refine hK _ ?_; rfl)
       case hr => exact fun _ => rfl
       simp only [Act.put, List.setIfInBounds_toArray, List.set_cons_succ, List.set_cons_zero])
    | (apply Any.E_val rfl rfl rfl rfl
       case h =>
         intro E' hA K hK
         first
           | ((with_reducible refine Any.at_qload (T := 25) ?_); refine Any.q_ldv 1000 hA (by decide) rfl rfl 1 _ Try.underlying25 rfl infoM (by decide) rfl ?_; refine hK _ ?_; rfl)
           | (go_big_quiet_op; first
             | (refine hK _ ?_; rfl)
             | (refine ⟨_, fun _ _ => rfl, ?_⟩; refine hK _ ?_; rfl)
             | (apply Exists.intro; refine ⟨fun w1 hw1 => ?_, ?_⟩; · (first
                 | (go_at_call 46; exact Any.calls_VE (HAV.out _) hw1)
                 | (go_at_call 60; exact Any.calls_VE (HIX.out _ (hw1.rdold HPM.out.1 HPM.out.2)) hw1))
                refine hK _ ?_; rfl))
       case hD => rfl
       simp only [Act.put, List.setIfInBounds_toArray, List.set_cons_succ, List.set_cons_zero])
    | ((with_reducible refine Any.at_ealloc ?_); refine Any.E_lay rfl rfl rfl (fun _ => rfl) ?_; intro B; simp only [Act.put, List.setIfInBounds_toArray, List.set_cons_succ, List.set_cons_zero]))
  try any_goals exact undef
  refine Any.E_nil ?_
  intro w9 hE9
  replace hv : Mem w w9 [(b3, #[(.slice (some ⟨mb, mo, none⟩) mn mc)])] _ := hE9.mem hv [1000] (by decide)
  clear hE9
  go_wp2
  go_ret2
  exact ⟨rfl, hv.below⟩
set_option maxRecDepth 100000 in
set_option maxHeartbeats 4000000 in
theorem AvailAt_w {mb mo mn mc : Nat} {M : List Nat} (hm : OkM mn M) (base n i : Nat) (hn : okN n) (hb : base + sizeN n ≤ mn) (hi : i < 65536) {x : Nat} (hx : getN M (base + (16 * n + (4 + 2 * (i % n)))) 2 = x) (w : World) (hr : Rd w 1 (.slice (some ⟨mb, mo, none⟩) mn mc) (cellsB M)) :
    Calls Try.prog 36 #[(.agg #[(.slice (some ⟨mb, mo, none⟩) mn mc)]), .int .i64 (base : Nat), .int .i64 (n : Nat), .int .u16 (i : Nat)] w fun e w' => e = .returned (.tuple #[.int .i64 (x : Nat), .int .i64 0]) ∧ New w w' := by
  have hv0 := (Mem.nil w).old hr
  have hv : Mem w w [] [(1, (.slice (some ⟨mb, mo, none⟩) mn mc), cellsB M)] := hv0
  have HM : Hid (InM [(1, (.slice (some ⟨mb, mo, none⟩) mn mc), cellsB M)] mb mo mn mc M) := Lib.hid ⟨Mem.z, hm.len, hm.pos, hm.most, hm.good⟩
  clear hv0 hr
  have HN := Lib.hid hn
  have HB := Lib.hid hb
  have HM8 : Hid (mn ≤ 8192) := Lib.hid hm.most
  have HOK := Lib.hid hm
  have hm8 := hm.most
  have hsz := hn.size
  have hle := hn.le
  obtain ⟨av, hav⟩ : ∃ av, 16 * n = av := ⟨_, rfl⟩
  have HAV : Hid (∀ w, Calls Try.prog 55 #[.int .i64 (n : Nat)] w fun e w' => e = .returned (.int .i64 (av : Nat)) ∧ New w w') := Lib.hid (fun w => by have := avail_ok n HN.out w; rw [hav] at this; exact this)
  obtain ⟨pl, hpl⟩ : ∃ pl, 4 + 2 * (i % n) = pl := ⟨_, rfl⟩
  have HPL : Hid (∀ w, Calls Try.prog 56 #[.int .i64 (n : Nat), .int .u16 (i : Nat), .int .i64 2] w fun e w' => e = .returned (.int .i64 (pl : Nat)) ∧ New w w') := Lib.hid (fun w => by have := place_ok n i 2 HN.out hi (by decide) w; rw [hpl] at this; exact this)
  obtain ⟨s, hs⟩ : ∃ s, av + pl = s := ⟨_, rfl⟩
  rw [hav, hpl, hs] at hx
  have hsb : s + 2 ≤ sizeN n ∧ sizeN n ≤ 424 := by rw [← hs, ← hav, ← hpl]; exact avail_bnd hn
  have hs9 : s ≤ 1000000 := Nat.le_trans (Nat.le_trans (Nat.le_add_right _ _) hsb.1) (Nat.le_trans hsb.2 (by decide))
  have q1 : IntKind.i64.wrap ((av : Int) + (pl : Int)) = (s : Int) := sum_i64 hs hs9
  have q3 : wrap64 ((av : Int) + (pl : Int)) = (s : Int) := sum_w64 hs hs9
  have HH : Hid (base + s + 2 ≤ mn) := Lib.hid (by rw [Nat.add_assoc]; exact Nat.le_trans (Nat.add_le_add_left hsb.1 base) hb)
  have HP : Hid (base + s ≤ 100000) := Lib.hid (Nat.le_trans (Nat.le_trans (Nat.le_add_right _ _) HH.out) (Nat.le_trans hm8 (by decide)))
  have H1 := Lib.hid hx
  clear hn hb hi hm8 hsz hle hav hpl hs hsb hs9 hm hx
  go_enter Try.func36, Try.ntmps36
  go_wp2_with (first
    | ((with_reducible refine at_box (T := 25) (dst := some 4) ?_); refine wl_newb rfl #[(.slice (some ⟨mb, mo, none⟩) mn mc)] 25 (fun _ => rfl) ?_; intro b4 w2 hm2; replace hv := hv.madeAt hm2; clear hm2)
    | ((with_reducible refine at_alloc (T := 3) (dst := some 10) ?_); refine wl_newb rfl #[.int .i64 0] 3 (fun _ => rfl) ?_; intro b10 w2 hm2; replace hv := hv.madeAt hm2; clear hm2)
    | ((with_reducible refine at_store (T := 3) ?_); refine wl_stc rfl b10 0 rfl (.int .i64 0) rfl _ (hv.vars.row (by first | exact .head _ | exact .tail _ (.head _) | exact .tail _ (.tail _ (.head _)) | exact .tail _ (.tail _ (.tail _ (.head _))) | exact .tail _ (.tail _ (.tail _ (.tail _ (.head _)))) | exact .tail _ (.tail _ (.tail _ (.tail _ (.tail _ (.head _))))) | exact .tail _ (.tail _ (.tail _ (.tail _ (.tail _ (.tail _ (.head _)))))) | exact .tail _ (.tail _ (.tail _ (.tail _ (.tail _ (.tail _ (.tail _ (.head _))))))))) (hv.vars.sft (by first | exact .head _ | exact .tail _ (.head _) | exact .tail _ (.tail _ (.head _)) | exact .tail _ (.tail _ (.tail _ (.head _))) | exact .tail _ (.tail _ (.tail _ (.tail _ (.head _)))) | exact .tail _ (.tail _ (.tail _ (.tail _ (.tail _ (.head _))))) | exact .tail _ (.tail _ (.tail _ (.tail _ (.tail _ (.tail _ (.head _)))))) | exact .tail _ (.tail _ (.tail _ (.tail _ (.tail _ (.tail _ (.tail _ (.head _))))))))) (by kernel_rfl) rfl (by show 0 < 1; decide) ?_; intro w2 hw2; (first | (replace hv := hv.set 0 rfl hw2) | (replace hv := hv.set 1 rfl hw2) | (replace hv := hv.set 2 rfl hw2) | (replace hv := hv.set 3 rfl hw2)); clear hw2; simp only [List.set] at hv))
  have hv0 := hv
  clear hv
  have hv : Mem w _ ([(b10, #[.int .i64 0]), (b4, #[(.slice (some ⟨mb, mo, none⟩) mn mc)])] ++ ([] : List (Nat × Array Value))) _ := hv0
  clear hv0
  refine Any.wp_region_cut 10 [⟨[1001], none⟩, ⟨[], none⟩, ⟨[], none⟩, ⟨[], none⟩, ⟨[], none⟩, ⟨[], none⟩, ⟨[], none⟩, ⟨[], none⟩, ⟨[], none⟩, ⟨[], none⟩, ⟨[], none⟩, ⟨[], none⟩] [.val, .val, .val, .val, .val, .val, .val, .val, .val, .val] (by kernel_rfl) (by kernel_rfl) (hv.vars.keep (List.sublist_append_left [(b10, #[.int .i64 0]), (b4, #[(.slice (some ⟨mb, mo, none⟩) mn mc)])] ([] : List (Nat × Array Value)))) ?_
  simp only [Any.someVals, List.take_succ_cons, List.take_zero]
  iterate 10 apply Exists.intro
  repeat (first
    | (refine Any.E_off rfl ?_; simp only [Act.put, List.setIfInBounds_toArray, List.set_cons_succ, List.set_cons_zero])
    | (apply Any.E_pureq rfl rfl rfl
       case h => intro K hK; go_big_quiet_op; (refine hK _ ?_; rfl)
       case hr => exact fun _ => rfl
       simp only [Act.put, List.setIfInBounds_toArray, List.set_cons_succ, List.set_cons_zero])
    | (apply Any.E_val rfl rfl rfl rfl
       case h =>
         intro E' hA K hK
         first
           | ((with_reducible refine Any.at_qload (T := 25) ?_); refine Any.q_ldv 1001 hA (by decide) rfl rfl 1 _ Try.underlying25 rfl infoM (by decide) rfl ?_; refine hK _ ?_; rfl)
           | (go_big_quiet_op; first
             | (refine hK _ ?_; rfl)
             | (refine ⟨_, fun _ _ => rfl, ?_⟩; refine hK _ ?_; rfl)
             | (apply Exists.intro; refine ⟨fun w1 hw1 => ?_, ?_⟩; · (first
                 | (go_at_call 55; exact Any.calls_VE (HAV.out _) hw1)
                 | (go_at_call 56; exact Any.calls_VE (HPL.out _) hw1))
                refine hK _ ?_; rfl))
       case hD => rfl
       simp only [Act.put, List.setIfInBounds_toArray, List.set_cons_succ, List.set_cons_zero])
    | ((with_reducible refine Any.at_ealloc ?_); refine Any.E_lay rfl rfl rfl (fun _ => rfl) ?_; intro B; simp only [Act.put, List.setIfInBounds_toArray, List.set_cons_succ, List.set_cons_zero]))
  try any_goals exact undef
  refine Any.E_nil ?_
  intro w9 hE9
  replace hv : Mem w w9 ([(b10, #[.int .i64 0]), (b4, #[(.slice (some ⟨mb, mo, none⟩) mn mc)])] ++ ([] : List (Nat × Array Value))) _ := hE9.memr (L1 := [(b10, #[.int .i64 0]), (b4, #[(.slice (some ⟨mb, mo, none⟩) mn mc)])]) hv [1000, 1001] (by decide)
  clear hE9
  refine Any.wpOp_callv rfl rfl (Go.Proofs.enters_of Try.func54 (by kernel_rfl) rfl) rfl [(.agg #[(.slice (some ⟨mb, mo, none⟩) mn mc)]), .int .i64 (base : Nat), .int .i64 (n : Nat), .int .i64 (s : Nat), .func (.func 61) #[] #[.pointer (some ⟨b10, 0, none⟩)]] rfl ?_
  refine (reading_M hv HM.out base n s HN.out HB.out HP.out (Go.Proofs.enters_of Try.func61 (by kernel_rfl) rfl) (cap := #[.pointer (some ⟨b10, 0, none⟩)]) (Post := fun w' => Mem w w' ((b10, #[.int .i64 (x : Nat)]) :: (b4, #[(.slice (some ⟨mb, mo, none⟩) mn mc)]) :: []) [(1, (.slice (some ⟨mb, mo, none⟩) mn mc), cellsB M)]) (fun bF w1 hv1 => AvatC hv1 HM.out HH.out H1.out)).mono ?_
  rintro e w1 ⟨rfl, hv1⟩
  replace hv := hv1
  clear hv1
  refine ⟨_, rfl, ?_⟩
  have hv0 := hv
  clear hv
  have hv : Mem w _ ([(b10, #[.int .i64 (x : Nat)]), (b4, #[(.slice (some ⟨mb, mo, none⟩) mn mc)])] ++ ([] : List (Nat × Array Value))) _ := hv0
  clear hv0
  refine Any.wpAny_rest 11 [⟨[], none⟩] [.val] (by kernel_rfl) (hv.vars.keep (List.sublist_append_left [(b10, #[.int .i64 (x : Nat)]), (b4, #[(.slice (some ⟨mb, mo, none⟩) mn mc)])] ([] : List (Nat × Array Value)))) ?_
  simp only [List.length_cons, List.length_nil, Nat.zero_add, Nat.reduceAdd, Nat.reduceSub, Any.someVals, List.drop_succ_cons, List.drop_zero]
  simp only [Act.put, List.setIfInBounds_toArray, List.set_cons_succ, List.set_cons_zero]
  iterate 1 apply Exists.intro
  repeat (first
    | (refine Any.E_off rfl ?_; simp only [Act.put, List.setIfInBounds_toArray, List.set_cons_succ, List.set_cons_zero])
    | (apply Any.E_pureq rfl rfl rfl
       case h => intro K hK; go_big_quiet_op; (refine hK _ ?_; rfl)
       case hr => exact fun _ => rfl
       simp only [Act.put, List.setIfInBounds_toArray, List.set_cons_succ, List.set_cons_zero])
    | (apply Any.E_val rfl rfl rfl rfl
       case h =>
         intro E' hA K hK
         first
           | ((with_reducible refine Any.at_qload (T := 25) ?_); refine Any.q_ldv 1001 hA (by decide) rfl rfl 1 _ Try.underlying25 rfl infoM (by decide) rfl ?_; refine hK _ ?_; rfl)
           | (go_big_quiet_op; first
             | (refine hK _ ?_; rfl)
             | (refine ⟨_, fun _ _ => rfl, ?_⟩; refine hK _ ?_; rfl)
             | (apply Exists.intro; refine ⟨fun w1 hw1 => ?_, ?_⟩; · (first
                 | (go_at_call 55; exact Any.calls_VE (HAV.out _) hw1)
                 | (go_at_call 56; exact Any.calls_VE (HPL.out _) hw1))
                refine hK _ ?_; rfl))
       case hD => rfl
       simp only [Act.put, List.setIfInBounds_toArray, List.set_cons_succ, List.set_cons_zero])
    | ((with_reducible refine Any.at_ealloc ?_); refine Any.E_lay rfl rfl rfl (fun _ => rfl) ?_; intro B; simp only [Act.put, List.setIfInBounds_toArray, List.set_cons_succ, List.set_cons_zero]))
  try any_goals exact undef
  refine Any.E_nil ?_
  intro w9 hE9
  replace hv : Mem w w9 ([(b10, #[.int .i64 (x : Nat)]), (b4, #[(.slice (some ⟨mb, mo, none⟩) mn mc)])] ++ ([] : List (Nat × Array Value))) _ := hE9.memr0 (L1 := [(b10, #[.int .i64 (x : Nat)]), (b4, #[(.slice (some ⟨mb, mo, none⟩) mn mc)])]) hv [1000, 1001] (by decide)
  clear hE9
  simp only [List.cons_append, List.nil_append] at hv
  go_wp2_with (first
    | ((with_reducible refine at_load (T := 3) ?_); refine wl_ldc rfl b10 0 rfl _ (hv.vars.row (by first | exact .head _ | exact .tail _ (.head _) | exact .tail _ (.tail _ (.head _)) | exact .tail _ (.tail _ (.tail _ (.head _))) | exact .tail _ (.tail _ (.tail _ (.tail _ (.head _)))) | exact .tail _ (.tail _ (.tail _ (.tail _ (.tail _ (.head _))))) | exact .tail _ (.tail _ (.tail _ (.tail _ (.tail _ (.tail _ (.head _)))))) | exact .tail _ (.tail _ (.tail _ (.tail _ (.tail _ (.tail _ (.tail _ (.head _))))))))) _ Try.underlying3 rfl (.int .i64 (x : Nat)) rfl ?_))
  go_ret2
  exact ⟨rfl, hv.below⟩
set_option maxRecDepth 100000 in
set_option maxHeartbeats 4000000 in
theorem UsedAt_w {mb mo mn mc : Nat} {M : List Nat} (hm : OkM mn M) (base n i : Nat) (hn : okN n) (hb : base + sizeN n ≤ mn) (hi : i < 65536) {a l : Nat} (h1 : getN M (base + (backN n + (4 + 8 * (i % n)))) 4 = a) (h2 : getN M (base + (backN n + (4 + 8 * (i % n))) + 4) 4 = l) (w : World) (hr : Rd w 1 (.slice (some ⟨mb, mo, none⟩) mn mc) (cellsB M)) :
    Calls Try.prog 40 #[(.agg #[(.slice (some ⟨mb, mo, none⟩) mn mc)]), .int .i64 (base : Nat), .int .i64 (n : Nat), .int .u16 (i : Nat)] w fun e w' => e = .returned (.tuple #[.agg #[.int .u32 (a : Nat), .int .u32 (l : Nat)], .int .i64 0]) ∧ New w w' := by
  have hv0 := (Mem.nil w).old hr
  have hv : Mem w w [] [(1, (.slice (some ⟨mb, mo, none⟩) mn mc), cellsB M)] := hv0
  have HM : Hid (InM [(1, (.slice (some ⟨mb, mo, none⟩) mn mc), cellsB M)] mb mo mn mc M) := Lib.hid ⟨Mem.z, hm.len, hm.pos, hm.most, hm.good⟩
  clear hv0 hr
  have HN := Lib.hid hn
  have HB := Lib.hid hb
  have HM8 : Hid (mn ≤ 8192) := Lib.hid hm.most
  have HOK := Lib.hid hm
  have hm8 := hm.most
  have hsz := hn.size
  have hle := hn.le
  obtain ⟨av, hav⟩ : ∃ av, backN n = av := ⟨_, rfl⟩
  have HAV : Hid (∀ w, Calls Try.prog 46 #[.int .i64 (n : Nat)] w fun e w' => e = .returned (.int .i64 (av : Nat)) ∧ New w w') := Lib.hid (fun w => by have := back_ok n HN.out w; rw [hav] at this; exact this)
  obtain ⟨pl, hpl⟩ : ∃ pl, 4 + 8 * (i % n) = pl := ⟨_, rfl⟩
  have HPL : Hid (∀ w, Calls Try.prog 56 #[.int .i64 (n : Nat), .int .u16 (i : Nat), .int .i64 8] w fun e w' => e = .returned (.int .i64 (pl : Nat)) ∧ New w w') := Lib.hid (fun w => by have := place_ok n i 8 HN.out hi (by decide) w; rw [hpl] at this; exact this)
  obtain ⟨s, hs⟩ : ∃ s, av + pl = s := ⟨_, rfl⟩
  rw [hav, hpl, hs] at h1 h2
  have hsb : s + 8 ≤ sizeN n ∧ sizeN n ≤ 424 := by rw [← hs, ← hav, ← hpl]; exact used_bnd hn
  have hs9 : s ≤ 1000000 := Nat.le_trans (Nat.le_trans (Nat.le_add_right _ _) hsb.1) (Nat.le_trans hsb.2 (by decide))
  have q1 : IntKind.i64.wrap ((av : Int) + (pl : Int)) = (s : Int) := sum_i64 hs hs9
  have q3 : wrap64 ((av : Int) + (pl : Int)) = (s : Int) := sum_w64 hs hs9
  have HH : Hid (base + s + 8 ≤ mn) := Lib.hid (by rw [Nat.add_assoc]; exact Nat.le_trans (Nat.add_le_add_left hsb.1 base) hb)
  have HP : Hid (base + s ≤ 100000) := Lib.hid (Nat.le_trans (Nat.le_trans (Nat.le_add_right _ _) HH.out) (Nat.le_trans hm8 (by decide)))
  have H1 := Lib.hid h1
  have H2 := Lib.hid h2
  clear hn hb hi hm8 hsz hle hav hpl hs hsb hs9 hm h1 h2
  go_enter Try.func40, Try.ntmps40
  go_wp2_with (first
    | ((with_reducible refine at_box (T := 25) (dst := some 4) ?_); refine wl_newb rfl #[(.slice (some ⟨mb, mo, none⟩) mn mc)] 25 (fun _ => rfl) ?_; intro b4 w2 hm2; replace hv := hv.madeAt hm2; clear hm2)
    | ((with_reducible refine at_alloc (T := 101) (dst := some 8) ?_); refine wl_newb rfl #[.int .u32 0, .int .u32 0] 101 (fun _ => rfl) ?_; intro b8 w2 hm2; replace hv := hv.madeAt hm2; clear hm2)
    | ((with_reducible refine at_alloc (T := 101) (dst := some 10) ?_); refine wl_newb rfl #[.int .u32 0, .int .u32 0] 101 (fun _ => rfl) ?_; intro b10 w2 hm2; replace hv := hv.madeAt hm2; clear hm2))
  have hv0 := hv
  clear hv
  have hv : Mem w _ ([(b10, #[.int .u32 0, .int .u32 0]), (b8, #[.int .u32 0, .int .u32 0]), (b4, #[(.slice (some ⟨mb, mo, none⟩) mn mc)])] ++ ([] : List (Nat × Array Value))) _ := hv0
  clear hv0
  refine Any.wp_region_cut 10 [⟨[1002], none⟩, ⟨[], none⟩, ⟨[], none⟩, ⟨[], none⟩, ⟨[], none⟩, ⟨[], none⟩, ⟨[], none⟩, ⟨[], none⟩, ⟨[], none⟩, ⟨[], none⟩, ⟨[], none⟩, ⟨[], none⟩] [.val, .val, .val, .val, .val, .val, .val, .val, .val, .val] (by kernel_rfl) (by kernel_rfl) (hv.vars.keep (List.sublist_append_left [(b10, #[.int .u32 0, .int .u32 0]), (b8, #[.int .u32 0, .int .u32 0]), (b4, #[(.slice (some ⟨mb, mo, none⟩) mn mc)])] ([] : List (Nat × Array Value)))) ?_
  simp only [Any.someVals, List.take_succ_cons, List.take_zero]
  iterate 10 apply Exists.intro
  repeat (first
    | (refine Any.E_off rfl ?_; simp only [Act.put, List.setIfInBounds_toArray, List.set_cons_succ, List.set_cons_zero])
    | (apply Any.E_pureq rfl rfl rfl
       case h => intro K hK; go_big_quiet_op; (refine hK _ ?_; rfl)
       case hr => exact fun _ => rfl
       simp only [Act.put, List.setIfInBounds_toArray, List.set_cons_succ, List.set_cons_zero])
    | (apply Any.E_val rfl rfl rfl rfl
       case h =>
         intro E' hA K hK
         first
           | ((with_reducible refine Any.at_qload (T := 25) ?_); refine Any.q_ldv 1002 hA (by decide) rfl rfl 1 _ Try.underlying25 rfl infoM (by decide) rfl ?_; refine hK _ ?_; rfl)
           | (go_big_quiet_op; first
             | (refine hK _ ?_; rfl)
             | (refine ⟨_, fun _ _ => rfl, ?_⟩; refine hK _ ?_; rfl)
             | (apply Exists.intro; refine ⟨fun w1 hw1 => ?_, ?_⟩; · (first
                 | (go_at_call 46; exact Any.calls_VE (HAV.out _) hw1)
                 | (go_at_call 56; exact Any.calls_VE (HPL.out _) hw1))
                refine hK _ ?_; rfl))
       case hD => rfl
       simp only [Act.put, List.setIfInBounds_toArray, List.set_cons_succ, List.set_cons_zero])
    | ((with_reducible refine Any.at_ealloc ?_); refine Any.E_lay rfl rfl rfl (fun _ => rfl) ?_; intro B; simp only [Act.put, List.setIfInBounds_toArray, List.set_cons_succ, List.set_cons_zero]))
  try any_goals exact undef
  refine Any.E_nil ?_
  intro w9 hE9
  replace hv : Mem w w9 ([(b10, #[.int .u32 0, .int .u32 0]), (b8, #[.int .u32 0, .int .u32 0]), (b4, #[(.slice (some ⟨mb, mo, none⟩) mn mc)])] ++ ([] : List (Nat × Array Value))) _ := hE9.memr (L1 := [(b10, #[.int .u32 0, .int .u32 0]), (b8, #[.int .u32 0, .int .u32 0]), (b4, #[(.slice (some ⟨mb, mo, none⟩) mn mc)])]) hv [1000, 1001, 1002] (by decide)
  clear hE9
  refine Any.wpOp_callv rfl rfl (Go.Proofs.enters_of Try.func54 (by kernel_rfl) rfl) rfl [(.agg #[(.slice (some ⟨mb, mo, none⟩) mn mc)]), .int .i64 (base : Nat), .int .i64 (n : Nat), .int .i64 (s : Nat), .func (.func 65) #[] #[.pointer (some ⟨b10, 0, none⟩)]] rfl ?_
  refine (reading_M hv HM.out base n s HN.out HB.out HP.out (Go.Proofs.enters_of Try.func65 (by kernel_rfl) rfl) (cap := #[.pointer (some ⟨b10, 0, none⟩)]) (Post := fun w' => Mem w w' ((b10, #[.int .u32 (a : Nat), .int .u32 (l : Nat)]) :: (b8, #[.int .u32 0, .int .u32 0]) :: (b4, #[(.slice (some ⟨mb, mo, none⟩) mn mc)]) :: []) [(1, (.slice (some ⟨mb, mo, none⟩) mn mc), cellsB M)]) (fun bF w1 hv1 => UsatC hv1 HM.out HH.out H1.out H2.out)).mono ?_
  rintro e w1 ⟨rfl, hv1⟩
  replace hv := hv1
  clear hv1
  refine ⟨_, rfl, ?_⟩
  have hv0 := hv
  clear hv
  have hv : Mem w _ ([(b10, #[.int .u32 (a : Nat), .int .u32 (l : Nat)]), (b8, #[.int .u32 0, .int .u32 0]), (b4, #[(.slice (some ⟨mb, mo, none⟩) mn mc)])] ++ ([] : List (Nat × Array Value))) _ := hv0
  clear hv0
  refine Any.wpAny_rest 11 [⟨[], none⟩] [.val] (by kernel_rfl) (hv.vars.keep (List.sublist_append_left [(b10, #[.int .u32 (a : Nat), .int .u32 (l : Nat)]), (b8, #[.int .u32 0, .int .u32 0]), (b4, #[(.slice (some ⟨mb, mo, none⟩) mn mc)])] ([] : List (Nat × Array Value)))) ?_
  simp only [List.length_cons, List.length_nil, Nat.zero_add, Nat.reduceAdd, Nat.reduceSub, Any.someVals, List.drop_succ_cons, List.drop_zero]
  simp only [Act.put, List.setIfInBounds_toArray, List.set_cons_succ, List.set_cons_zero]
  iterate 1 apply Exists.intro
  repeat (first
    | (refine Any.E_off rfl ?_; simp only [Act.put, List.setIfInBounds_toArray, List.set_cons_succ, List.set_cons_zero])
    | (apply Any.E_pureq rfl rfl rfl
       case h => intro K hK; go_big_quiet_op; (refine hK _ ?_; rfl)
       case hr => exact fun _ => rfl
       simp only [Act.put, List.setIfInBounds_toArray, List.set_cons_succ, List.set_cons_zero])
    | (apply Any.E_val rfl rfl rfl rfl
       case h =>
         intro E' hA K hK
         first
           | ((with_reducible refine Any.at_qload (T := 25) ?_); refine Any.q_ldv 1002 hA (by decide) rfl rfl 1 _ Try.underlying25 rfl infoM (by decide) rfl ?_; refine hK _ ?_; rfl)
           | (go_big_quiet_op; first
             | (refine hK _ ?_; rfl)
             | (refine ⟨_, fun _ _ => rfl, ?_⟩; refine hK _ ?_; rfl)
             | (apply Exists.intro; refine ⟨fun w1 hw1 => ?_, ?_⟩; · (first
                 | (go_at_call 46; exact Any.calls_VE (HAV.out _) hw1)
                 | (go_at_call 56; exact Any.calls_VE (HPL.out _) hw1))
                refine hK _ ?_; rfl))
       case hD => rfl
       simp only [Act.put, List.setIfInBounds_toArray, List.set_cons_succ, List.set_cons_zero])
    | ((with_reducible refine Any.at_ealloc ?_); refine Any.E_lay rfl rfl rfl (fun _ => rfl) ?_; intro B; simp only [Act.put, List.setIfInBounds_toArray, List.set_cons_succ, List.set_cons_zero]))
  try any_goals exact undef
  refine Any.E_nil ?_
  intro w9 hE9
  replace hv : Mem w w9 ([(b10, #[.int .u32 (a : Nat), .int .u32 (l : Nat)]), (b8, #[.int .u32 0, .int .u32 0]), (b4, #[(.slice (some ⟨mb, mo, none⟩) mn mc)])] ++ ([] : List (Nat × Array Value))) _ := hE9.memr0 (L1 := [(b10, #[.int .u32 (a : Nat), .int .u32 (l : Nat)]), (b8, #[.int .u32 0, .int .u32 0]), (b4, #[(.slice (some ⟨mb, mo, none⟩) mn mc)])]) hv [1000, 1001, 1002] (by decide)
  clear hE9
  simp only [List.cons_append, List.nil_append] at hv
  go_wp2_with (first
    | ((with_reducible refine at_load (T := 101) ?_); refine wl_ldv rfl b10 rfl _ (hv.vars.row (by first | exact .head _ | exact .tail _ (.head _) | exact .tail _ (.tail _ (.head _)) | exact .tail _ (.tail _ (.tail _ (.head _))) | exact .tail _ (.tail _ (.tail _ (.tail _ (.head _)))) | exact .tail _ (.tail _ (.tail _ (.tail _ (.tail _ (.head _))))) | exact .tail _ (.tail _ (.tail _ (.tail _ (.tail _ (.tail _ (.head _)))))) | exact .tail _ (.tail _ (.tail _ (.tail _ (.tail _ (.tail _ (.tail _ (.head _))))))))) 2 _ Try.underlying101 rfl infoUs (by decide) rfl ?_)
    | ((with_reducible refine at_store (T := 101) ?_); refine wl_stv rfl b8 rfl _ rfl _ (hv.vars.row (by first | exact .head _ | exact .tail _ (.head _) | exact .tail _ (.tail _ (.head _)) | exact .tail _ (.tail _ (.tail _ (.head _))) | exact .tail _ (.tail _ (.tail _ (.tail _ (.head _)))) | exact .tail _ (.tail _ (.tail _ (.tail _ (.tail _ (.head _))))) | exact .tail _ (.tail _ (.tail _ (.tail _ (.tail _ (.tail _ (.head _)))))) | exact .tail _ (.tail _ (.tail _ (.tail _ (.tail _ (.tail _ (.tail _ (.head _))))))))) (hv.vars.sft (by first | exact .head _ | exact .tail _ (.head _) | exact .tail _ (.tail _ (.head _)) | exact .tail _ (.tail _ (.tail _ (.head _))) | exact .tail _ (.tail _ (.tail _ (.tail _ (.head _)))) | exact .tail _ (.tail _ (.tail _ (.tail _ (.tail _ (.head _))))) | exact .tail _ (.tail _ (.tail _ (.tail _ (.tail _ (.tail _ (.head _)))))) | exact .tail _ (.tail _ (.tail _ (.tail _ (.tail _ (.tail _ (.tail _ (.head _))))))))) 2 infoUs rfl rfl (by simp [Value.oneCell']) ?_; intro w2 hw2; (first | (replace hv := hv.set 0 rfl hw2) | (replace hv := hv.set 1 rfl hw2) | (replace hv := hv.set 2 rfl hw2) | (replace hv := hv.set 3 rfl hw2)); clear hw2; simp only [List.set] at hv))
  try simp only [Exit.inBlock, Exit.then]
  exact ret_cell2 (v := .agg #[.int .u32 (a : Nat), .int .u32 (l : Nat)]) (v1 := .int .i64 0) rfl rfl (read_row _ b8 101 _ (hv.vars.row (b := b8) (by first | exact .head _ | exact .tail _ (.head _) | exact .tail _ (.tail _ (.head _)) | exact .tail _ (.tail _ (.tail _ (.head _))) | exact .tail _ (.tail _ (.tail _ (.tail _ (.head _)))) | exact .tail _ (.tail _ (.tail _ (.tail _ (.tail _ (.head _))))) | exact .tail _ (.tail _ (.tail _ (.tail _ (.tail _ (.tail _ (.head _)))))) | exact .tail _ (.tail _ (.tail _ (.tail _ (.tail _ (.tail _ (.tail _ (.head _))))))))) 2 _ Try.underlying101 rfl infoUs (by decide) rfl) rfl rfl ⟨rfl, hv.below⟩
end Go.Proofs.Ytcelehhaggoijaa
