/-
  The part of a span between two places: within.
-/
import Derived.Test.YtpbeemgigpaacaaWiChk
set_option linter.unusedVariables false
set_option linter.unusedSimpArgs false
namespace Go.Proofs.Ytpbeemgigpaacaa
open Go.Proofs.Wi Go.RowKit
theorem built_sp0 : Try.prog.built 51 [] = some #[.int .i64 0, .slice none 0 0] := by kernel_rfl
theorem infoB1 : (Try.prog.info? 5).map (·.size) = some 1 := by kernel_rfl
/-- What within answers. -/
def WithinR (w0 : World) (L : List (Nat × Array Value)) (R : List (Nat × Value × List Value)) (r : Option Sp) (e : Ending) (w' : World) : Prop :=
  match r with
  | none => e = .returned (.tuple #[.agg #[.int .i64 0, .slice none 0 0], .bool false]) ∧ Mem w0 w' L R
  | some y => ∃ ao n cap, e = .returned (.tuple #[.agg #[.int .i64 y.1, .slice ao n cap], .bool true]) ∧ Mem w0 w' L ((1, .slice ao n cap, cellsB y.2) :: R)
set_option maxRecDepth 100000 in
set_option maxHeartbeats 4000000 in
theorem within_no00 (x fr tt : Int) (da : Option Addr) (dn dc : Nat) (d : List Nat) (w0 w : World) (L : List (Nat × Array Value)) (R : List (Nat × Value × List Value)) (hv0 : Mem w0 w L R) (hd : (1, .slice da dn dc, cellsB d) ∈ R) (hx1 : -1000000000000 ≤ x) (hx2 : x ≤ 1000000000000) (hf1 : -1000000000000 ≤ fr) (hf2 : fr ≤ 1000000000000) (ht1 : -1000000000000 ≤ tt) (ht2 : tt ≤ 1000000000000) (hdn : dn ≤ 1000000) (hp : ¬ x < fr) (hq : ¬ tt < x + (dn : Int)) (hle : (x + (dn : Int)) ≤ x) :
    Calls Try.prog 23 #[.agg #[.int .i64 x, .slice da dn dc], .int .i64 fr, .int .i64 tt] w (WithinR w0 L R (within (x, d) fr tt)) := by
  have EN1 : Hid (∀ w', Calls Try.prog 27 #[.agg #[.int .i64 x, .slice da dn dc]] w' fun e w2 => e = .returned (.int .i64 (x + (dn : Int))) ∧ New w' w2) := Lib.hid (fun w' => end_any x da dn dc (by omega) (by omega) hdn w')
  have hv := hv0
  have HD := Lib.hid hd
  have HDN := Lib.hid (len_rd1 (hv0.rd hd))
  have hmx : max x fr = x := by omega
  have hmn : min (x + (d.length : Int)) tt = (x + (dn : Int)) := by rw [HDN.out]; omega
  have HMX := Lib.hid hmx
  have HMN := Lib.hid hmn
  have hpg : ¬ fr > x := hp
  clear hv0 hd hmx hmn
  have e : within (x, d) fr tt = none := by
    unfold within
    rw [show max (x, d).1 fr = x from HMX.out, show min ((x, d).1 + ((x, d).2.length : Int)) tt = (x + (dn : Int)) from HMN.out]
    exact if_pos hle
  rw [e]
  have y1 : decide ((x + (dn : Int)) ≤ x) = true := decide_eq_true hle
  clear hx1 hx2 hf1 hf2 ht1 ht2 hdn e
  go_enter Try.func23, Try.ntmps23
  go_wp2_with (first
    | ((with_reducible refine at_box (T := 51) (dst := some 3) ?_); refine wl_newb rfl #[.int .i64 x, .slice da dn dc] 51 (fun _ => rfl) ?_; intro b3 w2 hm2; replace hv := hv.madeAt hm2; clear hm2)
    | ((with_reducible refine at_alloc (T := 51) (dst := some 6) ?_); refine wl_newb rfl #[.int .i64 0, .slice none 0 0] 51 (fun _ => rfl) ?_; intro b6 w2 hm2; replace hv := hv.madeAt hm2; clear hm2))
  refine Any.wp_region_walk [⟨[], none⟩, ⟨[1001], none⟩, ⟨[], none⟩, ⟨[], none⟩, ⟨[1001], none⟩, ⟨[], none⟩, ⟨[], none⟩, ⟨[], none⟩, ⟨[], none⟩, ⟨[], none⟩] [.val, .val, .val, .val, .val, .val, .val, .val, .val, .val] (by kernel_rfl) (by kernel_rfl) (hv.vars.keep (List.sublist_append_left [(b6, #[.int .i64 0, .slice none 0 0]), (b3, #[.int .i64 x, .slice da dn dc])] L)) ?_
  simp only [List.length_cons, List.length_nil, Nat.zero_add, Any.someVals]
  iterate 10 apply Exists.intro
  repeat (first
    | (refine Any.E_off rfl ?_; simp only [Act.put, List.setIfInBounds_toArray, List.set_cons_succ, List.set_cons_zero])
    | (apply Any.E_pureq rfl rfl rfl
       case h => intro K hK; go_big_quiet_op; (refine hK _ ?_; rfl)
       case hr => exact fun _ => rfl
       simp only [Act.put, List.setIfInBounds_toArray, List.set_cons_succ, List.set_cons_zero])
    | (apply Any.E_val rfl rfl rfl rfl
       case h =>
         intro E' hA K hK
         first
           | ((with_reducible refine Any.at_qload (T := 51) ?_); refine Any.q_ldv 1001 hA (by decide) rfl rfl 2 _ Try.underlying51 rfl infoSp (by decide) rfl ?_; refine hK _ ?_; rfl)
           | ((with_reducible refine Any.at_qload (T := 3) ?_); refine Any.q_ldc 1001 hA (by decide) rfl rfl _ Try.underlying3 rfl _ rfl ?_; refine hK _ ?_; rfl)
           | (go_big_quiet_op; first
             | (refine hK _ ?_; rfl)
             | (refine ⟨_, fun _ _ => rfl, ?_⟩; refine hK _ ?_; rfl)
             | (apply Exists.intro; refine ⟨fun w1 hw1 => ?_, ?_⟩; · (first
                 | (go_at_call 27; exact Any.calls_VE (EN1.out _) hw1))
                refine hK _ ?_; rfl))
       case hD => rfl
       simp only [Act.put, List.setIfInBounds_toArray, List.set_cons_succ, List.set_cons_zero])
    | ((with_reducible refine Any.at_ealloc ?_); refine Any.E_lay rfl rfl rfl (fun _ => rfl) ?_; intro B; simp only [Act.put, List.setIfInBounds_toArray, List.set_cons_succ, List.set_cons_zero]))
  try any_goals exact undef
  refine Any.E_nil ?_
  intro w9 hE9
  replace hv : Mem w0 w9 ([(b6, #[.int .i64 0, .slice none 0 0]), (b3, #[.int .i64 x, .slice da dn dc])] ++ L) R := hE9.memr hv [1000, 1001] (by decide)
  clear hE9
  simp only [List.cons_append, List.nil_append] at hv
  go_wp2_with (first
    | ((with_reducible refine at_build (T := 51) ?_); refine wl_build rfl _ rfl built_sp0 ?_)
    | ((with_reducible refine at_store (T := 51) ?_); refine wl_stv rfl b6 rfl _ rfl _ (hv.vars.row (by first | exact .head _ | exact .tail _ (.head _) | exact .tail _ (.tail _ (.head _)) | exact .tail _ (.tail _ (.tail _ (.head _))) | exact .tail _ (.tail _ (.tail _ (.tail _ (.head _)))) | exact .tail _ (.tail _ (.tail _ (.tail _ (.tail _ (.head _))))) | exact .tail _ (.tail _ (.tail _ (.tail _ (.tail _ (.tail _ (.head _)))))) | exact .tail _ (.tail _ (.tail _ (.tail _ (.tail _ (.tail _ (.tail _ (.head _))))))))) (hv.vars.sft (by first | exact .head _ | exact .tail _ (.head _) | exact .tail _ (.tail _ (.head _)) | exact .tail _ (.tail _ (.tail _ (.head _))) | exact .tail _ (.tail _ (.tail _ (.tail _ (.head _)))) | exact .tail _ (.tail _ (.tail _ (.tail _ (.tail _ (.head _))))) | exact .tail _ (.tail _ (.tail _ (.tail _ (.tail _ (.tail _ (.head _)))))) | exact .tail _ (.tail _ (.tail _ (.tail _ (.tail _ (.tail _ (.tail _ (.head _))))))))) 2 infoSp rfl rfl (by simp [Value.oneCell']) ?_; intro w2 hw2; (first | (replace hv := hv.set 0 rfl hw2) | (replace hv := hv.set 1 rfl hw2) | (replace hv := hv.set 2 rfl hw2) | (replace hv := hv.set 3 rfl hw2)); clear hw2; simp only [List.set] at hv))
  refine ret_cell2 Try.results23 rfl (read_row _ b6 51 _ (hv.vars.row (by first | exact .head _ | exact .tail _ (.head _) | exact .tail _ (.tail _ (.head _)) | exact .tail _ (.tail _ (.tail _ (.head _))) | exact .tail _ (.tail _ (.tail _ (.tail _ (.head _)))) | exact .tail _ (.tail _ (.tail _ (.tail _ (.tail _ (.head _))))) | exact .tail _ (.tail _ (.tail _ (.tail _ (.tail _ (.tail _ (.head _)))))) | exact .tail _ (.tail _ (.tail _ (.tail _ (.tail _ (.tail _ (.tail _ (.head _))))))))) 2 _ Try.underlying51 rfl infoSp (by decide) rfl) rfl rfl ⟨rfl, hv.drop.drop⟩
set_option maxRecDepth 100000 in
set_option maxHeartbeats 4000000 in
theorem within_yes00 (x fr tt : Int) (da : Option Addr) (dn dc : Nat) (d : List Nat) (w0 w : World) (L : List (Nat × Array Value)) (R : List (Nat × Value × List Value)) (hv0 : Mem w0 w L R) (hd : (1, .slice da dn dc, cellsB d) ∈ R) (hx1 : -1000000000000 ≤ x) (hx2 : x ≤ 1000000000000) (hf1 : -1000000000000 ≤ fr) (hf2 : fr ≤ 1000000000000) (ht1 : -1000000000000 ≤ tt) (ht2 : tt ≤ 1000000000000) (hdn : dn ≤ 1000000) (hp : ¬ x < fr) (hq : ¬ tt < x + (dn : Int)) (hlt : x < (x + (dn : Int))) :
    Calls Try.prog 23 #[.agg #[.int .i64 x, .slice da dn dc], .int .i64 fr, .int .i64 tt] w (WithinR w0 L R (within (x, d) fr tt)) := by
  have hdc : dn ≤ dc := by
    obtain ⟨_, _, _, e, _, g, _⟩ := hv0.rd hd
    cases e; exact g
  have EN1 : Hid (∀ w', Calls Try.prog 27 #[.agg #[.int .i64 x, .slice da dn dc]] w' fun e w2 => e = .returned (.int .i64 (x + (dn : Int))) ∧ New w' w2) := Lib.hid (fun w' => end_any x da dn dc (by omega) (by omega) hdn w')
  have hv := hv0
  have HD := Lib.hid hd
  have HDN := Lib.hid (len_rd1 (hv0.rd hd))
  have hmx : max x fr = x := by omega
  have hmn : min (x + (d.length : Int)) tt = (x + (dn : Int)) := by rw [HDN.out]; omega
  have HMX := Lib.hid hmx
  have HMN := Lib.hid hmn
  have hpg : ¬ fr > x := hp
  clear hv0 hd hmx hmn
  have ql : IntKind.i64.wrap (x - x) = 0 := by rw [Int.sub_self]; rfl
  have qh : IntKind.i64.wrap (x + (dn : Int) - x) = (dn : Int) := by rw [show x + (dn : Int) - x = (dn : Int) from by omega]; exact IntWalk.i64_in _ (by omega)
  have qh2 : IntKind.i64.wrap (dn : Int) = (dn : Int) := IntWalk.i64_in _ (by omega)
  have e : within (x, d) fr tt = some (x, (d.drop 0).take (dn - 0)) := by
    unfold within
    rw [show max (x, d).1 fr = x from HMX.out, show min ((x, d).1 + ((x, d).2.length : Int)) tt = (x + (dn : Int)) from HMN.out, if_neg (by omega)]
    simp only [Option.some.injEq, Prod.mk.injEq, true_and]
    congr 1
    · omega
    · congr 1
      omega
  rw [e]
  have HLH : Hid (0 ≤ dn) := Lib.hid (by omega)
  have HHN : Hid (dn ≤ dn) := Lib.hid (by omega)
  have HHC : Hid (dn ≤ dc) := Lib.hid (by omega)
  have HCE : Hid (((cellsB d).drop (0 * 1)).take ((dn - 0) * 1) = cellsB ((d.drop 0).take (dn - 0))) := Lib.hid (by simp [cellsB, List.map_take, List.map_drop])
  have y1 : decide ((x + (dn : Int)) ≤ x) = false := decide_eq_false (by omega)
  clear hx1 hx2 hf1 hf2 ht1 ht2 hdn e hdc hlt
  go_enter Try.func23, Try.ntmps23
  go_wp2_with (first
    | ((with_reducible refine at_box (T := 51) (dst := some 3) ?_); refine wl_newb rfl #[.int .i64 x, .slice da dn dc] 51 (fun _ => rfl) ?_; intro b3 w2 hm2; replace hv := hv.madeAt hm2; clear hm2)
    | ((with_reducible refine at_alloc (T := 51) (dst := some 6) ?_); refine wl_newb rfl #[.int .i64 0, .slice none 0 0] 51 (fun _ => rfl) ?_; intro b6 w2 hm2; replace hv := hv.madeAt hm2; clear hm2))
  refine Any.wp_region_walk [⟨[], none⟩, ⟨[1001], none⟩, ⟨[], none⟩, ⟨[], none⟩, ⟨[1001], none⟩, ⟨[], none⟩, ⟨[], none⟩, ⟨[], none⟩, ⟨[], none⟩, ⟨[], none⟩] [.val, .val, .val, .val, .val, .val, .val, .val, .val, .val] (by kernel_rfl) (by kernel_rfl) (hv.vars.keep (List.sublist_append_left [(b6, #[.int .i64 0, .slice none 0 0]), (b3, #[.int .i64 x, .slice da dn dc])] L)) ?_
  simp only [List.length_cons, List.length_nil, Nat.zero_add, Any.someVals]
  iterate 10 apply Exists.intro
  repeat (first
    | (refine Any.E_off rfl ?_; simp only [Act.put, List.setIfInBounds_toArray, List.set_cons_succ, List.set_cons_zero])
    | (apply Any.E_pureq rfl rfl rfl
       case h => intro K hK; go_big_quiet_op; (refine hK _ ?_; rfl)
       case hr => exact fun _ => rfl
       simp only [Act.put, List.setIfInBounds_toArray, List.set_cons_succ, List.set_cons_zero])
    | (apply Any.E_val rfl rfl rfl rfl
       case h =>
         intro E' hA K hK
         first
           | ((with_reducible refine Any.at_qload (T := 51) ?_); refine Any.q_ldv 1001 hA (by decide) rfl rfl 2 _ Try.underlying51 rfl infoSp (by decide) rfl ?_; refine hK _ ?_; rfl)
           | ((with_reducible refine Any.at_qload (T := 3) ?_); refine Any.q_ldc 1001 hA (by decide) rfl rfl _ Try.underlying3 rfl _ rfl ?_; refine hK _ ?_; rfl)
           | (go_big_quiet_op; first
             | (refine hK _ ?_; rfl)
             | (refine ⟨_, fun _ _ => rfl, ?_⟩; refine hK _ ?_; rfl)
             | (apply Exists.intro; refine ⟨fun w1 hw1 => ?_, ?_⟩; · (first
                 | (go_at_call 27; exact Any.calls_VE (EN1.out _) hw1))
                refine hK _ ?_; rfl))
       case hD => rfl
       simp only [Act.put, List.setIfInBounds_toArray, List.set_cons_succ, List.set_cons_zero])
    | ((with_reducible refine Any.at_ealloc ?_); refine Any.E_lay rfl rfl rfl (fun _ => rfl) ?_; intro B; simp only [Act.put, List.setIfInBounds_toArray, List.set_cons_succ, List.set_cons_zero]))
  try any_goals exact undef
  refine Any.E_nil ?_
  intro w9 hE9
  replace hv : Mem w0 w9 ([(b6, #[.int .i64 0, .slice none 0 0]), (b3, #[.int .i64 x, .slice da dn dc])] ++ L) R := hE9.memr hv [1000, 1001] (by decide)
  clear hE9
  simp only [List.cons_append, List.nil_append] at hv
  go_wp2_with (first
    | ((with_reducible refine at_load (T := 23) ?_); refine wl_ldc rfl _ _ rfl _ (hv.vars.row (by first | exact .head _ | exact .tail _ (.head _) | exact .tail _ (.tail _ (.head _)) | exact .tail _ (.tail _ (.tail _ (.head _))) | exact .tail _ (.tail _ (.tail _ (.tail _ (.head _)))) | exact .tail _ (.tail _ (.tail _ (.tail _ (.tail _ (.head _))))) | exact .tail _ (.tail _ (.tail _ (.tail _ (.tail _ (.tail _ (.head _)))))) | exact .tail _ (.tail _ (.tail _ (.tail _ (.tail _ (.tail _ (.tail _ (.head _))))))))) _ Try.underlying23 rfl _ rfl ?_)
    | ((with_reducible refine at_load (T := 3) ?_); refine wl_ldc rfl _ _ rfl _ (hv.vars.row (by first | exact .head _ | exact .tail _ (.head _) | exact .tail _ (.tail _ (.head _)) | exact .tail _ (.tail _ (.tail _ (.head _))) | exact .tail _ (.tail _ (.tail _ (.tail _ (.head _)))) | exact .tail _ (.tail _ (.tail _ (.tail _ (.tail _ (.head _))))) | exact .tail _ (.tail _ (.tail _ (.tail _ (.tail _ (.tail _ (.head _)))))) | exact .tail _ (.tail _ (.tail _ (.tail _ (.tail _ (.tail _ (.tail _ (.head _))))))))) _ Try.underlying3 rfl _ rfl ?_)
    | ((with_reducible refine at_slice (T := 23) ?_); refine wl_slice_lhm rfl rfl hv HD.out Try.underlying23 infoB1 0 dn dn rfl rfl rfl HLH.out HHN.out (Nat.le_refl _) HHC.out ?_; intro ao hv1; replace hv := hv1; clear hv1)
    | ((with_reducible refine at_build (T := 51) ?_); refine wl_build rfl _ rfl (built_sp _ _ _ _) ?_)
    | ((with_reducible refine at_store (T := 51) ?_); refine wl_stv rfl b6 rfl _ rfl _ (hv.vars.row (by first | exact .head _ | exact .tail _ (.head _) | exact .tail _ (.tail _ (.head _)) | exact .tail _ (.tail _ (.tail _ (.head _))) | exact .tail _ (.tail _ (.tail _ (.tail _ (.head _)))) | exact .tail _ (.tail _ (.tail _ (.tail _ (.tail _ (.head _))))) | exact .tail _ (.tail _ (.tail _ (.tail _ (.tail _ (.tail _ (.head _)))))) | exact .tail _ (.tail _ (.tail _ (.tail _ (.tail _ (.tail _ (.tail _ (.head _))))))))) (hv.vars.sft (by first | exact .head _ | exact .tail _ (.head _) | exact .tail _ (.tail _ (.head _)) | exact .tail _ (.tail _ (.tail _ (.head _))) | exact .tail _ (.tail _ (.tail _ (.tail _ (.head _)))) | exact .tail _ (.tail _ (.tail _ (.tail _ (.tail _ (.head _))))) | exact .tail _ (.tail _ (.tail _ (.tail _ (.tail _ (.tail _ (.head _)))))) | exact .tail _ (.tail _ (.tail _ (.tail _ (.tail _ (.tail _ (.tail _ (.head _))))))))) 2 infoSp rfl rfl (by simp [Value.oneCell']) ?_; intro w2 hw2; (first | (replace hv := hv.set 0 rfl hw2) | (replace hv := hv.set 1 rfl hw2) | (replace hv := hv.set 2 rfl hw2) | (replace hv := hv.set 3 rfl hw2)); clear hw2; simp only [List.set] at hv))
  rw [HCE.out] at hv
  refine ret_cell2 Try.results23 rfl (read_row _ b6 51 _ (hv.vars.row (by first | exact .head _ | exact .tail _ (.head _) | exact .tail _ (.tail _ (.head _)) | exact .tail _ (.tail _ (.tail _ (.head _))) | exact .tail _ (.tail _ (.tail _ (.tail _ (.head _)))) | exact .tail _ (.tail _ (.tail _ (.tail _ (.tail _ (.head _))))) | exact .tail _ (.tail _ (.tail _ (.tail _ (.tail _ (.tail _ (.head _)))))) | exact .tail _ (.tail _ (.tail _ (.tail _ (.tail _ (.tail _ (.tail _ (.head _))))))))) 2 _ Try.underlying51 rfl infoSp (by decide) rfl) rfl rfl ⟨_, _, _, rfl, hv.drop.drop⟩
set_option maxRecDepth 100000 in
set_option maxHeartbeats 4000000 in
theorem within_no01 (x fr tt : Int) (da : Option Addr) (dn dc : Nat) (d : List Nat) (w0 w : World) (L : List (Nat × Array Value)) (R : List (Nat × Value × List Value)) (hv0 : Mem w0 w L R) (hd : (1, .slice da dn dc, cellsB d) ∈ R) (hx1 : -1000000000000 ≤ x) (hx2 : x ≤ 1000000000000) (hf1 : -1000000000000 ≤ fr) (hf2 : fr ≤ 1000000000000) (ht1 : -1000000000000 ≤ tt) (ht2 : tt ≤ 1000000000000) (hdn : dn ≤ 1000000) (hp : ¬ x < fr) (hq : tt < x + (dn : Int)) (hle : tt ≤ x) :
    Calls Try.prog 23 #[.agg #[.int .i64 x, .slice da dn dc], .int .i64 fr, .int .i64 tt] w (WithinR w0 L R (within (x, d) fr tt)) := by
  have EN1 : Hid (∀ w', Calls Try.prog 27 #[.agg #[.int .i64 x, .slice da dn dc]] w' fun e w2 => e = .returned (.int .i64 (x + (dn : Int))) ∧ New w' w2) := Lib.hid (fun w' => end_any x da dn dc (by omega) (by omega) hdn w')
  have hv := hv0
  have HD := Lib.hid hd
  have HDN := Lib.hid (len_rd1 (hv0.rd hd))
  have hmx : max x fr = x := by omega
  have hmn : min (x + (d.length : Int)) tt = tt := by rw [HDN.out]; omega
  have HMX := Lib.hid hmx
  have HMN := Lib.hid hmn
  have hpg : ¬ fr > x := hp
  clear hv0 hd hmx hmn
  have e : within (x, d) fr tt = none := by
    unfold within
    rw [show max (x, d).1 fr = x from HMX.out, show min ((x, d).1 + ((x, d).2.length : Int)) tt = tt from HMN.out]
    exact if_pos hle
  rw [e]
  have y1 : decide (tt ≤ x) = true := decide_eq_true hle
  clear hx1 hx2 hf1 hf2 ht1 ht2 hdn e
  go_enter Try.func23, Try.ntmps23
  go_wp2_with (first
    | ((with_reducible refine at_box (T := 51) (dst := some 3) ?_); refine wl_newb rfl #[.int .i64 x, .slice da dn dc] 51 (fun _ => rfl) ?_; intro b3 w2 hm2; replace hv := hv.madeAt hm2; clear hm2)
    | ((with_reducible refine at_alloc (T := 51) (dst := some 6) ?_); refine wl_newb rfl #[.int .i64 0, .slice none 0 0] 51 (fun _ => rfl) ?_; intro b6 w2 hm2; replace hv := hv.madeAt hm2; clear hm2))
  refine Any.wp_region_walk [⟨[], none⟩, ⟨[1001], none⟩, ⟨[], none⟩, ⟨[], none⟩, ⟨[1001], none⟩, ⟨[], none⟩, ⟨[], none⟩, ⟨[], none⟩, ⟨[], none⟩, ⟨[], none⟩] [.val, .val, .val, .val, .val, .val, .val, .val, .val, .val] (by kernel_rfl) (by kernel_rfl) (hv.vars.keep (List.sublist_append_left [(b6, #[.int .i64 0, .slice none 0 0]), (b3, #[.int .i64 x, .slice da dn dc])] L)) ?_
  simp only [List.length_cons, List.length_nil, Nat.zero_add, Any.someVals]
  iterate 10 apply Exists.intro
  repeat (first
    | (refine Any.E_off rfl ?_; simp only [Act.put, List.setIfInBounds_toArray, List.set_cons_succ, List.set_cons_zero])
    | (apply Any.E_pureq rfl rfl rfl
       case h => intro K hK; go_big_quiet_op; (refine hK _ ?_; rfl)
       case hr => exact fun _ => rfl
       simp only [Act.put, List.setIfInBounds_toArray, List.set_cons_succ, List.set_cons_zero])
    | (apply Any.E_val rfl rfl rfl rfl
       case h =>
         intro E' hA K hK
         first
           | ((with_reducible refine Any.at_qload (T := 51) ?_); refine Any.q_ldv 1001 hA (by decide) rfl rfl 2 _ Try.underlying51 rfl infoSp (by decide) rfl ?_; refine hK _ ?_; rfl)
           | ((with_reducible refine Any.at_qload (T := 3) ?_); refine Any.q_ldc 1001 hA (by decide) rfl rfl _ Try.underlying3 rfl _ rfl ?_; refine hK _ ?_; rfl)
           | (go_big_quiet_op; first
             | (refine hK _ ?_; rfl)
             | (refine ⟨_, fun _ _ => rfl, ?_⟩; refine hK _ ?_; rfl)
             | (apply Exists.intro; refine ⟨fun w1 hw1 => ?_, ?_⟩; · (first
                 | (go_at_call 27; exact Any.calls_VE (EN1.out _) hw1))
                refine hK _ ?_; rfl))
       case hD => rfl
       simp only [Act.put, List.setIfInBounds_toArray, List.set_cons_succ, List.set_cons_zero])
    | ((with_reducible refine Any.at_ealloc ?_); refine Any.E_lay rfl rfl rfl (fun _ => rfl) ?_; intro B; simp only [Act.put, List.setIfInBounds_toArray, List.set_cons_succ, List.set_cons_zero]))
  try any_goals exact undef
  refine Any.E_nil ?_
  intro w9 hE9
  replace hv : Mem w0 w9 ([(b6, #[.int .i64 0, .slice none 0 0]), (b3, #[.int .i64 x, .slice da dn dc])] ++ L) R := hE9.memr hv [1000, 1001] (by decide)
  clear hE9
  simp only [List.cons_append, List.nil_append] at hv
  go_wp2_with (first
    | ((with_reducible refine at_build (T := 51) ?_); refine wl_build rfl _ rfl built_sp0 ?_)
    | ((with_reducible refine at_store (T := 51) ?_); refine wl_stv rfl b6 rfl _ rfl _ (hv.vars.row (by first | exact .head _ | exact .tail _ (.head _) | exact .tail _ (.tail _ (.head _)) | exact .tail _ (.tail _ (.tail _ (.head _))) | exact .tail _ (.tail _ (.tail _ (.tail _ (.head _)))) | exact .tail _ (.tail _ (.tail _ (.tail _ (.tail _ (.head _))))) | exact .tail _ (.tail _ (.tail _ (.tail _ (.tail _ (.tail _ (.head _)))))) | exact .tail _ (.tail _ (.tail _ (.tail _ (.tail _ (.tail _ (.tail _ (.head _))))))))) (hv.vars.sft (by first | exact .head _ | exact .tail _ (.head _) | exact .tail _ (.tail _ (.head _)) | exact .tail _ (.tail _ (.tail _ (.head _))) | exact .tail _ (.tail _ (.tail _ (.tail _ (.head _)))) | exact .tail _ (.tail _ (.tail _ (.tail _ (.tail _ (.head _))))) | exact .tail _ (.tail _ (.tail _ (.tail _ (.tail _ (.tail _ (.head _)))))) | exact .tail _ (.tail _ (.tail _ (.tail _ (.tail _ (.tail _ (.tail _ (.head _))))))))) 2 infoSp rfl rfl (by simp [Value.oneCell']) ?_; intro w2 hw2; (first | (replace hv := hv.set 0 rfl hw2) | (replace hv := hv.set 1 rfl hw2) | (replace hv := hv.set 2 rfl hw2) | (replace hv := hv.set 3 rfl hw2)); clear hw2; simp only [List.set] at hv))
  refine ret_cell2 Try.results23 rfl (read_row _ b6 51 _ (hv.vars.row (by first | exact .head _ | exact .tail _ (.head _) | exact .tail _ (.tail _ (.head _)) | exact .tail _ (.tail _ (.tail _ (.head _))) | exact .tail _ (.tail _ (.tail _ (.tail _ (.head _)))) | exact .tail _ (.tail _ (.tail _ (.tail _ (.tail _ (.head _))))) | exact .tail _ (.tail _ (.tail _ (.tail _ (.tail _ (.tail _ (.head _)))))) | exact .tail _ (.tail _ (.tail _ (.tail _ (.tail _ (.tail _ (.tail _ (.head _))))))))) 2 _ Try.underlying51 rfl infoSp (by decide) rfl) rfl rfl ⟨rfl, hv.drop.drop⟩
set_option maxRecDepth 100000 in
set_option maxHeartbeats 4000000 in
theorem within_yes01 (x fr tt : Int) (da : Option Addr) (dn dc : Nat) (d : List Nat) (w0 w : World) (L : List (Nat × Array Value)) (R : List (Nat × Value × List Value)) (hv0 : Mem w0 w L R) (hd : (1, .slice da dn dc, cellsB d) ∈ R) (hx1 : -1000000000000 ≤ x) (hx2 : x ≤ 1000000000000) (hf1 : -1000000000000 ≤ fr) (hf2 : fr ≤ 1000000000000) (ht1 : -1000000000000 ≤ tt) (ht2 : tt ≤ 1000000000000) (hdn : dn ≤ 1000000) (hp : ¬ x < fr) (hq : tt < x + (dn : Int)) (hlt : x < tt) :
    Calls Try.prog 23 #[.agg #[.int .i64 x, .slice da dn dc], .int .i64 fr, .int .i64 tt] w (WithinR w0 L R (within (x, d) fr tt)) := by
  have hdc : dn ≤ dc := by
    obtain ⟨_, _, _, e, _, g, _⟩ := hv0.rd hd
    cases e; exact g
  have EN1 : Hid (∀ w', Calls Try.prog 27 #[.agg #[.int .i64 x, .slice da dn dc]] w' fun e w2 => e = .returned (.int .i64 (x + (dn : Int))) ∧ New w' w2) := Lib.hid (fun w' => end_any x da dn dc (by omega) (by omega) hdn w')
  have hv := hv0
  have HD := Lib.hid hd
  have HDN := Lib.hid (len_rd1 (hv0.rd hd))
  have hmx : max x fr = x := by omega
  have hmn : min (x + (d.length : Int)) tt = tt := by rw [HDN.out]; omega
  have HMX := Lib.hid hmx
  have HMN := Lib.hid hmn
  have hpg : ¬ fr > x := hp
  clear hv0 hd hmx hmn
  have ql : IntKind.i64.wrap (x - x) = 0 := by rw [Int.sub_self]; rfl
  obtain ⟨h, hh⟩ : ∃ h : Nat, tt - x = (h : Int) := ⟨(tt - x).toNat, by omega⟩
  have qh : IntKind.i64.wrap (tt - x) = (h : Int) := by rw [hh]; exact IntWalk.i64_in _ (by omega)
  have e : within (x, d) fr tt = some (x, (d.drop 0).take (h - 0)) := by
    unfold within
    rw [show max (x, d).1 fr = x from HMX.out, show min ((x, d).1 + ((x, d).2.length : Int)) tt = tt from HMN.out, if_neg (by omega)]
    simp only [Option.some.injEq, Prod.mk.injEq, true_and]
    congr 1
    · omega
    · congr 1
      omega
  rw [e]
  have HLH : Hid (0 ≤ h) := Lib.hid (by omega)
  have HHN : Hid (h ≤ dn) := Lib.hid (by omega)
  have HHC : Hid (h ≤ dc) := Lib.hid (by omega)
  have HCE : Hid (((cellsB d).drop (0 * 1)).take ((h - 0) * 1) = cellsB ((d.drop 0).take (h - 0))) := Lib.hid (by simp [cellsB, List.map_take, List.map_drop])
  have y1 : decide (tt ≤ x) = false := decide_eq_false (by omega)
  clear hx1 hx2 hf1 hf2 ht1 ht2 hdn e hdc hlt hh
  go_enter Try.func23, Try.ntmps23
  go_wp2_with (first
    | ((with_reducible refine at_box (T := 51) (dst := some 3) ?_); refine wl_newb rfl #[.int .i64 x, .slice da dn dc] 51 (fun _ => rfl) ?_; intro b3 w2 hm2; replace hv := hv.madeAt hm2; clear hm2)
    | ((with_reducible refine at_alloc (T := 51) (dst := some 6) ?_); refine wl_newb rfl #[.int .i64 0, .slice none 0 0] 51 (fun _ => rfl) ?_; intro b6 w2 hm2; replace hv := hv.madeAt hm2; clear hm2))
  refine Any.wp_region_walk [⟨[], none⟩, ⟨[1001], none⟩, ⟨[], none⟩, ⟨[], none⟩, ⟨[1001], none⟩, ⟨[], none⟩, ⟨[], none⟩, ⟨[], none⟩, ⟨[], none⟩, ⟨[], none⟩] [.val, .val, .val, .val, .val, .val, .val, .val, .val, .val] (by kernel_rfl) (by kernel_rfl) (hv.vars.keep (List.sublist_append_left [(b6, #[.int .i64 0, .slice none 0 0]), (b3, #[.int .i64 x, .slice da dn dc])] L)) ?_
  simp only [List.length_cons, List.length_nil, Nat.zero_add, Any.someVals]
  iterate 10 apply Exists.intro
  repeat (first
    | (refine Any.E_off rfl ?_; simp only [Act.put, List.setIfInBounds_toArray, List.set_cons_succ, List.set_cons_zero])
    | (apply Any.E_pureq rfl rfl rfl
       case h => intro K hK; go_big_quiet_op; (refine hK _ ?_; rfl)
       case hr => exact fun _ => rfl
       simp only [Act.put, List.setIfInBounds_toArray, List.set_cons_succ, List.set_cons_zero])
    | (apply Any.E_val rfl rfl rfl rfl
       case h =>
         intro E' hA K hK
         first
           | ((with_reducible refine Any.at_qload (T := 51) ?_); refine Any.q_ldv 1001 hA (by decide) rfl rfl 2 _ Try.underlying51 rfl infoSp (by decide) rfl ?_; refine hK _ ?_; rfl)
           | ((with_reducible refine Any.at_qload (T := 3) ?_); refine Any.q_ldc 1001 hA (by decide) rfl rfl _ Try.underlying3 rfl _ rfl ?_; refine hK _ ?_; rfl)
           | (go_big_quiet_op; first
             | (refine hK _ ?_; rfl)
             | (refine ⟨_, fun _ _ => rfl, ?_⟩; refine hK _ ?_; rfl)
             | (apply Exists.intro; refine ⟨fun w1 hw1 => ?_, ?_⟩; · (first
                 | (go_at_call 27; exact Any.calls_VE (EN1.out _) hw1))
                refine hK _ ?_; rfl))
       case hD => rfl
       simp only [Act.put, List.setIfInBounds_toArray, List.set_cons_succ, List.set_cons_zero])
    | ((with_reducible refine Any.at_ealloc ?_); refine Any.E_lay rfl rfl rfl (fun _ => rfl) ?_; intro B; simp only [Act.put, List.setIfInBounds_toArray, List.set_cons_succ, List.set_cons_zero]))
  try any_goals exact undef
  refine Any.E_nil ?_
  intro w9 hE9
  replace hv : Mem w0 w9 ([(b6, #[.int .i64 0, .slice none 0 0]), (b3, #[.int .i64 x, .slice da dn dc])] ++ L) R := hE9.memr hv [1000, 1001] (by decide)
  clear hE9
  simp only [List.cons_append, List.nil_append] at hv
  go_wp2_with (first
    | ((with_reducible refine at_load (T := 23) ?_); refine wl_ldc rfl _ _ rfl _ (hv.vars.row (by first | exact .head _ | exact .tail _ (.head _) | exact .tail _ (.tail _ (.head _)) | exact .tail _ (.tail _ (.tail _ (.head _))) | exact .tail _ (.tail _ (.tail _ (.tail _ (.head _)))) | exact .tail _ (.tail _ (.tail _ (.tail _ (.tail _ (.head _))))) | exact .tail _ (.tail _ (.tail _ (.tail _ (.tail _ (.tail _ (.head _)))))) | exact .tail _ (.tail _ (.tail _ (.tail _ (.tail _ (.tail _ (.tail _ (.head _))))))))) _ Try.underlying23 rfl _ rfl ?_)
    | ((with_reducible refine at_load (T := 3) ?_); refine wl_ldc rfl _ _ rfl _ (hv.vars.row (by first | exact .head _ | exact .tail _ (.head _) | exact .tail _ (.tail _ (.head _)) | exact .tail _ (.tail _ (.tail _ (.head _))) | exact .tail _ (.tail _ (.tail _ (.tail _ (.head _)))) | exact .tail _ (.tail _ (.tail _ (.tail _ (.tail _ (.head _))))) | exact .tail _ (.tail _ (.tail _ (.tail _ (.tail _ (.tail _ (.head _)))))) | exact .tail _ (.tail _ (.tail _ (.tail _ (.tail _ (.tail _ (.tail _ (.head _))))))))) _ Try.underlying3 rfl _ rfl ?_)
    | ((with_reducible refine at_slice (T := 23) ?_); refine wl_slice_lhm rfl rfl hv HD.out Try.underlying23 infoB1 0 h h rfl rfl rfl HLH.out HHN.out (Nat.le_refl _) HHC.out ?_; intro ao hv1; replace hv := hv1; clear hv1)
    | ((with_reducible refine at_build (T := 51) ?_); refine wl_build rfl _ rfl (built_sp _ _ _ _) ?_)
    | ((with_reducible refine at_store (T := 51) ?_); refine wl_stv rfl b6 rfl _ rfl _ (hv.vars.row (by first | exact .head _ | exact .tail _ (.head _) | exact .tail _ (.tail _ (.head _)) | exact .tail _ (.tail _ (.tail _ (.head _))) | exact .tail _ (.tail _ (.tail _ (.tail _ (.head _)))) | exact .tail _ (.tail _ (.tail _ (.tail _ (.tail _ (.head _))))) | exact .tail _ (.tail _ (.tail _ (.tail _ (.tail _ (.tail _ (.head _)))))) | exact .tail _ (.tail _ (.tail _ (.tail _ (.tail _ (.tail _ (.tail _ (.head _))))))))) (hv.vars.sft (by first | exact .head _ | exact .tail _ (.head _) | exact .tail _ (.tail _ (.head _)) | exact .tail _ (.tail _ (.tail _ (.head _))) | exact .tail _ (.tail _ (.tail _ (.tail _ (.head _)))) | exact .tail _ (.tail _ (.tail _ (.tail _ (.tail _ (.head _))))) | exact .tail _ (.tail _ (.tail _ (.tail _ (.tail _ (.tail _ (.head _)))))) | exact .tail _ (.tail _ (.tail _ (.tail _ (.tail _ (.tail _ (.tail _ (.head _))))))))) 2 infoSp rfl rfl (by simp [Value.oneCell']) ?_; intro w2 hw2; (first | (replace hv := hv.set 0 rfl hw2) | (replace hv := hv.set 1 rfl hw2) | (replace hv := hv.set 2 rfl hw2) | (replace hv := hv.set 3 rfl hw2)); clear hw2; simp only [List.set] at hv))
  rw [HCE.out] at hv
  refine ret_cell2 Try.results23 rfl (read_row _ b6 51 _ (hv.vars.row (by first | exact .head _ | exact .tail _ (.head _) | exact .tail _ (.tail _ (.head _)) | exact .tail _ (.tail _ (.tail _ (.head _))) | exact .tail _ (.tail _ (.tail _ (.tail _ (.head _)))) | exact .tail _ (.tail _ (.tail _ (.tail _ (.tail _ (.head _))))) | exact .tail _ (.tail _ (.tail _ (.tail _ (.tail _ (.tail _ (.head _)))))) | exact .tail _ (.tail _ (.tail _ (.tail _ (.tail _ (.tail _ (.tail _ (.head _))))))))) 2 _ Try.underlying51 rfl infoSp (by decide) rfl) rfl rfl ⟨_, _, _, rfl, hv.drop.drop⟩
set_option maxRecDepth 100000 in
set_option maxHeartbeats 4000000 in
theorem within_no10 (x fr tt : Int) (da : Option Addr) (dn dc : Nat) (d : List Nat) (w0 w : World) (L : List (Nat × Array Value)) (R : List (Nat × Value × List Value)) (hv0 : Mem w0 w L R) (hd : (1, .slice da dn dc, cellsB d) ∈ R) (hx1 : -1000000000000 ≤ x) (hx2 : x ≤ 1000000000000) (hf1 : -1000000000000 ≤ fr) (hf2 : fr ≤ 1000000000000) (ht1 : -1000000000000 ≤ tt) (ht2 : tt ≤ 1000000000000) (hdn : dn ≤ 1000000) (hp : x < fr) (hq : ¬ tt < x + (dn : Int)) (hle : (x + (dn : Int)) ≤ fr) :
    Calls Try.prog 23 #[.agg #[.int .i64 x, .slice da dn dc], .int .i64 fr, .int .i64 tt] w (WithinR w0 L R (within (x, d) fr tt)) := by
  have EN1 : Hid (∀ w', Calls Try.prog 27 #[.agg #[.int .i64 x, .slice da dn dc]] w' fun e w2 => e = .returned (.int .i64 (x + (dn : Int))) ∧ New w' w2) := Lib.hid (fun w' => end_any x da dn dc (by omega) (by omega) hdn w')
  have hv := hv0
  have HD := Lib.hid hd
  have HDN := Lib.hid (len_rd1 (hv0.rd hd))
  have hmx : max x fr = fr := by omega
  have hmn : min (x + (d.length : Int)) tt = (x + (dn : Int)) := by rw [HDN.out]; omega
  have HMX := Lib.hid hmx
  have HMN := Lib.hid hmn
  have hpg : fr > x := hp
  clear hv0 hd hmx hmn
  have e : within (x, d) fr tt = none := by
    unfold within
    rw [show max (x, d).1 fr = fr from HMX.out, show min ((x, d).1 + ((x, d).2.length : Int)) tt = (x + (dn : Int)) from HMN.out]
    exact if_pos hle
  rw [e]
  have y1 : decide ((x + (dn : Int)) ≤ fr) = true := decide_eq_true hle
  clear hx1 hx2 hf1 hf2 ht1 ht2 hdn e
  go_enter Try.func23, Try.ntmps23
  go_wp2_with (first
    | ((with_reducible refine at_box (T := 51) (dst := some 3) ?_); refine wl_newb rfl #[.int .i64 x, .slice da dn dc] 51 (fun _ => rfl) ?_; intro b3 w2 hm2; replace hv := hv.madeAt hm2; clear hm2)
    | ((with_reducible refine at_alloc (T := 51) (dst := some 6) ?_); refine wl_newb rfl #[.int .i64 0, .slice none 0 0] 51 (fun _ => rfl) ?_; intro b6 w2 hm2; replace hv := hv.madeAt hm2; clear hm2))
  refine Any.wp_region_walk [⟨[], none⟩, ⟨[1001], none⟩, ⟨[], none⟩, ⟨[], none⟩, ⟨[1001], none⟩, ⟨[], none⟩, ⟨[], none⟩, ⟨[], none⟩, ⟨[], none⟩, ⟨[], none⟩] [.val, .val, .val, .val, .val, .val, .val, .val, .val, .val] (by kernel_rfl) (by kernel_rfl) (hv.vars.keep (List.sublist_append_left [(b6, #[.int .i64 0, .slice none 0 0]), (b3, #[.int .i64 x, .slice da dn dc])] L)) ?_
  simp only [List.length_cons, List.length_nil, Nat.zero_add, Any.someVals]
  iterate 10 apply Exists.intro
  repeat (first
    | (refine Any.E_off rfl ?_; simp only [Act.put, List.setIfInBounds_toArray, List.set_cons_succ, List.set_cons_zero])
    | (apply Any.E_pureq rfl rfl rfl
       case h => intro K hK; go_big_quiet_op; (refine hK _ ?_; rfl)
       case hr => exact fun _ => rfl
       simp only [Act.put, List.setIfInBounds_toArray, List.set_cons_succ, List.set_cons_zero])
    | (apply Any.E_val rfl rfl rfl rfl
       case h =>
         intro E' hA K hK
         first
           | ((with_reducible refine Any.at_qload (T := 51) ?_); refine Any.q_ldv 1001 hA (by decide) rfl rfl 2 _ Try.underlying51 rfl infoSp (by decide) rfl ?_; refine hK _ ?_; rfl)
           | ((with_reducible refine Any.at_qload (T := 3) ?_); refine Any.q_ldc 1001 hA (by decide) rfl rfl _ Try.underlying3 rfl _ rfl ?_; refine hK _ ?_; rfl)
           | (go_big_quiet_op; first
             | (refine hK _ ?_; rfl)
             | (refine ⟨_, fun _ _ => rfl, ?_⟩; refine hK _ ?_; rfl)
             | (apply Exists.intro; refine ⟨fun w1 hw1 => ?_, ?_⟩; · (first
                 | (go_at_call 27; exact Any.calls_VE (EN1.out _) hw1))
                refine hK _ ?_; rfl))
       case hD => rfl
       simp only [Act.put, List.setIfInBounds_toArray, List.set_cons_succ, List.set_cons_zero])
    | ((with_reducible refine Any.at_ealloc ?_); refine Any.E_lay rfl rfl rfl (fun _ => rfl) ?_; intro B; simp only [Act.put, List.setIfInBounds_toArray, List.set_cons_succ, List.set_cons_zero]))
  try any_goals exact undef
  refine Any.E_nil ?_
  intro w9 hE9
  replace hv : Mem w0 w9 ([(b6, #[.int .i64 0, .slice none 0 0]), (b3, #[.int .i64 x, .slice da dn dc])] ++ L) R := hE9.memr hv [1000, 1001] (by decide)
  clear hE9
  simp only [List.cons_append, List.nil_append] at hv
  go_wp2_with (first
    | ((with_reducible refine at_build (T := 51) ?_); refine wl_build rfl _ rfl built_sp0 ?_)
    | ((with_reducible refine at_store (T := 51) ?_); refine wl_stv rfl b6 rfl _ rfl _ (hv.vars.row (by first | exact .head _ | exact .tail _ (.head _) | exact .tail _ (.tail _ (.head _)) | exact .tail _ (.tail _ (.tail _ (.head _))) | exact .tail _ (.tail _ (.tail _ (.tail _ (.head _)))) | exact .tail _ (.tail _ (.tail _ (.tail _ (.tail _ (.head _))))) | exact .tail _ (.tail _ (.tail _ (.tail _ (.tail _ (.tail _ (.head _)))))) | exact .tail _ (.tail _ (.tail _ (.tail _ (.tail _ (.tail _ (.tail _ (.head _))))))))) (hv.vars.sft (by first | exact .head _ | exact .tail _ (.head _) | exact .tail _ (.tail _ (.head _)) | exact .tail _ (.tail _ (.tail _ (.head _))) | exact .tail _ (.tail _ (.tail _ (.tail _ (.head _)))) | exact .tail _ (.tail _ (.tail _ (.tail _ (.tail _ (.head _))))) | exact .tail _ (.tail _ (.tail _ (.tail _ (.tail _ (.tail _ (.head _)))))) | exact .tail _ (.tail _ (.tail _ (.tail _ (.tail _ (.tail _ (.tail _ (.head _))))))))) 2 infoSp rfl rfl (by simp [Value.oneCell']) ?_; intro w2 hw2; (first | (replace hv := hv.set 0 rfl hw2) | (replace hv := hv.set 1 rfl hw2) | (replace hv := hv.set 2 rfl hw2) | (replace hv := hv.set 3 rfl hw2)); clear hw2; simp only [List.set] at hv))
  refine ret_cell2 Try.results23 rfl (read_row _ b6 51 _ (hv.vars.row (by first | exact .head _ | exact .tail _ (.head _) | exact .tail _ (.tail _ (.head _)) | exact .tail _ (.tail _ (.tail _ (.head _))) | exact .tail _ (.tail _ (.tail _ (.tail _ (.head _)))) | exact .tail _ (.tail _ (.tail _ (.tail _ (.tail _ (.head _))))) | exact .tail _ (.tail _ (.tail _ (.tail _ (.tail _ (.tail _ (.head _)))))) | exact .tail _ (.tail _ (.tail _ (.tail _ (.tail _ (.tail _ (.tail _ (.head _))))))))) 2 _ Try.underlying51 rfl infoSp (by decide) rfl) rfl rfl ⟨rfl, hv.drop.drop⟩
set_option maxRecDepth 100000 in
set_option maxHeartbeats 4000000 in
theorem within_yes10 (x fr tt : Int) (da : Option Addr) (dn dc : Nat) (d : List Nat) (w0 w : World) (L : List (Nat × Array Value)) (R : List (Nat × Value × List Value)) (hv0 : Mem w0 w L R) (hd : (1, .slice da dn dc, cellsB d) ∈ R) (hx1 : -1000000000000 ≤ x) (hx2 : x ≤ 1000000000000) (hf1 : -1000000000000 ≤ fr) (hf2 : fr ≤ 1000000000000) (ht1 : -1000000000000 ≤ tt) (ht2 : tt ≤ 1000000000000) (hdn : dn ≤ 1000000) (hp : x < fr) (hq : ¬ tt < x + (dn : Int)) (hlt : fr < (x + (dn : Int))) :
    Calls Try.prog 23 #[.agg #[.int .i64 x, .slice da dn dc], .int .i64 fr, .int .i64 tt] w (WithinR w0 L R (within (x, d) fr tt)) := by
  have hdc : dn ≤ dc := by
    obtain ⟨_, _, _, e, _, g, _⟩ := hv0.rd hd
    cases e; exact g
  have EN1 : Hid (∀ w', Calls Try.prog 27 #[.agg #[.int .i64 x, .slice da dn dc]] w' fun e w2 => e = .returned (.int .i64 (x + (dn : Int))) ∧ New w' w2) := Lib.hid (fun w' => end_any x da dn dc (by omega) (by omega) hdn w')
  have hv := hv0
  have HD := Lib.hid hd
  have HDN := Lib.hid (len_rd1 (hv0.rd hd))
  have hmx : max x fr = fr := by omega
  have hmn : min (x + (d.length : Int)) tt = (x + (dn : Int)) := by rw [HDN.out]; omega
  have HMX := Lib.hid hmx
  have HMN := Lib.hid hmn
  have hpg : fr > x := hp
  clear hv0 hd hmx hmn
  obtain ⟨l, hl⟩ : ∃ l : Nat, fr - x = (l : Int) := ⟨(fr - x).toNat, by omega⟩
  have ql : IntKind.i64.wrap (fr - x) = (l : Int) := by rw [hl]; exact IntWalk.i64_in _ (by omega)
  have qh : IntKind.i64.wrap (x + (dn : Int) - x) = (dn : Int) := by rw [show x + (dn : Int) - x = (dn : Int) from by omega]; exact IntWalk.i64_in _ (by omega)
  have qh2 : IntKind.i64.wrap (dn : Int) = (dn : Int) := IntWalk.i64_in _ (by omega)
  have e : within (x, d) fr tt = some (fr, (d.drop l).take (dn - l)) := by
    unfold within
    rw [show max (x, d).1 fr = fr from HMX.out, show min ((x, d).1 + ((x, d).2.length : Int)) tt = (x + (dn : Int)) from HMN.out, if_neg (by omega)]
    simp only [Option.some.injEq, Prod.mk.injEq, true_and]
    congr 1
    · omega
    · congr 1
      omega
  rw [e]
  have HLH : Hid (l ≤ dn) := Lib.hid (by omega)
  have HHN : Hid (dn ≤ dn) := Lib.hid (by omega)
  have HHC : Hid (dn ≤ dc) := Lib.hid (by omega)
  have HCE : Hid (((cellsB d).drop (l * 1)).take ((dn - l) * 1) = cellsB ((d.drop l).take (dn - l))) := Lib.hid (by simp [cellsB, List.map_take, List.map_drop])
  have y1 : decide ((x + (dn : Int)) ≤ fr) = false := decide_eq_false (by omega)
  clear hx1 hx2 hf1 hf2 ht1 ht2 hdn e hdc hlt hl
  go_enter Try.func23, Try.ntmps23
  go_wp2_with (first
    | ((with_reducible refine at_box (T := 51) (dst := some 3) ?_); refine wl_newb rfl #[.int .i64 x, .slice da dn dc] 51 (fun _ => rfl) ?_; intro b3 w2 hm2; replace hv := hv.madeAt hm2; clear hm2)
    | ((with_reducible refine at_alloc (T := 51) (dst := some 6) ?_); refine wl_newb rfl #[.int .i64 0, .slice none 0 0] 51 (fun _ => rfl) ?_; intro b6 w2 hm2; replace hv := hv.madeAt hm2; clear hm2))
  refine Any.wp_region_walk [⟨[], none⟩, ⟨[1001], none⟩, ⟨[], none⟩, ⟨[], none⟩, ⟨[1001], none⟩, ⟨[], none⟩, ⟨[], none⟩, ⟨[], none⟩, ⟨[], none⟩, ⟨[], none⟩] [.val, .val, .val, .val, .val, .val, .val, .val, .val, .val] (by kernel_rfl) (by kernel_rfl) (hv.vars.keep (List.sublist_append_left [(b6, #[.int .i64 0, .slice none 0 0]), (b3, #[.int .i64 x, .slice da dn dc])] L)) ?_
  simp only [List.length_cons, List.length_nil, Nat.zero_add, Any.someVals]
  iterate 10 apply Exists.intro
  repeat (first
    | (refine Any.E_off rfl ?_; simp only [Act.put, List.setIfInBounds_toArray, List.set_cons_succ, List.set_cons_zero])
    | (apply Any.E_pureq rfl rfl rfl
       case h => intro K hK; go_big_quiet_op; (refine hK _ ?_; rfl)
       case hr => exact fun _ => rfl
       simp only [Act.put, List.setIfInBounds_toArray, List.set_cons_succ, List.set_cons_zero])
    | (apply Any.E_val rfl rfl rfl rfl
       case h =>
         intro E' hA K hK
         first
           | ((with_reducible refine Any.at_qload (T := 51) ?_); refine Any.q_ldv 1001 hA (by decide) rfl rfl 2 _ Try.underlying51 rfl infoSp (by decide) rfl ?_; refine hK _ ?_; rfl)
           | ((with_reducible refine Any.at_qload (T := 3) ?_); refine Any.q_ldc 1001 hA (by decide) rfl rfl _ Try.underlying3 rfl _ rfl ?_; refine hK _ ?_; rfl)
           | (go_big_quiet_op; first
             | (refine hK _ ?_; rfl)
             | (refine ⟨_, fun _ _ => rfl, ?_⟩; refine hK _ ?_; rfl)
             | (apply Exists.intro; refine ⟨fun w1 hw1 => ?_, ?_⟩; · (first
                 | (go_at_call 27; exact Any.calls_VE (EN1.out _) hw1))
                refine hK _ ?_; rfl))
       case hD => rfl
       simp only [Act.put, List.setIfInBounds_toArray, List.set_cons_succ, List.set_cons_zero])
    | ((with_reducible refine Any.at_ealloc ?_); refine Any.E_lay rfl rfl rfl (fun _ => rfl) ?_; intro B; simp only [Act.put, List.setIfInBounds_toArray, List.set_cons_succ, List.set_cons_zero]))
  try any_goals exact undef
  refine Any.E_nil ?_
  intro w9 hE9
  replace hv : Mem w0 w9 ([(b6, #[.int .i64 0, .slice none 0 0]), (b3, #[.int .i64 x, .slice da dn dc])] ++ L) R := hE9.memr hv [1000, 1001] (by decide)
  clear hE9
  simp only [List.cons_append, List.nil_append] at hv
  go_wp2_with (first
    | ((with_reducible refine at_load (T := 23) ?_); refine wl_ldc rfl _ _ rfl _ (hv.vars.row (by first | exact .head _ | exact .tail _ (.head _) | exact .tail _ (.tail _ (.head _)) | exact .tail _ (.tail _ (.tail _ (.head _))) | exact .tail _ (.tail _ (.tail _ (.tail _ (.head _)))) | exact .tail _ (.tail _ (.tail _ (.tail _ (.tail _ (.head _))))) | exact .tail _ (.tail _ (.tail _ (.tail _ (.tail _ (.tail _ (.head _)))))) | exact .tail _ (.tail _ (.tail _ (.tail _ (.tail _ (.tail _ (.tail _ (.head _))))))))) _ Try.underlying23 rfl _ rfl ?_)
    | ((with_reducible refine at_load (T := 3) ?_); refine wl_ldc rfl _ _ rfl _ (hv.vars.row (by first | exact .head _ | exact .tail _ (.head _) | exact .tail _ (.tail _ (.head _)) | exact .tail _ (.tail _ (.tail _ (.head _))) | exact .tail _ (.tail _ (.tail _ (.tail _ (.head _)))) | exact .tail _ (.tail _ (.tail _ (.tail _ (.tail _ (.head _))))) | exact .tail _ (.tail _ (.tail _ (.tail _ (.tail _ (.tail _ (.head _)))))) | exact .tail _ (.tail _ (.tail _ (.tail _ (.tail _ (.tail _ (.tail _ (.head _))))))))) _ Try.underlying3 rfl _ rfl ?_)
    | ((with_reducible refine at_slice (T := 23) ?_); refine wl_slice_lhm rfl rfl hv HD.out Try.underlying23 infoB1 l dn dn rfl rfl rfl HLH.out HHN.out (Nat.le_refl _) HHC.out ?_; intro ao hv1; replace hv := hv1; clear hv1)
    | ((with_reducible refine at_build (T := 51) ?_); refine wl_build rfl _ rfl (built_sp _ _ _ _) ?_)
    | ((with_reducible refine at_store (T := 51) ?_); refine wl_stv rfl b6 rfl _ rfl _ (hv.vars.row (by first | exact .head _ | exact .tail _ (.head _) | exact .tail _ (.tail _ (.head _)) | exact .tail _ (.tail _ (.tail _ (.head _))) | exact .tail _ (.tail _ (.tail _ (.tail _ (.head _)))) | exact .tail _ (.tail _ (.tail _ (.tail _ (.tail _ (.head _))))) | exact .tail _ (.tail _ (.tail _ (.tail _ (.tail _ (.tail _ (.head _)))))) | exact .tail _ (.tail _ (.tail _ (.tail _ (.tail _ (.tail _ (.tail _ (.head _))))))))) (hv.vars.sft (by first | exact .head _ | exact .tail _ (.head _) | exact .tail _ (.tail _ (.head _)) | exact .tail _ (.tail _ (.tail _ (.head _))) | exact .tail _ (.tail _ (.tail _ (.tail _ (.head _)))) | exact .tail _ (.tail _ (.tail _ (.tail _ (.tail _ (.head _))))) | exact .tail _ (.tail _ (.tail _ (.tail _ (.tail _ (.tail _ (.head _)))))) | exact .tail _ (.tail _ (.tail _ (.tail _ (.tail _ (.tail _ (.tail _ (.head _))))))))) 2 infoSp rfl rfl (by simp [Value.oneCell']) ?_; intro w2 hw2; (first | (replace hv := hv.set 0 rfl hw2) | (replace hv := hv.set 1 rfl hw2) | (replace hv := hv.set 2 rfl hw2) | (replace hv := hv.set 3 rfl hw2)); clear hw2; simp only [List.set] at hv))
  rw [HCE.out] at hv
  refine ret_cell2 Try.results23 rfl (read_row _ b6 51 _ (hv.vars.row (by first | exact .head _ | exact .tail _ (.head _) | exact .tail _ (.tail _ (.head _)) | exact .tail _ (.tail _ (.tail _ (.head _))) | exact .tail _ (.tail _ (.tail _ (.tail _ (.head _)))) | exact .tail _ (.tail _ (.tail _ (.tail _ (.tail _ (.head _))))) | exact .tail _ (.tail _ (.tail _ (.tail _ (.tail _ (.tail _ (.head _)))))) | exact .tail _ (.tail _ (.tail _ (.tail _ (.tail _ (.tail _ (.tail _ (.head _))))))))) 2 _ Try.underlying51 rfl infoSp (by decide) rfl) rfl rfl ⟨_, _, _, rfl, hv.drop.drop⟩
set_option maxRecDepth 100000 in
set_option maxHeartbeats 4000000 in
theorem within_no11 (x fr tt : Int) (da : Option Addr) (dn dc : Nat) (d : List Nat) (w0 w : World) (L : List (Nat × Array Value)) (R : List (Nat × Value × List Value)) (hv0 : Mem w0 w L R) (hd : (1, .slice da dn dc, cellsB d) ∈ R) (hx1 : -1000000000000 ≤ x) (hx2 : x ≤ 1000000000000) (hf1 : -1000000000000 ≤ fr) (hf2 : fr ≤ 1000000000000) (ht1 : -1000000000000 ≤ tt) (ht2 : tt ≤ 1000000000000) (hdn : dn ≤ 1000000) (hp : x < fr) (hq : tt < x + (dn : Int)) (hle : tt ≤ fr) :
    Calls Try.prog 23 #[.agg #[.int .i64 x, .slice da dn dc], .int .i64 fr, .int .i64 tt] w (WithinR w0 L R (within (x, d) fr tt)) := by
  have EN1 : Hid (∀ w', Calls Try.prog 27 #[.agg #[.int .i64 x, .slice da dn dc]] w' fun e w2 => e = .returned (.int .i64 (x + (dn : Int))) ∧ New w' w2) := Lib.hid (fun w' => end_any x da dn dc (by omega) (by omega) hdn w')
  have hv := hv0
  have HD := Lib.hid hd
  have HDN := Lib.hid (len_rd1 (hv0.rd hd))
  have hmx : max x fr = fr := by omega
  have hmn : min (x + (d.length : Int)) tt = tt := by rw [HDN.out]; omega
  have HMX := Lib.hid hmx
  have HMN := Lib.hid hmn
  have hpg : fr > x := hp
  clear hv0 hd hmx hmn
  have e : within (x, d) fr tt = none := by
    unfold within
    rw [show max (x, d).1 fr = fr from HMX.out, show min ((x, d).1 + ((x, d).2.length : Int)) tt = tt from HMN.out]
    exact if_pos hle
  rw [e]
  have y1 : decide (tt ≤ fr) = true := decide_eq_true hle
  clear hx1 hx2 hf1 hf2 ht1 ht2 hdn e
  go_enter Try.func23, Try.ntmps23
  go_wp2_with (first
    | ((with_reducible refine at_box (T := 51) (dst := some 3) ?_); refine wl_newb rfl #[.int .i64 x, .slice da dn dc] 51 (fun _ => rfl) ?_; intro b3 w2 hm2; replace hv := hv.madeAt hm2; clear hm2)
    | ((with_reducible refine at_alloc (T := 51) (dst := some 6) ?_); refine wl_newb rfl #[.int .i64 0, .slice none 0 0] 51 (fun _ => rfl) ?_; intro b6 w2 hm2; replace hv := hv.madeAt hm2; clear hm2))
  refine Any.wp_region_walk [⟨[], none⟩, ⟨[1001], none⟩, ⟨[], none⟩, ⟨[], none⟩, ⟨[1001], none⟩, ⟨[], none⟩, ⟨[], none⟩, ⟨[], none⟩, ⟨[], none⟩, ⟨[], none⟩] [.val, .val, .val, .val, .val, .val, .val, .val, .val, .val] (by kernel_rfl) (by kernel_rfl) (hv.vars.keep (List.sublist_append_left [(b6, #[.int .i64 0, .slice none 0 0]), (b3, #[.int .i64 x, .slice da dn dc])] L)) ?_
  simp only [List.length_cons, List.length_nil, Nat.zero_add, Any.someVals]
  iterate 10 apply Exists.intro
  repeat (first
    | (refine Any.E_off rfl ?_; simp only [Act.put, List.setIfInBounds_toArray, List.set_cons_succ, List.set_cons_zero])
    | (apply Any.E_pureq rfl rfl rfl
       case h => intro K hK; go_big_quiet_op; (refine hK _ ?_; rfl)
       case hr => exact fun _ => rfl
       simp only [Act.put, List.setIfInBounds_toArray, List.set_cons_succ, List.set_cons_zero])
    | (apply Any.E_val rfl rfl rfl rfl
       case h =>
         intro E' hA K hK
         first
           | ((with_reducible refine Any.at_qload (T := 51) ?_); refine Any.q_ldv 1001 hA (by decide) rfl rfl 2 _ Try.underlying51 rfl infoSp (by decide) rfl ?_; refine hK _ ?_; rfl)
           | ((with_reducible refine Any.at_qload (T := 3) ?_); refine Any.q_ldc 1001 hA (by decide) rfl rfl _ Try.underlying3 rfl _ rfl ?_; refine hK _ ?_; rfl)
           | (go_big_quiet_op; first
             | (refine hK _ ?_; rfl)
             | (refine ⟨_, fun _ _ => rfl, ?_⟩; refine hK _ ?_; rfl)
             | (apply Exists.intro; refine ⟨fun w1 hw1 => ?_, ?_⟩; · (first
                 | (go_at_call 27; exact Any.calls_VE (EN1.out _) hw1))
                refine hK _ ?_; rfl))
       case hD => rfl
       simp only [Act.put, List.setIfInBounds_toArray, List.set_cons_succ, List.set_cons_zero])
    | ((with_reducible refine Any.at_ealloc ?_); refine Any.E_lay rfl rfl rfl (fun _ => rfl) ?_; intro B; simp only [Act.put, List.setIfInBounds_toArray, List.set_cons_succ, List.set_cons_zero]))
  try any_goals exact undef
  refine Any.E_nil ?_
  intro w9 hE9
  replace hv : Mem w0 w9 ([(b6, #[.int .i64 0, .slice none 0 0]), (b3, #[.int .i64 x, .slice da dn dc])] ++ L) R := hE9.memr hv [1000, 1001] (by decide)
  clear hE9
  simp only [List.cons_append, List.nil_append] at hv
  go_wp2_with (first
    | ((with_reducible refine at_build (T := 51) ?_); refine wl_build rfl _ rfl built_sp0 ?_)
    | ((with_reducible refine at_store (T := 51) ?_); refine wl_stv rfl b6 rfl _ rfl _ (hv.vars.row (by first | exact .head _ | exact .tail _ (.head _) | exact .tail _ (.tail _ (.head _)) | exact .tail _ (.tail _ (.tail _ (.head _))) | exact .tail _ (.tail _ (.tail _ (.tail _ (.head _)))) | exact .tail _ (.tail _ (.tail _ (.tail _ (.tail _ (.head _))))) | exact .tail _ (.tail _ (.tail _ (.tail _ (.tail _ (.tail _ (.head _)))))) | exact .tail _ (.tail _ (.tail _ (.tail _ (.tail _ (.tail _ (.tail _ (.head _))))))))) (hv.vars.sft (by first | exact .head _ | exact .tail _ (.head _) | exact .tail _ (.tail _ (.head _)) | exact .tail _ (.tail _ (.tail _ (.head _))) | exact .tail _ (.tail _ (.tail _ (.tail _ (.head _)))) | exact .tail _ (.tail _ (.tail _ (.tail _ (.tail _ (.head _))))) | exact .tail _ (.tail _ (.tail _ (.tail _ (.tail _ (.tail _ (.head _)))))) | exact .tail _ (.tail _ (.tail _ (.tail _ (.tail _ (.tail _ (.tail _ (.head _))))))))) 2 infoSp rfl rfl (by simp [Value.oneCell']) ?_; intro w2 hw2; (first | (replace hv := hv.set 0 rfl hw2) | (replace hv := hv.set 1 rfl hw2) | (replace hv := hv.set 2 rfl hw2) | (replace hv := hv.set 3 rfl hw2)); clear hw2; simp only [List.set] at hv))
  refine ret_cell2 Try.results23 rfl (read_row _ b6 51 _ (hv.vars.row (by first | exact .head _ | exact .tail _ (.head _) | exact .tail _ (.tail _ (.head _)) | exact .tail _ (.tail _ (.tail _ (.head _))) | exact .tail _ (.tail _ (.tail _ (.tail _ (.head _)))) | exact .tail _ (.tail _ (.tail _ (.tail _ (.tail _ (.head _))))) | exact .tail _ (.tail _ (.tail _ (.tail _ (.tail _ (.tail _ (.head _)))))) | exact .tail _ (.tail _ (.tail _ (.tail _ (.tail _ (.tail _ (.tail _ (.head _))))))))) 2 _ Try.underlying51 rfl infoSp (by decide) rfl) rfl rfl ⟨rfl, hv.drop.drop⟩
set_option maxRecDepth 100000 in
set_option maxHeartbeats 4000000 in
theorem within_yes11 (x fr tt : Int) (da : Option Addr) (dn dc : Nat) (d : List Nat) (w0 w : World) (L : List (Nat × Array Value)) (R : List (Nat × Value × List Value)) (hv0 : Mem w0 w L R) (hd : (1, .slice da dn dc, cellsB d) ∈ R) (hx1 : -1000000000000 ≤ x) (hx2 : x ≤ 1000000000000) (hf1 : -1000000000000 ≤ fr) (hf2 : fr ≤ 1000000000000) (ht1 : -1000000000000 ≤ tt) (ht2 : tt ≤ 1000000000000) (hdn : dn ≤ 1000000) (hp : x < fr) (hq : tt < x + (dn : Int)) (hlt : fr < tt) :
    Calls Try.prog 23 #[.agg #[.int .i64 x, .slice da dn dc], .int .i64 fr, .int .i64 tt] w (WithinR w0 L R (within (x, d) fr tt)) := by
  have hdc : dn ≤ dc := by
    obtain ⟨_, _, _, e, _, g, _⟩ := hv0.rd hd
    cases e; exact g
  have EN1 : Hid (∀ w', Calls Try.prog 27 #[.agg #[.int .i64 x, .slice da dn dc]] w' fun e w2 => e = .returned (.int .i64 (x + (dn : Int))) ∧ New w' w2) := Lib.hid (fun w' => end_any x da dn dc (by omega) (by omega) hdn w')
  have hv := hv0
  have HD := Lib.hid hd
  have HDN := Lib.hid (len_rd1 (hv0.rd hd))
  have hmx : max x fr = fr := by omega
  have hmn : min (x + (d.length : Int)) tt = tt := by rw [HDN.out]; omega
  have HMX := Lib.hid hmx
  have HMN := Lib.hid hmn
  have hpg : fr > x := hp
  clear hv0 hd hmx hmn
  obtain ⟨l, hl⟩ : ∃ l : Nat, fr - x = (l : Int) := ⟨(fr - x).toNat, by omega⟩
  have ql : IntKind.i64.wrap (fr - x) = (l : Int) := by rw [hl]; exact IntWalk.i64_in _ (by omega)
  obtain ⟨h, hh⟩ : ∃ h : Nat, tt - x = (h : Int) := ⟨(tt - x).toNat, by omega⟩
  have qh : IntKind.i64.wrap (tt - x) = (h : Int) := by rw [hh]; exact IntWalk.i64_in _ (by omega)
  have e : within (x, d) fr tt = some (fr, (d.drop l).take (h - l)) := by
    unfold within
    rw [show max (x, d).1 fr = fr from HMX.out, show min ((x, d).1 + ((x, d).2.length : Int)) tt = tt from HMN.out, if_neg (by omega)]
    simp only [Option.some.injEq, Prod.mk.injEq, true_and]
    congr 1
    · omega
    · congr 1
      omega
  rw [e]
  have HLH : Hid (l ≤ h) := Lib.hid (by omega)
  have HHN : Hid (h ≤ dn) := Lib.hid (by omega)
  have HHC : Hid (h ≤ dc) := Lib.hid (by omega)
  have HCE : Hid (((cellsB d).drop (l * 1)).take ((h - l) * 1) = cellsB ((d.drop l).take (h - l))) := Lib.hid (by simp [cellsB, List.map_take, List.map_drop])
  have y1 : decide (tt ≤ fr) = false := decide_eq_false (by omega)
  clear hx1 hx2 hf1 hf2 ht1 ht2 hdn e hdc hlt hl hh
  go_enter Try.func23, Try.ntmps23
  go_wp2_with (first
    | ((with_reducible refine at_box (T := 51) (dst := some 3) ?_); refine wl_newb rfl #[.int .i64 x, .slice da dn dc] 51 (fun _ => rfl) ?_; intro b3 w2 hm2; replace hv := hv.madeAt hm2; clear hm2)
    | ((with_reducible refine at_alloc (T := 51) (dst := some 6) ?_); refine wl_newb rfl #[.int .i64 0, .slice none 0 0] 51 (fun _ => rfl) ?_; intro b6 w2 hm2; replace hv := hv.madeAt hm2; clear hm2))
  refine Any.wp_region_walk [⟨[], none⟩, ⟨[1001], none⟩, ⟨[], none⟩, ⟨[], none⟩, ⟨[1001], none⟩, ⟨[], none⟩, ⟨[], none⟩, ⟨[], none⟩, ⟨[], none⟩, ⟨[], none⟩] [.val, .val, .val, .val, .val, .val, .val, .val, .val, .val] (by kernel_rfl) (by kernel_rfl) (hv.vars.keep (List.sublist_append_left [(b6, #[.int .i64 0, .slice none 0 0]), (b3, #[.int .i64 x, .slice da dn dc])] L)) ?_
  simp only [List.length_cons, List.length_nil, Nat.zero_add, Any.someVals]
  iterate 10 apply Exists.intro
  repeat (first
    | (refine Any.E_off rfl ?_; simp only [Act.put, List.setIfInBounds_toArray, List.set_cons_succ, List.set_cons_zero])
    | (apply Any.E_pureq rfl rfl rfl
       case h => intro K hK; go_big_quiet_op; (refine hK _ ?_; rfl)
       case hr => exact fun _ => rfl
       simp only [Act.put, List.setIfInBounds_toArray, List.set_cons_succ, List.set_cons_zero])
    | (apply Any.E_val rfl rfl rfl rfl
       case h =>
         intro E' hA K hK
         first
           | ((with_reducible refine Any.at_qload (T := 51) ?_); refine Any.q_ldv 1001 hA (by decide) rfl rfl 2 _ Try.underlying51 rfl infoSp (by decide) rfl ?_; refine hK _ ?_; rfl)
           | ((with_reducible refine Any.at_qload (T := 3) ?_); refine Any.q_ldc 1001 hA (by decide) rfl rfl _ Try.underlying3 rfl _ rfl ?_; refine hK _ ?_; rfl)
           | (go_big_quiet_op; first
             | (refine hK _ ?_; rfl)
             | (refine ⟨_, fun _ _ => rfl, ?_⟩; refine hK _ ?_; rfl)
             | (apply Exists.intro; refine ⟨fun w1 hw1 => ?_, ?_⟩; · (first
                 | (go_at_call 27; exact Any.calls_VE (EN1.out _) hw1))
                refine hK _ ?_; rfl))
       case hD => rfl
       simp only [Act.put, List.setIfInBounds_toArray, List.set_cons_succ, List.set_cons_zero])
    | ((with_reducible refine Any.at_ealloc ?_); refine Any.E_lay rfl rfl rfl (fun _ => rfl) ?_; intro B; simp only [Act.put, List.setIfInBounds_toArray, List.set_cons_succ, List.set_cons_zero]))
  try any_goals exact undef
  refine Any.E_nil ?_
  intro w9 hE9
  replace hv : Mem w0 w9 ([(b6, #[.int .i64 0, .slice none 0 0]), (b3, #[.int .i64 x, .slice da dn dc])] ++ L) R := hE9.memr hv [1000, 1001] (by decide)
  clear hE9
  simp only [List.cons_append, List.nil_append] at hv
  go_wp2_with (first
    | ((with_reducible refine at_load (T := 23) ?_); refine wl_ldc rfl _ _ rfl _ (hv.vars.row (by first | exact .head _ | exact .tail _ (.head _) | exact .tail _ (.tail _ (.head _)) | exact .tail _ (.tail _ (.tail _ (.head _))) | exact .tail _ (.tail _ (.tail _ (.tail _ (.head _)))) | exact .tail _ (.tail _ (.tail _ (.tail _ (.tail _ (.head _))))) | exact .tail _ (.tail _ (.tail _ (.tail _ (.tail _ (.tail _ (.head _)))))) | exact .tail _ (.tail _ (.tail _ (.tail _ (.tail _ (.tail _ (.tail _ (.head _))))))))) _ Try.underlying23 rfl _ rfl ?_)
    | ((with_reducible refine at_load (T := 3) ?_); refine wl_ldc rfl _ _ rfl _ (hv.vars.row (by first | exact .head _ | exact .tail _ (.head _) | exact .tail _ (.tail _ (.head _)) | exact .tail _ (.tail _ (.tail _ (.head _))) | exact .tail _ (.tail _ (.tail _ (.tail _ (.head _)))) | exact .tail _ (.tail _ (.tail _ (.tail _ (.tail _ (.head _))))) | exact .tail _ (.tail _ (.tail _ (.tail _ (.tail _ (.tail _ (.head _)))))) | exact .tail _ (.tail _ (.tail _ (.tail _ (.tail _ (.tail _ (.tail _ (.head _))))))))) _ Try.underlying3 rfl _ rfl ?_)
    | ((with_reducible refine at_slice (T := 23) ?_); refine wl_slice_lhm rfl rfl hv HD.out Try.underlying23 infoB1 l h h rfl rfl rfl HLH.out HHN.out (Nat.le_refl _) HHC.out ?_; intro ao hv1; replace hv := hv1; clear hv1)
    | ((with_reducible refine at_build (T := 51) ?_); refine wl_build rfl _ rfl (built_sp _ _ _ _) ?_)
    | ((with_reducible refine at_store (T := 51) ?_); refine wl_stv rfl b6 rfl _ rfl _ (hv.vars.row (by first | exact .head _ | exact .tail _ (.head _) | exact .tail _ (.tail _ (.head _)) | exact .tail _ (.tail _ (.tail _ (.head _))) | exact .tail _ (.tail _ (.tail _ (.tail _ (.head _)))) | exact .tail _ (.tail _ (.tail _ (.tail _ (.tail _ (.head _))))) | exact .tail _ (.tail _ (.tail _ (.tail _ (.tail _ (.tail _ (.head _)))))) | exact .tail _ (.tail _ (.tail _ (.tail _ (.tail _ (.tail _ (.tail _ (.head _))))))))) (hv.vars.sft (by first | exact .head _ | exact .tail _ (.head _) | exact .tail _ (.tail _ (.head _)) | exact .tail _ (.tail _ (.tail _ (.head _))) | exact .tail _ (.tail _ (.tail _ (.tail _ (.head _)))) | exact .tail _ (.tail _ (.tail _ (.tail _ (.tail _ (.head _))))) | exact .tail _ (.tail _ (.tail _ (.tail _ (.tail _ (.tail _ (.head _)))))) | exact .tail _ (.tail _ (.tail _ (.tail _ (.tail _ (.tail _ (.tail _ (.head _))))))))) 2 infoSp rfl rfl (by simp [Value.oneCell']) ?_; intro w2 hw2; (first | (replace hv := hv.set 0 rfl hw2) | (replace hv := hv.set 1 rfl hw2) | (replace hv := hv.set 2 rfl hw2) | (replace hv := hv.set 3 rfl hw2)); clear hw2; simp only [List.set] at hv))
  rw [HCE.out] at hv
  refine ret_cell2 Try.results23 rfl (read_row _ b6 51 _ (hv.vars.row (by first | exact .head _ | exact .tail _ (.head _) | exact .tail _ (.tail _ (.head _)) | exact .tail _ (.tail _ (.tail _ (.head _))) | exact .tail _ (.tail _ (.tail _ (.tail _ (.head _)))) | exact .tail _ (.tail _ (.tail _ (.tail _ (.tail _ (.head _))))) | exact .tail _ (.tail _ (.tail _ (.tail _ (.tail _ (.tail _ (.head _)))))) | exact .tail _ (.tail _ (.tail _ (.tail _ (.tail _ (.tail _ (.tail _ (.head _))))))))) 2 _ Try.underlying51 rfl infoSp (by decide) rfl) rfl rfl ⟨_, _, _, rfl, hv.drop.drop⟩
theorem within_any (x fr tt : Int) (da : Option Addr) (dn dc : Nat) (d : List Nat) (w0 w : World) (L : List (Nat × Array Value)) (R : List (Nat × Value × List Value)) (hv0 : Mem w0 w L R) (hd : (1, .slice da dn dc, cellsB d) ∈ R) (hx1 : -1000000000000 ≤ x) (hx2 : x ≤ 1000000000000) (hf1 : -1000000000000 ≤ fr) (hf2 : fr ≤ 1000000000000) (ht1 : -1000000000000 ≤ tt) (ht2 : tt ≤ 1000000000000) (hdn : dn ≤ 1000000) : Calls Try.prog 23 #[.agg #[.int .i64 x, .slice da dn dc], .int .i64 fr, .int .i64 tt] w (WithinR w0 L R (within (x, d) fr tt)) := by
  by_cases hp : x < fr <;> by_cases hq : tt < x + (dn : Int)
  · by_cases hle : tt ≤ fr
    · exact within_no11 x fr tt da dn dc d w0 w L R hv0 hd hx1 hx2 hf1 hf2 ht1 ht2 hdn hp hq hle
    · exact within_yes11 x fr tt da dn dc d w0 w L R hv0 hd hx1 hx2 hf1 hf2 ht1 ht2 hdn hp hq (by omega)
  · by_cases hle : (x + (dn : Int)) ≤ fr
    · exact within_no10 x fr tt da dn dc d w0 w L R hv0 hd hx1 hx2 hf1 hf2 ht1 ht2 hdn hp hq hle
    · exact within_yes10 x fr tt da dn dc d w0 w L R hv0 hd hx1 hx2 hf1 hf2 ht1 ht2 hdn hp hq (by omega)
  · by_cases hle : tt ≤ x
    · exact within_no01 x fr tt da dn dc d w0 w L R hv0 hd hx1 hx2 hf1 hf2 ht1 ht2 hdn hp hq hle
    · exact within_yes01 x fr tt da dn dc d w0 w L R hv0 hd hx1 hx2 hf1 hf2 ht1 ht2 hdn hp hq (by omega)
  · by_cases hle : (x + (dn : Int)) ≤ x
    · exact within_no00 x fr tt da dn dc d w0 w L R hv0 hd hx1 hx2 hf1 hf2 ht1 ht2 hdn hp hq hle
    · exact within_yes00 x fr tt da dn dc d w0 w L R hv0 hd hx1 hx2 hf1 hf2 ht1 ht2 hdn hp hq (by omega)
end Go.Proofs.Ytpbeemgigpaacaa
