/-
  A driver hands parts over that are too many: Add says so.
-/
import Derived.Test.YtcelehhaggoijaaGreatQuAdd2
set_option linter.unusedVariables false
set_option linter.unusedSimpArgs false
namespace Go.Proofs.YtcelehhaggoijaaGreat
open Go.Proofs.Qu Go.Proofs.Nm Go.RowKit Go.Proofs
set_option maxRecDepth 100000 in
set_option maxHeartbeats 16000000 in
theorem Add_full {w0 w : World} {L : List (Nat × Array Value)} {R : List (Nat × Value × List Value)} {mb mo mn mc : Nat} {M : List Nat} (hv : Mem w0 w L R) (hm : InM R mb mo mn mc M) {base n av la : Nat} {fv cv : Value} {free : List Nat} {chs : List Chn} (hq : InQ R fv cv free chs) (hok : OkQ n free chs) (hb : base + sizeN n ≤ mn) {lv : Value} {l : List Pt} (hl : (3, lv, cellsPt l) ∈ R) (hn16 : l.length ≤ n) (hfl : free.length < l.length) (hlie : ∀ p ∈ l, 0 < p.2.1 ∧ p.1 + p.2.1 ≤ mn) :
    Calls Tryz.prog 10 #[(.agg #[(.slice (some ⟨mb, mo, none⟩) mn mc)]), .agg #[.int .i64 (base : Nat), .int .i64 (n : Nat), fv, .int .u16 (av : Nat), .int .u16 (la : Nat), cv], lv] w fun e w' => e = .returned (.tuple #[(.agg #[(.slice (some ⟨mb, mo, none⟩) mn mc)]), .agg #[.int .i64 (base : Nat), .int .i64 (n : Nat), fv, .int .u16 (av : Nat), .int .u16 (la : Nat), cv], .int .i64 0, .int .i64 4]) ∧ New w w' := by
  have hv0 := hv
  clear hv
  have hv : Mem w w [] R := ⟨Vars.nil w, fun x hx => ⟨(hv0.rds x hx).1, fun _ _ _ _ _ _ p hp => (List.not_mem_nil hp).elim⟩⟩
  clear hv0
  obtain ⟨fa, fn, fc, rfl, gf, gfc, _⟩ := id (hv.rd hq.fr)
  obtain ⟨ca, cn, cc, rfl, gc, gcc, _⟩ := id (hv.rd hq.ch)
  obtain ⟨la_, kn, lc, rfl, gl, _⟩ := id (hv.rd hl)
  rw [intsI_len, Nat.mul_one] at gf
  rw [cellsPt_len] at gl
  have hkn : l.length = kn := by omega
  have hle := hok.sz.le
  have HM := Lib.hid hm
  have HQ := Lib.hid hq
  have HLV := Lib.hid hl
  have HOK := Lib.hid hok
  have HB := Lib.hid hb
  have HL1 : Hid (l.length ≤ 100000) := Lib.hid (by omega)
  have HLI := Lib.hid hlie
  have y1 : decide ((kn : Int) < 1) = false := decide_eq_false (by omega)
  have z1 : decide (kn < 1) = false := decide_eq_false (by omega)
  have y2 : decide ((n : Int) < (kn : Int)) = false := decide_eq_false (by omega)
  have z2 : decide (n < kn) = false := decide_eq_false (by omega)
  have y3 : decide ((fn : Int) < (kn : Int)) = true := decide_eq_true (by omega)
  have z3 : decide (fn < kn) = true := decide_eq_true (by omega)
  clear hm hq hok hb hl hn16 hfl hlie gf gfc gc gcc gl hkn hle
  go_enter Tryz.func10, Tryz.ntmps10
  go_wp2_with (first
    | ((with_reducible refine at_box (T := 28) (dst := some 3) ?_); refine wl_newb rfl #[(.slice (some ⟨mb, mo, none⟩) mn mc)] 28 (fun _ => rfl) ?_; intro b3 w2 hm2; replace hv := hv.madeAt hm2; clear hm2)
    | ((with_reducible refine at_box (T := 32) (dst := some 4) ?_); refine wl_newb rfl #[.int .i64 (base : Nat), .int .i64 (n : Nat), .slice fa fn fc, .int .u16 (av : Nat), .int .u16 (la : Nat), .slice ca cn cc] 32 (fun _ => rfl) ?_; intro b4 w2 hm2; replace hv := hv.madeAt hm2; clear hm2)
    | ((with_reducible refine at_alloc (T := 28) (dst := some 6) ?_); refine wl_newb rfl #[.slice none 0 0] 28 (fun _ => rfl) ?_; intro b6 w2 hm2; replace hv := hv.madeAt hm2; clear hm2)
    | ((with_reducible refine at_alloc (T := 32) (dst := some 7) ?_); refine wl_newb rfl #[.int .i64 0, .int .i64 0, .slice none 0 0, .int .u16 0, .int .u16 0, .slice none 0 0] 32 (fun _ => rfl) ?_; intro b7 w2 hm2; replace hv := hv.madeAt hm2; clear hm2)
    | ((with_reducible refine at_load (T := 28) ?_); refine wl_ldv rfl b3 rfl _ (hv.vars.row (by first | exact .head _ | exact .tail _ (.head _) | exact .tail _ (.tail _ (.head _)) | exact .tail _ (.tail _ (.tail _ (.head _))) | exact .tail _ (.tail _ (.tail _ (.tail _ (.head _)))) | exact .tail _ (.tail _ (.tail _ (.tail _ (.tail _ (.head _))))) | exact .tail _ (.tail _ (.tail _ (.tail _ (.tail _ (.tail _ (.head _)))))) | exact .tail _ (.tail _ (.tail _ (.tail _ (.tail _ (.tail _ (.tail _ (.head _))))))))) 1 _ Tryz.underlying28 rfl infoM (by decide) rfl ?_)
    | ((with_reducible refine at_load (T := 32) ?_); refine wl_ldv rfl b4 rfl _ (hv.vars.row (by first | exact .head _ | exact .tail _ (.head _) | exact .tail _ (.tail _ (.head _)) | exact .tail _ (.tail _ (.tail _ (.head _))) | exact .tail _ (.tail _ (.tail _ (.tail _ (.head _)))) | exact .tail _ (.tail _ (.tail _ (.tail _ (.tail _ (.head _))))) | exact .tail _ (.tail _ (.tail _ (.tail _ (.tail _ (.tail _ (.head _)))))) | exact .tail _ (.tail _ (.tail _ (.tail _ (.tail _ (.tail _ (.tail _ (.head _))))))))) 6 _ Tryz.underlying32 rfl infoQ (by decide) rfl ?_)
    | (go_at_call 41; (with_reducible refine (QRight_ok hv HM.out HQ.out HOK.out HB.out).mono ?_); rintro e w1 ⟨rfl, hn1⟩; replace hv := hv.new hn1; clear hn1)
    | ((with_reducible refine at_load (T := 3) ?_); refine wl_ldc rfl b4 1 rfl _ (hv.vars.row (by first | exact .head _ | exact .tail _ (.head _) | exact .tail _ (.tail _ (.head _)) | exact .tail _ (.tail _ (.tail _ (.head _))) | exact .tail _ (.tail _ (.tail _ (.tail _ (.head _)))) | exact .tail _ (.tail _ (.tail _ (.tail _ (.tail _ (.head _))))) | exact .tail _ (.tail _ (.tail _ (.tail _ (.tail _ (.tail _ (.head _)))))) | exact .tail _ (.tail _ (.tail _ (.tail _ (.tail _ (.tail _ (.tail _ (.head _))))))))) _ Tryz.underlying3 rfl (.int .i64 (n : Nat)) rfl ?_)
    | ((with_reducible refine at_load (T := 22) ?_); refine wl_ldc rfl b4 2 rfl _ (hv.vars.row (by first | exact .head _ | exact .tail _ (.head _) | exact .tail _ (.tail _ (.head _)) | exact .tail _ (.tail _ (.tail _ (.head _))) | exact .tail _ (.tail _ (.tail _ (.tail _ (.head _)))) | exact .tail _ (.tail _ (.tail _ (.tail _ (.tail _ (.head _))))) | exact .tail _ (.tail _ (.tail _ (.tail _ (.tail _ (.tail _ (.head _)))))) | exact .tail _ (.tail _ (.tail _ (.tail _ (.tail _ (.tail _ (.tail _ (.head _))))))))) _ Tryz.underlying22 rfl (.slice fa fn fc) rfl ?_)
    | (go_at_call 42; (refine (Contains_no (l := l) (f := 43) (cap := #[.pointer (some ⟨b3, 0, none⟩)]) HL1.out (Go.Proofs.enters_of Tryz.func43 (by kernel_rfl) rfl) _ (hv.rd HLV.out) (fun p hp w1 hn => Add1_ok HM.out.ok p.1 p.2.1 p.2.2 (HLI.out p hp).1 (HLI.out p hp).2 w1 ((New.row hn (hv.vars.lt (b := b3) (by first | exact .head _ | exact .tail _ (.head _) | exact .tail _ (.tail _ (.head _)) | exact .tail _ (.tail _ (.tail _ (.head _))) | exact .tail _ (.tail _ (.tail _ (.tail _ (.head _)))) | exact .tail _ (.tail _ (.tail _ (.tail _ (.tail _ (.head _))))) | exact .tail _ (.tail _ (.tail _ (.tail _ (.tail _ (.tail _ (.head _)))))) | exact .tail _ (.tail _ (.tail _ (.tail _ (.tail _ (.tail _ (.tail _ (.head _)))))))))).trans (hv.vars.row (b := b3) (by first | exact .head _ | exact .tail _ (.head _) | exact .tail _ (.tail _ (.head _)) | exact .tail _ (.tail _ (.tail _ (.head _))) | exact .tail _ (.tail _ (.tail _ (.tail _ (.head _)))) | exact .tail _ (.tail _ (.tail _ (.tail _ (.tail _ (.head _))))) | exact .tail _ (.tail _ (.tail _ (.tail _ (.tail _ (.tail _ (.head _)))))) | exact .tail _ (.tail _ (.tail _ (.tail _ (.tail _ (.tail _ (.tail _ (.head _)))))))))) (Nat.lt_of_lt_of_le (hv.vars.lt (b := b3) (by first | exact .head _ | exact .tail _ (.head _) | exact .tail _ (.tail _ (.head _)) | exact .tail _ (.tail _ (.tail _ (.head _))) | exact .tail _ (.tail _ (.tail _ (.tail _ (.head _)))) | exact .tail _ (.tail _ (.tail _ (.tail _ (.tail _ (.head _))))) | exact .tail _ (.tail _ (.tail _ (.tail _ (.tail _ (.tail _ (.head _)))))) | exact .tail _ (.tail _ (.tail _ (.tail _ (.tail _ (.tail _ (.tail _ (.head _))))))))) hn.size) ((hv.rd HM.out.rd).new hn))).mono ?_); rintro e w1 ⟨rfl, hn1⟩; replace hv := hv.new hn1; clear hn1))
  have hv0 := hv
  clear hv
  have hv : Mem w _ ([(b7, #[.int .i64 0, .int .i64 0, .slice none 0 0, .int .u16 0, .int .u16 0, .slice none 0 0]), (b6, #[.slice none 0 0]), (b4, #[.int .i64 (base : Nat), .int .i64 (n : Nat), .slice fa fn fc, .int .u16 (av : Nat), .int .u16 (la : Nat), .slice ca cn cc]), (b3, #[(.slice (some ⟨mb, mo, none⟩) mn mc)])] ++ ([] : List (Nat × Array Value))) _ := hv0
  clear hv0
  refine Any.wp_region_walk [⟨[1003], none⟩, ⟨[1002], none⟩, ⟨[1001], some 1001⟩, ⟨[1000], some 1000⟩, ⟨[], none⟩, ⟨[], none⟩] [.val, .val, .put, .put, .val, .val] (by kernel_rfl) (by kernel_rfl) (hv.vars.keep (List.sublist_append_left [(b7, #[.int .i64 0, .int .i64 0, .slice none 0 0, .int .u16 0, .int .u16 0, .slice none 0 0]), (b6, #[.slice none 0 0]), (b4, #[.int .i64 (base : Nat), .int .i64 (n : Nat), .slice fa fn fc, .int .u16 (av : Nat), .int .u16 (la : Nat), .slice ca cn cc]), (b3, #[(.slice (some ⟨mb, mo, none⟩) mn mc)])] ([] : List (Nat × Array Value)))) ?_
  simp only [List.length_cons, List.length_nil, Nat.zero_add, Any.someVals]
  iterate 6 apply Exists.intro
  repeat (first
    | (refine Any.E_off rfl ?_; simp only [Act.put, List.setIfInBounds_toArray, List.set_cons_succ, List.set_cons_zero])
    | (apply Any.E_pureq rfl rfl rfl
       case h => intro K hK; go_big_quiet_op; (refine hK _ ?_; rfl)
       case hr => exact fun _ => rfl
       simp only [Act.put, List.setIfInBounds_toArray, List.set_cons_succ, List.set_cons_zero])
    | (apply Any.E_val rfl rfl rfl rfl
       case h =>
         intro E' hA K hK
         first
           | ((with_reducible refine Any.at_qload (T := 28) ?_); refine Any.q_ldv 1003 hA (by decide) rfl rfl 1 _ Tryz.underlying28 rfl infoM (by decide) rfl ?_; refine hK _ ?_; rfl)
           | ((with_reducible refine Any.at_qload (T := 32) ?_); refine Any.q_ldv 1002 hA (by decide) rfl rfl 6 _ Tryz.underlying32 rfl infoQ (by decide) rfl ?_; refine hK _ ?_; rfl)
           | (go_big_quiet_op; first
             | (refine hK _ ?_; rfl)
             | (refine ⟨_, fun _ _ => rfl, ?_⟩; refine hK _ ?_; rfl)
             | (apply Exists.intro; refine ⟨fun w1 hw1 => ?_, ?_⟩; · (first
                 | fail)
                refine hK _ ?_; rfl))
       case hD => rfl
       simp only [Act.put, List.setIfInBounds_toArray, List.set_cons_succ, List.set_cons_zero])
    | ((with_reducible refine Any.at_ealloc ?_); refine Any.E_lay rfl rfl rfl (fun _ => rfl) ?_; intro B; simp only [Act.put, List.setIfInBounds_toArray, List.set_cons_succ, List.set_cons_zero])
    | ((with_reducible refine Any.at_estore (T := 28) ?_); refine Any.E_putv (T := 28) rfl rfl rfl rfl rfl rfl 1 infoM rfl rfl (by simp [Value.oneCell']) ?_; simp only [Act.put, List.setIfInBounds_toArray, List.set_cons_succ, List.set_cons_zero])
    | ((with_reducible refine Any.at_estore (T := 32) ?_); refine Any.E_putv (T := 32) rfl rfl rfl rfl rfl rfl 6 infoQ rfl rfl (by simp [Value.oneCell']) ?_; simp only [Act.put, List.setIfInBounds_toArray, List.set_cons_succ, List.set_cons_zero]))
  try any_goals exact undef
  refine Any.E_nil ?_
  intro w9 hE9
  replace hv : Mem w w9 ([(b7, #[.int .i64 (base : Nat), .int .i64 (n : Nat), .slice fa fn fc, .int .u16 (av : Nat), .int .u16 (la : Nat), .slice ca cn cc]), (b6, #[(.slice (some ⟨mb, mo, none⟩) mn mc)]), (b4, #[.int .i64 (base : Nat), .int .i64 (n : Nat), .slice fa fn fc, .int .u16 (av : Nat), .int .u16 (la : Nat), .slice ca cn cc]), (b3, #[(.slice (some ⟨mb, mo, none⟩) mn mc)])] ++ ([] : List (Nat × Array Value))) _ := hE9.memr hv [1000, 1001, 1002, 1003] (by decide)
  clear hE9
  simp only [List.cons_append, List.nil_append] at hv
  go_wp2
  try simp only [Exit.inBlock, Exit.then]
  exact ret_cctt (v := (.agg #[(.slice (some ⟨mb, mo, none⟩) mn mc)])) (v' := .agg #[.int .i64 (base : Nat), .int .i64 (n : Nat), .slice fa fn fc, .int .u16 (av : Nat), .int .u16 (la : Nat), .slice ca cn cc]) (v1 := .int .i64 0) (v2 := .int .i64 4) rfl rfl rfl (read_row _ b6 28 _ (hv.vars.row (b := b6) (by first | exact .head _ | exact .tail _ (.head _) | exact .tail _ (.tail _ (.head _)) | exact .tail _ (.tail _ (.tail _ (.head _))) | exact .tail _ (.tail _ (.tail _ (.tail _ (.head _)))) | exact .tail _ (.tail _ (.tail _ (.tail _ (.tail _ (.head _))))) | exact .tail _ (.tail _ (.tail _ (.tail _ (.tail _ (.tail _ (.head _)))))) | exact .tail _ (.tail _ (.tail _ (.tail _ (.tail _ (.tail _ (.tail _ (.head _))))))))) 1 _ Tryz.underlying28 rfl infoM (by decide) rfl) (read_row _ b7 32 _ (hv.vars.row (b := b7) (by first | exact .head _ | exact .tail _ (.head _) | exact .tail _ (.tail _ (.head _)) | exact .tail _ (.tail _ (.tail _ (.head _))) | exact .tail _ (.tail _ (.tail _ (.tail _ (.head _)))) | exact .tail _ (.tail _ (.tail _ (.tail _ (.tail _ (.head _))))) | exact .tail _ (.tail _ (.tail _ (.tail _ (.tail _ (.tail _ (.head _)))))) | exact .tail _ (.tail _ (.tail _ (.tail _ (.tail _ (.tail _ (.tail _ (.head _))))))))) 6 _ Tryz.underlying32 rfl infoQ (by decide) rfl) rfl rfl rfl ⟨rfl, hv.below⟩
end Go.Proofs.YtcelehhaggoijaaGreat
