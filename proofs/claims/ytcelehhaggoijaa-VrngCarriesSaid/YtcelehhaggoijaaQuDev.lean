/-
  A queue's device side: parts, what is given back.
-/
import Derived.Test.YtcelehhaggoijaaQuRing4
set_option linter.unusedVariables false
set_option linter.unusedSimpArgs false
namespace Go
open Go.RowKit
section
variable {P : Program} {fn : Func} {R : Ending → World → Prop} {a : Act} {w : World}
theorem ret_cct {p p' t1 : Tmp} {ty ty' : TypeId} {ad ad' : Addr} {v v' v1 : Value} (h : fn.results = #[.cell p ty, .cell p' ty', .tmp t1]) (hp : a.tmps.getD p undef = .pointer (some ad)) (hp2 : a.tmps.getD p' undef = .pointer (some ad')) (hl : (loadVar ty ad).run P w = .ok v w) (hl2 : (loadVar ty' ad').run P w = .ok v' w)
    (h1 : a.tmps.getD t1 undef = v1) (hd : a.defers = []) (hR : R (.returned (.tuple #[v, v', v1])) w) : bodyPost P fn R .ret a w :=
  bodyPost_ret (v := .tuple #[v, v', v1]) (by have q1 : a.tmps[p]?.getD undef = .pointer (some ad) := by simpa using hp
                                              have q2 : a.tmps[p']?.getD undef = .pointer (some ad') := by simpa using hp2
                                              have q3 : a.tmps[t1]?.getD undef = v1 := by simpa using h1
                                              simp [results, h, q1, q2, asAddr, hl, hl2, q3]) hd hR
theorem ret_cctt {p p' t1 t2 : Tmp} {ty ty' : TypeId} {ad ad' : Addr} {v v' v1 v2 : Value} (h : fn.results = #[.cell p ty, .cell p' ty', .tmp t1, .tmp t2]) (hp : a.tmps.getD p undef = .pointer (some ad)) (hp2 : a.tmps.getD p' undef = .pointer (some ad')) (hl : (loadVar ty ad).run P w = .ok v w) (hl2 : (loadVar ty' ad').run P w = .ok v' w)
    (h1 : a.tmps.getD t1 undef = v1) (h2 : a.tmps.getD t2 undef = v2) (hd : a.defers = []) (hR : R (.returned (.tuple #[v, v', v1, v2])) w) : bodyPost P fn R .ret a w :=
  bodyPost_ret (v := .tuple #[v, v', v1, v2]) (by have q1 : a.tmps[p]?.getD undef = .pointer (some ad) := by simpa using hp
                                                  have q2 : a.tmps[p']?.getD undef = .pointer (some ad') := by simpa using hp2
                                                  have q3 : a.tmps[t1]?.getD undef = v1 := by simpa using h1
                                                  have q4 : a.tmps[t2]?.getD undef = v2 := by simpa using h2
                                                  simp [results, h, q1, q2, asAddr, hl, hl2, q3, q4]) hd hR
theorem ret_cttt {p t1 t2 t3 : Tmp} {ty : TypeId} {ad : Addr} {v v1 v2 v3 : Value} (h : fn.results = #[.cell p ty, .tmp t1, .tmp t2, .tmp t3]) (hp : a.tmps.getD p undef = .pointer (some ad)) (hl : (loadVar ty ad).run P w = .ok v w)
    (h1 : a.tmps.getD t1 undef = v1) (h2 : a.tmps.getD t2 undef = v2) (h3 : a.tmps.getD t3 undef = v3) (hd : a.defers = []) (hR : R (.returned (.tuple #[v, v1, v2, v3])) w) : bodyPost P fn R .ret a w :=
  bodyPost_ret (v := .tuple #[v, v1, v2, v3]) (by have q1 : a.tmps[p]?.getD undef = .pointer (some ad) := by simpa using hp
                                                  have q3 : a.tmps[t1]?.getD undef = v1 := by simpa using h1
                                                  have q4 : a.tmps[t2]?.getD undef = v2 := by simpa using h2
                                                  have q5 : a.tmps[t3]?.getD undef = v3 := by simpa using h3
                                                  simp [results, h, q1, asAddr, hl, q3, q4, q5]) hd hR
end
end Go
namespace Go.Proofs.Ytcelehhaggoijaa
open Go.Proofs.Qu Go.Proofs.Nm Go.RowKit Go.Proofs
theorem infoB3 : (Try.prog.info? 60).map (·.size) = some 3 := by kernel_rfl
theorem infoS4 : (Try.prog.info? 37).map (·.size) = some 4 := by kernel_rfl
set_option maxRecDepth 100000 in
set_option maxHeartbeats 4000000 in
theorem lies_w {mb mo mn mc : Nat} {M : List Nat} (hm : OkM mn M) (p ln : Nat) (wr : Bool) (h1 : 0 < ln) (h : p + ln ≤ mn) (w : World) (hr : Rd w 1 (.slice (some ⟨mb, mo, none⟩) mn mc) (cellsB M)) : Calls Try.prog 30 #[(.agg #[(.slice (some ⟨mb, mo, none⟩) mn mc)]), .agg #[.int .i64 (p : Nat), .int .i64 (ln : Nat), .bool wr]] w fun e w' => e = .returned (.bool true) ∧ New w w' := by
  have hv0 := (Mem.nil w).old hr
  have hv : Mem w w [] [(1, (.slice (some ⟨mb, mo, none⟩) mn mc), cellsB M)] := hv0
  have HM : Hid (InM [(1, (.slice (some ⟨mb, mo, none⟩) mn mc), cellsB M)] mb mo mn mc M) := Lib.hid ⟨Mem.z, hm.len, hm.pos, hm.most, hm.good⟩
  clear hv0 hr
  have H1 := Lib.hid h1
  have HH := Lib.hid h
  have y1 : decide ((ln : Int) < 1) = false := decide_eq_false (by omega)
  have z1 : decide (ln < 1) = false := decide_eq_false (by omega)
  clear h1 h hm
  go_enter Try.func30, Try.ntmps30
  go_wp2_with (first
    | ((with_reducible refine at_box (T := 25) (dst := some 2) ?_); refine wl_newb rfl #[(.slice (some ⟨mb, mo, none⟩) mn mc)] 25 (fun _ => rfl) ?_; intro b2 w2 hm2; replace hv := hv.madeAt hm2; clear hm2)
    | ((with_reducible refine at_box (T := 60) (dst := some 3) ?_); refine wl_newb rfl #[.int .i64 (p : Nat), .int .i64 (ln : Nat), .bool wr] 60 (fun _ => rfl) ?_; intro b3 w2 hm2; replace hv := hv.madeAt hm2; clear hm2)
    | ((with_reducible refine at_load (T := 25) ?_); refine wl_ldv rfl b2 rfl _ (hv.vars.row (by first | exact .head _ | exact .tail _ (.head _) | exact .tail _ (.tail _ (.head _)) | exact .tail _ (.tail _ (.tail _ (.head _))) | exact .tail _ (.tail _ (.tail _ (.tail _ (.head _)))) | exact .tail _ (.tail _ (.tail _ (.tail _ (.tail _ (.head _))))) | exact .tail _ (.tail _ (.tail _ (.tail _ (.tail _ (.tail _ (.head _)))))) | exact .tail _ (.tail _ (.tail _ (.tail _ (.tail _ (.tail _ (.tail _ (.head _))))))))) 1 _ Try.underlying25 rfl infoM (by decide) rfl ?_)
    | ((with_reducible refine at_load (T := 3) ?_); refine wl_ldc rfl b3 0 rfl _ (hv.vars.row (by first | exact .head _ | exact .tail _ (.head _) | exact .tail _ (.tail _ (.head _)) | exact .tail _ (.tail _ (.tail _ (.head _))) | exact .tail _ (.tail _ (.tail _ (.tail _ (.head _)))) | exact .tail _ (.tail _ (.tail _ (.tail _ (.tail _ (.head _))))) | exact .tail _ (.tail _ (.tail _ (.tail _ (.tail _ (.tail _ (.head _)))))) | exact .tail _ (.tail _ (.tail _ (.tail _ (.tail _ (.tail _ (.tail _ (.head _))))))))) _ Try.underlying3 rfl (.int .i64 (p : Nat)) rfl ?_)
    | ((with_reducible refine at_load (T := 3) ?_); refine wl_ldc rfl b3 1 rfl _ (hv.vars.row (by first | exact .head _ | exact .tail _ (.head _) | exact .tail _ (.tail _ (.head _)) | exact .tail _ (.tail _ (.tail _ (.head _))) | exact .tail _ (.tail _ (.tail _ (.tail _ (.head _)))) | exact .tail _ (.tail _ (.tail _ (.tail _ (.tail _ (.head _))))) | exact .tail _ (.tail _ (.tail _ (.tail _ (.tail _ (.tail _ (.head _)))))) | exact .tail _ (.tail _ (.tail _ (.tail _ (.tail _ (.tail _ (.tail _ (.head _))))))))) _ Try.underlying3 rfl (.int .i64 (ln : Nat)) rfl ?_)
    | (go_at_call 12; (with_reducible refine (Get_ok hv HM.out p ln H1.out HH.out).mono ?_); rintro e w1 ⟨vb, vc, R1, rfl, hv1, hd1, hs1⟩; replace hv := hv1; clear hv1 hd1 hs1))
  go_ret
  exact ⟨rfl, hv.below⟩
theorem built_used (a b : Nat) : Try.prog.built 101 [(0, .int .u32 (a : Nat)), (1, .int .u32 (b : Nat))] = some #[.int .u32 (a : Nat), .int .u32 (b : Nat)] := by kernel_rfl
theorem built_srv (a b : Nat) : Try.prog.built 37 [(0, .int .i64 (a : Nat)), (1, .int .i64 (b : Nat))] = some #[.int .i64 (a : Nat), .int .i64 (b : Nat), .int .u16 0, .int .u16 0] := by kernel_rfl
set_option maxRecDepth 100000 in
set_option maxHeartbeats 16000000 in
theorem Give_M {w0 w : World} {L : List (Nat × Array Value)} {R : List (Nat × Value × List Value)} {mb mo mn mc : Nat} {M : List Nat} (hv : Mem w0 w L R) (hm : InM R mb mo mn mc M) (base n sn us hd ln : Nat) (hn : okN n) (hb : base + sizeN n ≤ mn) (hu : us < 65536) (h1 : hd ≤ 2147483647) (h2 : ln ≤ 2147483647) :
    Calls Try.prog 19 #[(.agg #[(.slice (some ⟨mb, mo, none⟩) mn mc)]), .agg #[.int .i64 (base : Nat), .int .i64 (n : Nat), .int .u16 (sn : Nat), .int .u16 (us : Nat)], .int .i64 (hd : Nat), .int .i64 (ln : Nat)] w fun e w' => ∃ b c R', e = .returned (.tuple #[.agg #[.slice (some ⟨b, 0, none⟩) mn c], .agg #[.int .i64 (base : Nat), .int .i64 (n : Nat), .int .u16 (sn : Nat), .int .u16 ((us + 1) % 65536 : Nat)], .int .i64 0]) ∧ Mem w0 w' L R' ∧ InM R' b 0 mn c (returnM M base n us hd ln) ∧ ∀ x ∈ R, x ∈ R' := by
  have HM := Lib.hid hm
  have HN := Lib.hid hn
  have HB := Lib.hid hb
  have HU := Lib.hid hu
  have HI1 : Hid (hd < 4294967296) := Lib.hid (by omega)
  have HI2 : Hid (ln < 4294967296) := Lib.hid (by omega)
  have y1 : decide ((hd : Int) < 0) = false := decide_eq_false (by omega)
  have y2 : decide ((2147483647 : Int) < (hd : Int)) = false := decide_eq_false (by omega)
  have z2 : decide (2147483647 < hd) = false := decide_eq_false (by omega)
  have y3 : decide ((ln : Int) < 0) = false := decide_eq_false (by omega)
  have y4 : decide ((2147483647 : Int) < (ln : Int)) = false := decide_eq_false (by omega)
  have z4 : decide (2147483647 < ln) = false := decide_eq_false (by omega)
  have q1 : IntKind.u32.wrap (hd : Int) = (hd : Int) := wrap32 (by omega)
  have q2 : IntKind.u32.wrap (ln : Int) = (ln : Int) := wrap32 (by omega)
  obtain ⟨us2, hus2⟩ : ∃ j, (us + 1) % 65536 = j := ⟨_, rfl⟩
  have q3 : IntKind.u16.wrap ((us : Int) + 1) = (us2 : Int) := by rw [inc16, hus2]
  rw [hus2]
  clear hn hb hu h1 h2 hus2 hm
  go_enter Try.func19, Try.ntmps19
  go_wp2_with (first
    | ((with_reducible refine at_box (T := 25) (dst := some 4) ?_); refine wl_newb rfl #[(.slice (some ⟨mb, mo, none⟩) mn mc)] 25 (fun _ => rfl) ?_; intro b4 w2 hm2; replace hv := hv.madeAt hm2; clear hm2)
    | ((with_reducible refine at_box (T := 37) (dst := some 5) ?_); refine wl_newb rfl #[.int .i64 (base : Nat), .int .i64 (n : Nat), .int .u16 (sn : Nat), .int .u16 (us : Nat)] 37 (fun _ => rfl) ?_; intro b5 w2 hm2; replace hv := hv.madeAt hm2; clear hm2)
    | ((with_reducible refine at_alloc (T := 25) (dst := some 8) ?_); refine wl_newb rfl #[.slice none 0 0] 25 (fun _ => rfl) ?_; intro b8 w2 hm2; replace hv := hv.madeAt hm2; clear hm2)
    | ((with_reducible refine at_alloc (T := 37) (dst := some 9) ?_); refine wl_newb rfl #[.int .i64 0, .int .i64 0, .int .u16 0, .int .u16 0] 37 (fun _ => rfl) ?_; intro b9 w2 hm2; replace hv := hv.madeAt hm2; clear hm2)
    | ((with_reducible refine at_load (T := 25) ?_); refine wl_ldv rfl b4 rfl _ (hv.vars.row (by first | exact .head _ | exact .tail _ (.head _) | exact .tail _ (.tail _ (.head _)) | exact .tail _ (.tail _ (.tail _ (.head _))) | exact .tail _ (.tail _ (.tail _ (.tail _ (.head _)))) | exact .tail _ (.tail _ (.tail _ (.tail _ (.tail _ (.head _))))) | exact .tail _ (.tail _ (.tail _ (.tail _ (.tail _ (.tail _ (.head _)))))) | exact .tail _ (.tail _ (.tail _ (.tail _ (.tail _ (.tail _ (.tail _ (.head _))))))))) 1 _ Try.underlying25 rfl infoM (by decide) rfl ?_)
    | ((with_reducible refine at_load (T := 3) ?_); refine wl_ldc rfl b5 0 rfl _ (hv.vars.row (by first | exact .head _ | exact .tail _ (.head _) | exact .tail _ (.tail _ (.head _)) | exact .tail _ (.tail _ (.tail _ (.head _))) | exact .tail _ (.tail _ (.tail _ (.tail _ (.head _)))) | exact .tail _ (.tail _ (.tail _ (.tail _ (.tail _ (.head _))))) | exact .tail _ (.tail _ (.tail _ (.tail _ (.tail _ (.tail _ (.head _)))))) | exact .tail _ (.tail _ (.tail _ (.tail _ (.tail _ (.tail _ (.tail _ (.head _))))))))) _ Try.underlying3 rfl (.int .i64 (base : Nat)) rfl ?_)
    | ((with_reducible refine at_load (T := 3) ?_); refine wl_ldc rfl b5 1 rfl _ (hv.vars.row (by first | exact .head _ | exact .tail _ (.head _) | exact .tail _ (.tail _ (.head _)) | exact .tail _ (.tail _ (.tail _ (.head _))) | exact .tail _ (.tail _ (.tail _ (.tail _ (.head _)))) | exact .tail _ (.tail _ (.tail _ (.tail _ (.tail _ (.head _))))) | exact .tail _ (.tail _ (.tail _ (.tail _ (.tail _ (.tail _ (.head _)))))) | exact .tail _ (.tail _ (.tail _ (.tail _ (.tail _ (.tail _ (.tail _ (.head _))))))))) _ Try.underlying3 rfl (.int .i64 (n : Nat)) rfl ?_)
    | ((with_reducible refine at_load (T := 27) ?_); refine wl_ldc rfl b5 3 rfl _ (hv.vars.row (by first | exact .head _ | exact .tail _ (.head _) | exact .tail _ (.tail _ (.head _)) | exact .tail _ (.tail _ (.tail _ (.head _))) | exact .tail _ (.tail _ (.tail _ (.tail _ (.head _)))) | exact .tail _ (.tail _ (.tail _ (.tail _ (.tail _ (.head _))))) | exact .tail _ (.tail _ (.tail _ (.tail _ (.tail _ (.tail _ (.head _)))))) | exact .tail _ (.tail _ (.tail _ (.tail _ (.tail _ (.tail _ (.tail _ (.head _))))))))) _ Try.underlying27 rfl (.int .u16 (us : Nat)) rfl ?_)
    | ((with_reducible refine at_build ?_); refine wl_build rfl [(0, .int .u32 (hd : Nat)), (1, .int .u32 (ln : Nat))] rfl (built_used _ _) ?_)
    | (go_at_call 38; (with_reducible refine (Return_M hv HM.out base n us HN.out HB.out HU.out HI1.out HI2.out).mono ?_); rintro e w1 ⟨vb, vc, R1, rfl, hv1, hi1, hs1⟩; replace hv := hv1; have HI := Lib.hid hi1; have HS := Lib.hid hs1; clear hv1 hi1 hs1)
    | ((with_reducible refine at_store (T := 25) ?_); refine wl_stv rfl b4 rfl _ rfl _ (hv.vars.row (by first | exact .head _ | exact .tail _ (.head _) | exact .tail _ (.tail _ (.head _)) | exact .tail _ (.tail _ (.tail _ (.head _))) | exact .tail _ (.tail _ (.tail _ (.tail _ (.head _)))) | exact .tail _ (.tail _ (.tail _ (.tail _ (.tail _ (.head _))))) | exact .tail _ (.tail _ (.tail _ (.tail _ (.tail _ (.tail _ (.head _)))))) | exact .tail _ (.tail _ (.tail _ (.tail _ (.tail _ (.tail _ (.tail _ (.head _))))))))) (hv.vars.sft (by first | exact .head _ | exact .tail _ (.head _) | exact .tail _ (.tail _ (.head _)) | exact .tail _ (.tail _ (.tail _ (.head _))) | exact .tail _ (.tail _ (.tail _ (.tail _ (.head _)))) | exact .tail _ (.tail _ (.tail _ (.tail _ (.tail _ (.head _))))) | exact .tail _ (.tail _ (.tail _ (.tail _ (.tail _ (.tail _ (.head _)))))) | exact .tail _ (.tail _ (.tail _ (.tail _ (.tail _ (.tail _ (.tail _ (.head _))))))))) 1 infoM rfl rfl (by simp [Value.oneCell']) ?_; intro w2 hw2; (first | (replace hv := hv.set 0 rfl hw2) | (replace hv := hv.set 1 rfl hw2) | (replace hv := hv.set 2 rfl hw2) | (replace hv := hv.set 3 rfl hw2) | (replace hv := hv.set 4 rfl hw2) | (replace hv := hv.set 5 rfl hw2) | (replace hv := hv.set 6 rfl hw2) | (replace hv := hv.set 7 rfl hw2)); clear hw2; simp only [List.set] at hv)
    | ((with_reducible refine at_store (T := 27) ?_); refine wl_stc rfl b5 3 rfl (.int .u16 (us2 : Nat)) rfl _ (hv.vars.row (by first | exact .head _ | exact .tail _ (.head _) | exact .tail _ (.tail _ (.head _)) | exact .tail _ (.tail _ (.tail _ (.head _))) | exact .tail _ (.tail _ (.tail _ (.tail _ (.head _)))) | exact .tail _ (.tail _ (.tail _ (.tail _ (.tail _ (.head _))))) | exact .tail _ (.tail _ (.tail _ (.tail _ (.tail _ (.tail _ (.head _)))))) | exact .tail _ (.tail _ (.tail _ (.tail _ (.tail _ (.tail _ (.tail _ (.head _))))))))) (hv.vars.sft (by first | exact .head _ | exact .tail _ (.head _) | exact .tail _ (.tail _ (.head _)) | exact .tail _ (.tail _ (.tail _ (.head _))) | exact .tail _ (.tail _ (.tail _ (.tail _ (.head _)))) | exact .tail _ (.tail _ (.tail _ (.tail _ (.tail _ (.head _))))) | exact .tail _ (.tail _ (.tail _ (.tail _ (.tail _ (.tail _ (.head _)))))) | exact .tail _ (.tail _ (.tail _ (.tail _ (.tail _ (.tail _ (.tail _ (.head _))))))))) (by kernel_rfl) rfl (by show 3 < 4; decide) ?_; intro w2 hw2; (first | (replace hv := hv.set 0 rfl hw2) | (replace hv := hv.set 1 rfl hw2) | (replace hv := hv.set 2 rfl hw2) | (replace hv := hv.set 3 rfl hw2)); clear hw2; simp only [List.set] at hv))
  have hv0 := hv
  clear hv
  have hv : Mem w0 _ ([(b9, #[.int .i64 0, .int .i64 0, .int .u16 0, .int .u16 0]), (b8, #[.slice none 0 0]), (b5, #[.int .i64 (base : Nat), .int .i64 (n : Nat), .int .u16 (sn : Nat), .int .u16 (us2 : Nat)]), (b4, #[(.slice (some ⟨vb, 0, none⟩) mn vc)])] ++ L) _ := hv0
  clear hv0
  refine Any.wp_region_walk [⟨[1003], none⟩, ⟨[1002], none⟩, ⟨[], none⟩, ⟨[1001], some 1001⟩, ⟨[1000], some 1000⟩, ⟨[], none⟩] [.val, .val, .val, .put, .put, .val] (by kernel_rfl) (by kernel_rfl) (hv.vars.keep (List.sublist_append_left [(b9, #[.int .i64 0, .int .i64 0, .int .u16 0, .int .u16 0]), (b8, #[.slice none 0 0]), (b5, #[.int .i64 (base : Nat), .int .i64 (n : Nat), .int .u16 (sn : Nat), .int .u16 (us2 : Nat)]), (b4, #[(.slice (some ⟨vb, 0, none⟩) mn vc)])] L)) ?_
  simp only [List.length_cons, List.length_nil, Nat.zero_add, Any.someVals]
  iterate 6 apply Exists.intro
  repeat (first
    | (refine Any.E_off rfl ?_; simp only [Act.put, List.setIfInBounds_toArray, List.set_cons_succ, List.set_cons_zero])
    | (apply Any.E_pureq rfl rfl rfl
       case h => intro K hK; go_big_quiet_op; (refine hK _ ?_; rfl)
       case hr => exact fun _ => rfl
       simp only [Act.put, List.setIfInBounds_toArray, List.set_cons_succ, List.set_cons_zero])
    | (apply Any.E_val rfl rfl rfl rfl
       case h =>
         intro E' hA K hK
         first
           | ((with_reducible refine Any.at_qload (T := 25) ?_); refine Any.q_ldv 1003 hA (by decide) rfl rfl 1 _ Try.underlying25 rfl infoM (by decide) rfl ?_; refine hK _ ?_; rfl)
           | ((with_reducible refine Any.at_qload (T := 37) ?_); refine Any.q_ldv 1002 hA (by decide) rfl rfl 4 _ Try.underlying37 rfl infoS4 (by decide) rfl ?_; refine hK _ ?_; rfl)
           | (go_big_quiet_op; first
             | (refine hK _ ?_; rfl)
             | (refine ⟨_, fun _ _ => rfl, ?_⟩; refine hK _ ?_; rfl)
             | (apply Exists.intro; refine ⟨fun w1 hw1 => ?_, ?_⟩; · (first
                 | fail)
                refine hK _ ?_; rfl))
       case hD => rfl
       simp only [Act.put, List.setIfInBounds_toArray, List.set_cons_succ, List.set_cons_zero])
    | ((with_reducible refine Any.at_ealloc ?_); refine Any.E_lay rfl rfl rfl (fun _ => rfl) ?_; intro B; simp only [Act.put, List.setIfInBounds_toArray, List.set_cons_succ, List.set_cons_zero])
    | ((with_reducible refine Any.at_estore (T := 25) ?_); refine Any.E_putv (T := 25) rfl rfl rfl rfl rfl rfl 1 infoM rfl rfl (by simp [Value.oneCell']) ?_; simp only [Act.put, List.setIfInBounds_toArray, List.set_cons_succ, List.set_cons_zero])
    | ((with_reducible refine Any.at_estore (T := 37) ?_); refine Any.E_putv (T := 37) rfl rfl rfl rfl rfl rfl 4 infoS4 rfl rfl (by simp [Value.oneCell']) ?_; simp only [Act.put, List.setIfInBounds_toArray, List.set_cons_succ, List.set_cons_zero]))
  try any_goals exact undef
  refine Any.E_nil ?_
  intro w9 hE9
  replace hv : Mem w0 w9 ([(b9, #[.int .i64 (base : Nat), .int .i64 (n : Nat), .int .u16 (sn : Nat), .int .u16 (us2 : Nat)]), (b8, #[(.slice (some ⟨vb, 0, none⟩) mn vc)]), (b5, #[.int .i64 (base : Nat), .int .i64 (n : Nat), .int .u16 (sn : Nat), .int .u16 (us2 : Nat)]), (b4, #[(.slice (some ⟨vb, 0, none⟩) mn vc)])] ++ L) _ := hE9.memr hv [1000, 1001, 1002, 1003] (by decide)
  clear hE9
  simp only [List.cons_append, List.nil_append] at hv
  go_wp2
  try simp only [Exit.inBlock, Exit.then]
  refine ret_cct (v := .agg #[(.slice (some ⟨vb, 0, none⟩) mn vc)]) (v' := .agg #[.int .i64 (base : Nat), .int .i64 (n : Nat), .int .u16 (sn : Nat), .int .u16 (us2 : Nat)]) (v1 := .int .i64 0) rfl rfl rfl (read_row _ b8 25 _ (hv.vars.row (b := b8) (by first | exact .head _ | exact .tail _ (.head _) | exact .tail _ (.tail _ (.head _)) | exact .tail _ (.tail _ (.tail _ (.head _))) | exact .tail _ (.tail _ (.tail _ (.tail _ (.head _)))) | exact .tail _ (.tail _ (.tail _ (.tail _ (.tail _ (.head _))))) | exact .tail _ (.tail _ (.tail _ (.tail _ (.tail _ (.tail _ (.head _)))))) | exact .tail _ (.tail _ (.tail _ (.tail _ (.tail _ (.tail _ (.tail _ (.head _))))))))) 1 _ Try.underlying25 rfl infoM (by decide) rfl) (read_row _ b9 37 _ (hv.vars.row (b := b9) (by first | exact .head _ | exact .tail _ (.head _) | exact .tail _ (.tail _ (.head _)) | exact .tail _ (.tail _ (.tail _ (.head _))) | exact .tail _ (.tail _ (.tail _ (.tail _ (.head _)))) | exact .tail _ (.tail _ (.tail _ (.tail _ (.tail _ (.head _))))) | exact .tail _ (.tail _ (.tail _ (.tail _ (.tail _ (.tail _ (.head _)))))) | exact .tail _ (.tail _ (.tail _ (.tail _ (.tail _ (.tail _ (.tail _ (.head _))))))))) 4 _ Try.underlying37 rfl infoS4 (by decide) rfl) rfl rfl ?_
  exact ⟨vb, vc, R1, rfl, hv.drop.drop.drop.drop, HI.out, HS.out⟩
theorem built_buf (a l : Nat) (wr : Bool) : Try.prog.built 60 [(0, .int .i64 (a : Nat)), (1, .int .i64 (l : Nat)), (2, .bool wr)] = some #[.int .i64 (a : Nat), .int .i64 (l : Nat), .bool wr] := by kernel_rfl
set_option maxRecDepth 100000 in
set_option maxHeartbeats 16000000 in
theorem part_w {mb mo mn mc : Nat} {M : List Nat} (hm : OkM mn M) (base n i sn us : Nat) (hn : okN n) (hb : base + sizeN n ≤ mn) (hi : i < n) {a l f x : Nat} (h1 : getN M (base + 16 * i) 8 = a) (h2 : getN M (base + 16 * i + 8) 4 = l) (h3 : getN M (base + 16 * i + 8 + 4) 2 = f) (h4 : getN M (base + 16 * i + 8 + 4 + 2) 2 = x)
    (hl : 0 < l) (hal : a + l ≤ mn) {g : Int} (hg : bits .and .u16 (f : Int) 2 = g) {wr : Bool} (hw : (g != 0) = wr) (w : World) (hr : Rd w 1 (.slice (some ⟨mb, mo, none⟩) mn mc) (cellsB M)) :
    Calls Try.prog 37 #[(.agg #[(.slice (some ⟨mb, mo, none⟩) mn mc)]), .agg #[.int .i64 (base : Nat), .int .i64 (n : Nat), .int .u16 (sn : Nat), .int .u16 (us : Nat)], .int .i64 (i : Nat)] w fun e w' => e = .returned (.tuple #[.agg #[.int .i64 (a : Nat), .int .i64 (l : Nat), .bool wr], .agg #[.int .u64 (a : Nat), .int .u32 (l : Nat), .int .u16 (f : Nat), .int .u16 (x : Nat)], .bool true]) ∧ New w w' := by
  have hv0 := (Mem.nil w).old hr
  have hv : Mem w w [] [(1, (.slice (some ⟨mb, mo, none⟩) mn mc), cellsB M)] := hv0
  have HM : Hid (InM [(1, (.slice (some ⟨mb, mo, none⟩) mn mc), cellsB M)] mb mo mn mc M) := Lib.hid ⟨Mem.z, hm.len, hm.pos, hm.most, hm.good⟩
  clear hv0 hr
  have HN := Lib.hid hn
  have HB := Lib.hid hb
  have HI := Lib.hid hi
  have H1 := Lib.hid h1
  have H2 := Lib.hid h2
  have H3 := Lib.hid h3
  have H4 := Lib.hid h4
  have hm8 := hm.most
  have HLI : Hid (∀ w1, Rd w1 1 (.slice (some ⟨mb, mo, none⟩) mn mc) (cellsB M) → Calls Try.prog 30 #[(.agg #[(.slice (some ⟨mb, mo, none⟩) mn mc)]), .agg #[.int .i64 (a : Nat), .int .i64 (l : Nat), .bool wr]] w1 fun e w' => e = .returned (.bool true) ∧ New w1 w') := Lib.hid (fun w1 hr => lies_w hm a l wr hl hal w1 hr)
  have y1 : decide ((8192 : Int) < (a : Int)) = false := decide_eq_false (by omega)
  have z1 : decide (8192 < a) = false := decide_eq_false (by omega)
  have q1 : IntKind.i64.wrap (a : Int) = (a : Int) := IntWalk.i64_in _ (by omega)
  have q2 : IntKind.i64.wrap (l : Int) = (l : Int) := IntWalk.i64_in _ (by omega)
  clear hn hb hi h1 h2 h3 h4 hl hal hm8 hm
  go_enter Try.func37, Try.ntmps37
  go_wp2_with (first
    | ((with_reducible refine at_box (T := 25) (dst := some 3) ?_); refine wl_newb rfl #[(.slice (some ⟨mb, mo, none⟩) mn mc)] 25 (fun _ => rfl) ?_; intro b3 w2 hm2; replace hv := hv.madeAt hm2; clear hm2)
    | ((with_reducible refine at_box (T := 37) (dst := some 4) ?_); refine wl_newb rfl #[.int .i64 (base : Nat), .int .i64 (n : Nat), .int .u16 (sn : Nat), .int .u16 (us : Nat)] 37 (fun _ => rfl) ?_; intro b4 w2 hm2; replace hv := hv.madeAt hm2; clear hm2)
    | ((with_reducible refine at_alloc (T := 60) (dst := some 6) ?_); refine wl_newb rfl #[.int .i64 0, .int .i64 0, .bool false] 60 (fun _ => rfl) ?_; intro b6 w2 hm2; replace hv := hv.madeAt hm2; clear hm2)
    | ((with_reducible refine at_alloc (T := 96) (dst := some 7) ?_); refine wl_newb rfl #[.int .u64 0, .int .u32 0, .int .u16 0, .int .u16 0] 96 (fun _ => rfl) ?_; intro b7 w2 hm2; replace hv := hv.madeAt hm2; clear hm2)
    | ((with_reducible refine at_load (T := 25) ?_); refine wl_ldv rfl b3 rfl _ (hv.vars.row (by first | exact .head _ | exact .tail _ (.head _) | exact .tail _ (.tail _ (.head _)) | exact .tail _ (.tail _ (.tail _ (.head _))) | exact .tail _ (.tail _ (.tail _ (.tail _ (.head _)))) | exact .tail _ (.tail _ (.tail _ (.tail _ (.tail _ (.head _))))) | exact .tail _ (.tail _ (.tail _ (.tail _ (.tail _ (.tail _ (.head _)))))) | exact .tail _ (.tail _ (.tail _ (.tail _ (.tail _ (.tail _ (.tail _ (.head _))))))))) 1 _ Try.underlying25 rfl infoM (by decide) rfl ?_)
    | ((with_reducible refine at_load (T := 3) ?_); refine wl_ldc rfl b4 0 rfl _ (hv.vars.row (by first | exact .head _ | exact .tail _ (.head _) | exact .tail _ (.tail _ (.head _)) | exact .tail _ (.tail _ (.tail _ (.head _))) | exact .tail _ (.tail _ (.tail _ (.tail _ (.head _)))) | exact .tail _ (.tail _ (.tail _ (.tail _ (.tail _ (.head _))))) | exact .tail _ (.tail _ (.tail _ (.tail _ (.tail _ (.tail _ (.head _)))))) | exact .tail _ (.tail _ (.tail _ (.tail _ (.tail _ (.tail _ (.tail _ (.head _))))))))) _ Try.underlying3 rfl (.int .i64 (base : Nat)) rfl ?_)
    | ((with_reducible refine at_load (T := 3) ?_); refine wl_ldc rfl b4 1 rfl _ (hv.vars.row (by first | exact .head _ | exact .tail _ (.head _) | exact .tail _ (.tail _ (.head _)) | exact .tail _ (.tail _ (.tail _ (.head _))) | exact .tail _ (.tail _ (.tail _ (.tail _ (.head _)))) | exact .tail _ (.tail _ (.tail _ (.tail _ (.tail _ (.head _))))) | exact .tail _ (.tail _ (.tail _ (.tail _ (.tail _ (.tail _ (.head _)))))) | exact .tail _ (.tail _ (.tail _ (.tail _ (.tail _ (.tail _ (.tail _ (.head _))))))))) _ Try.underlying3 rfl (.int .i64 (n : Nat)) rfl ?_)
    | (go_at_call 63; (with_reducible refine (Desc_w HM.out.ok base n i HN.out HB.out HI.out H1.out H2.out H3.out H4.out _ (hv.rd HM.out.rd)).mono ?_); rintro e w1 ⟨rfl, hn1⟩; replace hv := hv.new hn1; clear hn1)
    | ((with_reducible refine at_alloc (T := 96) (dst := some 9) ?_); refine wl_newb rfl #[.int .u64 0, .int .u32 0, .int .u16 0, .int .u16 0] 96 (fun _ => rfl) ?_; intro b9 w2 hm2; replace hv := hv.madeAt hm2; clear hm2)
    | ((with_reducible refine at_store (T := 96) ?_); refine wl_stv rfl b9 rfl _ rfl _ (hv.vars.row (by first | exact .head _ | exact .tail _ (.head _) | exact .tail _ (.tail _ (.head _)) | exact .tail _ (.tail _ (.tail _ (.head _))) | exact .tail _ (.tail _ (.tail _ (.tail _ (.head _)))) | exact .tail _ (.tail _ (.tail _ (.tail _ (.tail _ (.head _))))) | exact .tail _ (.tail _ (.tail _ (.tail _ (.tail _ (.tail _ (.head _)))))) | exact .tail _ (.tail _ (.tail _ (.tail _ (.tail _ (.tail _ (.tail _ (.head _))))))))) (hv.vars.sft (by first | exact .head _ | exact .tail _ (.head _) | exact .tail _ (.tail _ (.head _)) | exact .tail _ (.tail _ (.tail _ (.head _))) | exact .tail _ (.tail _ (.tail _ (.tail _ (.head _)))) | exact .tail _ (.tail _ (.tail _ (.tail _ (.tail _ (.head _))))) | exact .tail _ (.tail _ (.tail _ (.tail _ (.tail _ (.tail _ (.head _)))))) | exact .tail _ (.tail _ (.tail _ (.tail _ (.tail _ (.tail _ (.tail _ (.head _))))))))) 4 infoD rfl rfl (by simp [Value.oneCell']) ?_; intro w2 hw2; (first | (replace hv := hv.set 0 rfl hw2) | (replace hv := hv.set 1 rfl hw2) | (replace hv := hv.set 2 rfl hw2) | (replace hv := hv.set 3 rfl hw2) | (replace hv := hv.set 4 rfl hw2) | (replace hv := hv.set 5 rfl hw2) | (replace hv := hv.set 6 rfl hw2) | (replace hv := hv.set 7 rfl hw2)); clear hw2; simp only [List.set] at hv)
    | ((with_reducible refine at_load (T := 93) ?_); refine wl_ldc rfl b9 0 rfl _ (hv.vars.row (by first | exact .head _ | exact .tail _ (.head _) | exact .tail _ (.tail _ (.head _)) | exact .tail _ (.tail _ (.tail _ (.head _))) | exact .tail _ (.tail _ (.tail _ (.tail _ (.head _)))) | exact .tail _ (.tail _ (.tail _ (.tail _ (.tail _ (.head _))))) | exact .tail _ (.tail _ (.tail _ (.tail _ (.tail _ (.tail _ (.head _)))))) | exact .tail _ (.tail _ (.tail _ (.tail _ (.tail _ (.tail _ (.tail _ (.head _))))))))) _ Try.underlying93 rfl (.int .u64 (a : Nat)) rfl ?_)
    | ((with_reducible refine at_load (T := 94) ?_); refine wl_ldc rfl b9 1 rfl _ (hv.vars.row (by first | exact .head _ | exact .tail _ (.head _) | exact .tail _ (.tail _ (.head _)) | exact .tail _ (.tail _ (.tail _ (.head _))) | exact .tail _ (.tail _ (.tail _ (.tail _ (.head _)))) | exact .tail _ (.tail _ (.tail _ (.tail _ (.tail _ (.head _))))) | exact .tail _ (.tail _ (.tail _ (.tail _ (.tail _ (.tail _ (.head _)))))) | exact .tail _ (.tail _ (.tail _ (.tail _ (.tail _ (.tail _ (.tail _ (.head _))))))))) _ Try.underlying94 rfl (.int .u32 (l : Nat)) rfl ?_)
    | ((with_reducible refine at_load (T := 27) ?_); refine wl_ldc rfl b9 2 rfl _ (hv.vars.row (by first | exact .head _ | exact .tail _ (.head _) | exact .tail _ (.tail _ (.head _)) | exact .tail _ (.tail _ (.tail _ (.head _))) | exact .tail _ (.tail _ (.tail _ (.tail _ (.head _)))) | exact .tail _ (.tail _ (.tail _ (.tail _ (.tail _ (.head _))))) | exact .tail _ (.tail _ (.tail _ (.tail _ (.tail _ (.tail _ (.head _)))))) | exact .tail _ (.tail _ (.tail _ (.tail _ (.tail _ (.tail _ (.tail _ (.head _))))))))) _ Try.underlying27 rfl (.int .u16 (f : Nat)) rfl ?_)
    | ((with_reducible refine at_build ?_); refine wl_build rfl [(0, .int .i64 (a : Nat)), (1, .int .i64 (l : Nat)), (2, .bool wr)] rfl (built_buf _ _ _) ?_)
    | ((with_reducible refine at_alloc (T := 60) (dst := some 11) ?_); refine wl_newb rfl #[.int .i64 0, .int .i64 0, .bool false] 60 (fun _ => rfl) ?_; intro b11 w2 hm2; replace hv := hv.madeAt hm2; clear hm2)
    | ((with_reducible refine at_store (T := 60) ?_); refine wl_stv rfl b11 rfl _ rfl _ (hv.vars.row (by first | exact .head _ | exact .tail _ (.head _) | exact .tail _ (.tail _ (.head _)) | exact .tail _ (.tail _ (.tail _ (.head _))) | exact .tail _ (.tail _ (.tail _ (.tail _ (.head _)))) | exact .tail _ (.tail _ (.tail _ (.tail _ (.tail _ (.head _))))) | exact .tail _ (.tail _ (.tail _ (.tail _ (.tail _ (.tail _ (.head _)))))) | exact .tail _ (.tail _ (.tail _ (.tail _ (.tail _ (.tail _ (.tail _ (.head _))))))))) (hv.vars.sft (by first | exact .head _ | exact .tail _ (.head _) | exact .tail _ (.tail _ (.head _)) | exact .tail _ (.tail _ (.tail _ (.head _))) | exact .tail _ (.tail _ (.tail _ (.tail _ (.head _)))) | exact .tail _ (.tail _ (.tail _ (.tail _ (.tail _ (.head _))))) | exact .tail _ (.tail _ (.tail _ (.tail _ (.tail _ (.tail _ (.head _)))))) | exact .tail _ (.tail _ (.tail _ (.tail _ (.tail _ (.tail _ (.tail _ (.head _))))))))) 3 infoB3 rfl rfl (by simp [Value.oneCell']) ?_; intro w2 hw2; (first | (replace hv := hv.set 0 rfl hw2) | (replace hv := hv.set 1 rfl hw2) | (replace hv := hv.set 2 rfl hw2) | (replace hv := hv.set 3 rfl hw2) | (replace hv := hv.set 4 rfl hw2) | (replace hv := hv.set 5 rfl hw2) | (replace hv := hv.set 6 rfl hw2) | (replace hv := hv.set 7 rfl hw2)); clear hw2; simp only [List.set] at hv))
  have HPM := Lib.hid (Any.rd_start hv HM.out.rd)
  refine Any.wp_region_walk [⟨[1000], none⟩, ⟨[1001], none⟩, ⟨[1005], none⟩, ⟨[1000], none⟩, ⟨[], none⟩, ⟨[1003], some 1003⟩, ⟨[1002], some 1002⟩, ⟨[], none⟩] [.val, .val, .val, .val, .val, .put, .put, .val] (by kernel_rfl) (by kernel_rfl) hv.vars ?_
  simp only [List.length_cons, List.length_nil, Nat.zero_add, Any.someVals]
  iterate 8 apply Exists.intro
  repeat (first
    | (refine Any.E_off rfl ?_; simp only [Act.put, List.setIfInBounds_toArray, List.set_cons_succ, List.set_cons_zero])
    | (apply Any.E_pureq rfl rfl rfl
       case h => intro K hK; go_big_quiet_op; (refine hK _ ?_; rfl)
       case hr => exact fun _ => rfl
       simp only [Act.put, List.setIfInBounds_toArray, List.set_cons_succ, List.set_cons_zero])
    | (apply Any.E_val rfl rfl rfl rfl
       case h =>
         intro E' hA K hK
         first
           | ((with_reducible refine Any.at_qload (T := 60) ?_); refine Any.q_ldv 1000 hA (by decide) rfl rfl 3 _ Try.underlying60 rfl infoB3 (by decide) rfl ?_; refine hK _ ?_; rfl)
           | ((with_reducible refine Any.at_qload (T := 96) ?_); refine Any.q_ldv 1001 hA (by decide) rfl rfl 4 _ Try.underlying96 rfl infoD (by decide) rfl ?_; refine hK _ ?_; rfl)
           | ((with_reducible refine Any.at_qload (T := 25) ?_); refine Any.q_ldv 1005 hA (by decide) rfl rfl 1 _ Try.underlying25 rfl infoM (by decide) rfl ?_; refine hK _ ?_; rfl)
           | (go_big_quiet_op; first
             | (refine hK _ ?_; rfl)
             | (refine ⟨_, fun _ _ => rfl, ?_⟩; refine hK _ ?_; rfl)
             | (apply Exists.intro; refine ⟨fun w1 hw1 => ?_, ?_⟩; · (first
                 | (go_at_call 30; exact Any.calls_VE (HLI.out _ (hw1.rdold HPM.out.1 HPM.out.2)) hw1))
                refine hK _ ?_; rfl))
       case hD => rfl
       simp only [Act.put, List.setIfInBounds_toArray, List.set_cons_succ, List.set_cons_zero])
    | ((with_reducible refine Any.at_ealloc ?_); refine Any.E_lay rfl rfl rfl (fun _ => rfl) ?_; intro B; simp only [Act.put, List.setIfInBounds_toArray, List.set_cons_succ, List.set_cons_zero])
    | ((with_reducible refine Any.at_estore (T := 60) ?_); refine Any.E_putv (T := 60) rfl rfl rfl rfl rfl rfl 3 infoB3 rfl rfl (by simp [Value.oneCell']) ?_; simp only [Act.put, List.setIfInBounds_toArray, List.set_cons_succ, List.set_cons_zero])
    | ((with_reducible refine Any.at_estore (T := 96) ?_); refine Any.E_putv (T := 96) rfl rfl rfl rfl rfl rfl 4 infoD rfl rfl (by simp [Value.oneCell']) ?_; simp only [Act.put, List.setIfInBounds_toArray, List.set_cons_succ, List.set_cons_zero]))
  try any_goals exact undef
  refine Any.E_nil ?_
  intro w9 hE9
  replace hv : Mem w w9 [(b11, #[.int .i64 (a : Nat), .int .i64 (l : Nat), .bool wr]), (b9, #[.int .u64 (a : Nat), .int .u32 (l : Nat), .int .u16 (f : Nat), .int .u16 (x : Nat)]), (b7, #[.int .u64 (a : Nat), .int .u32 (l : Nat), .int .u16 (f : Nat), .int .u16 (x : Nat)]), (b6, #[.int .i64 (a : Nat), .int .i64 (l : Nat), .bool wr]), (b4, #[.int .i64 (base : Nat), .int .i64 (n : Nat), .int .u16 (sn : Nat), .int .u16 (us : Nat)]), (b3, #[(.slice (some ⟨mb, mo, none⟩) mn mc)])] _ := hE9.mem hv [1000, 1001, 1002, 1003, 1004, 1005] (by decide)
  clear hE9
  go_wp2
  try simp only [Exit.inBlock, Exit.then]
  exact ret_cct (v := .agg #[.int .i64 (a : Nat), .int .i64 (l : Nat), .bool wr]) (v' := .agg #[.int .u64 (a : Nat), .int .u32 (l : Nat), .int .u16 (f : Nat), .int .u16 (x : Nat)]) (v1 := .bool true) rfl rfl rfl (read_row _ b6 60 _ (hv.vars.row (b := b6) (by first | exact .head _ | exact .tail _ (.head _) | exact .tail _ (.tail _ (.head _)) | exact .tail _ (.tail _ (.tail _ (.head _))) | exact .tail _ (.tail _ (.tail _ (.tail _ (.head _)))) | exact .tail _ (.tail _ (.tail _ (.tail _ (.tail _ (.head _))))) | exact .tail _ (.tail _ (.tail _ (.tail _ (.tail _ (.tail _ (.head _)))))) | exact .tail _ (.tail _ (.tail _ (.tail _ (.tail _ (.tail _ (.tail _ (.head _))))))))) 3 _ Try.underlying60 rfl infoB3 (by decide) rfl) (read_row _ b7 96 _ (hv.vars.row (b := b7) (by first | exact .head _ | exact .tail _ (.head _) | exact .tail _ (.tail _ (.head _)) | exact .tail _ (.tail _ (.tail _ (.head _))) | exact .tail _ (.tail _ (.tail _ (.tail _ (.head _)))) | exact .tail _ (.tail _ (.tail _ (.tail _ (.tail _ (.head _))))) | exact .tail _ (.tail _ (.tail _ (.tail _ (.tail _ (.tail _ (.head _)))))) | exact .tail _ (.tail _ (.tail _ (.tail _ (.tail _ (.tail _ (.tail _ (.head _))))))))) 4 _ Try.underlying96 rfl infoD (by decide) rfl) rfl rfl ⟨rfl, hv.below⟩
end Go.Proofs.Ytcelehhaggoijaa
