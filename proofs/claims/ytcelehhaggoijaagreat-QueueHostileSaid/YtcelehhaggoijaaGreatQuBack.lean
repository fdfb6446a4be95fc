/-
  A chain taken back: back.
-/
import Derived.Test.YtcelehhaggoijaaGreatQuDel
set_option linter.unusedVariables false
set_option linter.unusedSimpArgs false
namespace Go.Proofs.YtcelehhaggoijaaGreat
open Go.Proofs.Qu Go.Proofs.Nm Go.RowKit Go.Proofs
theorem ConcatI_two (u v : Value) (a b : List Nat) (B : Nat) (w : World) (h0 : Rd w 1 (.slice (some ⟨B, 0, none⟩) 2 2) [u, v]) (h1 : Rd w 1 u (intsI a)) (h2 : Rd w 1 v (intsI b)) (ht : 0 < (a ++ b).length) (htm : (a ++ b).length ≤ 1000000) : Calls Tryz.prog 106 #[.slice (some ⟨B, 0, none⟩) 2 2] w (OwnR 1 (intsI (a ++ b)) w) := by
  have e : ([(u, a), (v, b)] : List (Value × List Nat)).flatMap (·.2) = a ++ b := by simp
  have hm := (((Mem.nil w).old h2).old h1).old h0
  have := ConcatI_any [(u, a), (v, b)] B 0 2 2 w w [] _ hm Mem.z (fun p hp => by
    rcases List.mem_cons.1 hp with rfl | hp
    · exact Mem.s Mem.z
    · rw [List.mem_singleton.1 hp]; exact Mem.s (Mem.s Mem.z)) (by omega) (by rw [e]; exact ht) (by rw [e]; exact htm)
  rwa [e] at this
theorem infoSI1 : (Tryz.prog.info? 22).map (·.size) = some 1 := by kernel_rfl
set_option maxRecDepth 100000 in
set_option maxHeartbeats 16000000 in
theorem back_M {w0 w : World} {L : List (Nat × Array Value)} {R : List (Nat × Value × List Value)} {bw base n av la : Nat} {fv cv mv : Value} {free : List Nat} {chs : List Chn} (hv : Mem w0 w ((bw, #[.int .i64 (base : Nat), .int .i64 (n : Nat), fv, .int .u16 (av : Nat), .int .u16 (la : Nat), cv, mv]) :: L) R) (hq : InQ R fv cv free chs) (at_ : Nat) {c : Chn} (hc : chs[at_]? = some c) (h0 : 0 < c.ds.length) (hl : free.length + c.ds.length ≤ 16) (hcl : chs.length ≤ 16) :
    Calls Tryz.prog 56 #[.pointer (some ⟨bw, 0, none⟩), .int .i64 (at_ : Nat)] w fun e w' => e = .returned (.tuple #[]) ∧ ∃ fv' cv' free' R', Mem w0 w' ((bw, #[.int .i64 (base : Nat), .int .i64 (n : Nat), fv', .int .u16 (av : Nat), .int .u16 (la : Nat), cv', mv]) :: L) R' ∧ InQ R' fv' cv' free' (chs.eraseIdx at_) ∧ free'.Perm (free ++ c.ds) ∧ free'.Pairwise (· ≤ ·) ∧ ∀ x ∈ R, x ∈ R' := by
  obtain ⟨fa, fn, fc, rfl, _⟩ := id (hv.rd hq.fr)
  have hat := (List.getElem?_eq_some_iff.1 hc).1
  obtain ⟨cb, co, cn, cc, rfl, gc, _⟩ := (hv.rd hq.ch).some (by rw [cellsC_len]; omega)
  rw [cellsC_len] at gc
  have hcn : chs.length = cn := by omega
  obtain ⟨c_h, db, d0, dn, dc, c_r, ds⟩ := c
  simp only at h0 hl
  have hmem := List.mem_of_getElem? hc
  have hds := hq.ds _ hmem
  simp only at hds
  have hcx := part_flat (k := 3) (en := encC) (fun _ => rfl) chs at_ hat
  rw [(List.getElem?_eq_some_iff.1 hc).2] at hcx
  have hcx1 : (cellsC chs)[at_ * 3 + 1]? = some (.slice (some ⟨db, d0, none⟩) dn dc) := by
    have := congrArg (fun l => l[1]?) hcx
    simp only [List.getElem?_take, List.getElem?_drop] at this
    exact this
  obtain ⟨at1, hat1⟩ : ∃ k, k = at_ + 1 := ⟨_, rfl⟩
  have q1 : IntKind.i64.wrap ((at_ : Int) + 1) = (at1 : Int) := by rw [IntWalk.i64_in _ (by omega)]; omega
  have hati : (at_ : Int) < (cn : Int) := by omega
  have HQ := Lib.hid hq
  have HDS := Lib.hid hds
  have HCX := Lib.hid hcx1
  have HT0 : Hid (0 < (free ++ ds).length) := Lib.hid (by rw [List.length_append]; omega)
  have HTM : Hid ((free ++ ds).length ≤ 1000000) := Lib.hid (by rw [List.length_append]; omega)
  have HLL : Hid ((free ++ ds).length ≤ 100000) := Lib.hid (by rw [List.length_append]; omega)
  have HWS : Hid (∃ v x, AppRow v 1 (intsI (free ++ ds)) x) := Lib.hid (Any.AppRow.some (k := 1) (n := (free ++ ds).length) (by rw [intsI_len, Nat.mul_one]) (by rw [List.length_append]; unfold maxLen; omega))
  have HCN : Hid (cn ≤ 1000000) := Lib.hid (by omega)
  have HCN2 : Hid (cn ≤ 1000) := Lib.hid (by omega)
  have HCL := Lib.hid hcn
  have HA1 := Lib.hid hat1
  have HAN : Hid (at_ < cn) := Lib.hid (by omega)
  clear hq hc h0 hl hcl hat gc hcn hmem hds hcx hcx1 hat1
  go_enter Tryz.func56, Tryz.ntmps56
  go_wp2
  have hv0 := hv
  clear hv
  have hv : Mem w0 _ ([(bw, #[.int .i64 (base : Nat), .int .i64 (n : Nat), .slice fa fn fc, .int .u16 (av : Nat), .int .u16 (la : Nat), .slice (some ⟨cb, co, none⟩) cn cc, mv])] ++ L) _ := hv0
  clear hv0
  have HPF := Lib.hid (Any.rd_start (hv.keep (List.sublist_append_left [(bw, #[.int .i64 (base : Nat), .int .i64 (n : Nat), .slice fa fn fc, .int .u16 (av : Nat), .int .u16 (la : Nat), .slice (some ⟨cb, co, none⟩) cn cc, mv])] L)) HQ.out.fr)
  have HPD := Lib.hid (Any.rd_start (hv.keep (List.sublist_append_left [(bw, #[.int .i64 (base : Nat), .int .i64 (n : Nat), .slice fa fn fc, .int .u16 (av : Nat), .int .u16 (la : Nat), .slice (some ⟨cb, co, none⟩) cn cc, mv])] L)) HDS.out)
  have HPC := Lib.hid (Any.rd_start (hv.keep (List.sublist_append_left [(bw, #[.int .i64 (base : Nat), .int .i64 (n : Nat), .slice fa fn fc, .int .u16 (av : Nat), .int .u16 (la : Nat), .slice (some ⟨cb, co, none⟩) cn cc, mv])] L)) HQ.out.ch)
  refine Any.wp_region_walk [⟨[], none⟩, ⟨[], none⟩, ⟨[], none⟩, ⟨[], none⟩, ⟨[], none⟩, ⟨[1000], none⟩, ⟨[], none⟩, ⟨[], none⟩, ⟨[], none⟩, ⟨[], none⟩, ⟨[1000], none⟩, ⟨[], none⟩, ⟨[], none⟩, ⟨[], none⟩, ⟨[], none⟩, ⟨[], some 15⟩, ⟨[15], some 16⟩, ⟨[], none⟩, ⟨[], none⟩, ⟨[], none⟩, ⟨[1000], some 1000⟩] [.val, .val, .val, .val, .val, .val, .val, .val, .val, .val, .val, .val, .val, .val, .val, .bsl 2 #[.slice fa fn fc, .slice (some ⟨db, d0, none⟩) dn dc], .own (fun v x => AppRow v 1 (intsI (free ++ ds)) x), .val, .val, .val, .put] (by kernel_rfl) (by kernel_rfl) (hv.vars.keep (List.sublist_append_left [(bw, #[.int .i64 (base : Nat), .int .i64 (n : Nat), .slice fa fn fc, .int .u16 (av : Nat), .int .u16 (la : Nat), .slice (some ⟨cb, co, none⟩) cn cc, mv])] L)) ?_
  simp only [List.length_cons, List.length_nil, Nat.zero_add, Any.someVals]
  iterate 21 apply Exists.intro
  repeat (first
    | (refine Any.E_off rfl ?_; simp only [Act.put, List.setIfInBounds_toArray, List.set_cons_succ, List.set_cons_zero])
    | (apply Any.E_pureq rfl rfl rfl
       case h => intro K hK; go_big_quiet_op; (refine hK _ ?_; rfl)
       case hr => exact fun _ => rfl
       simp only [Act.put, List.setIfInBounds_toArray, List.set_cons_succ, List.set_cons_zero])
    | (apply Any.E_val rfl rfl rfl rfl
       case h =>
         intro E' hA K hK
         first
           | ((with_reducible refine Any.at_qload (T := 22) ?_); refine Any.q_ldc 1000 hA (by decide) rfl rfl _ Tryz.underlying22 rfl (.slice fa fn fc) rfl ?_; refine hK _ ?_; rfl)
           | ((with_reducible refine Any.at_qload (T := 30) ?_); refine Any.q_ldc 1000 hA (by decide) rfl rfl _ Tryz.underlying30 rfl (.slice (some ⟨cb, co, none⟩) cn cc) rfl ?_; refine hK _ ?_; rfl)
           | ((with_reducible refine Any.at_qload (T := 22) ?_); refine Any.q_rd HPC.out (at_ * 3 + 1) rfl _ Tryz.underlying22 rfl (.slice (some ⟨db, d0, none⟩) dn dc) HCX.out ?_; refine hK _ ?_; rfl)
           | (go_big_quiet_op; first
             | (refine hK _ ?_; rfl)
             | (refine ⟨_, fun _ _ => rfl, ?_⟩; refine hK _ ?_; rfl)
             | (apply Exists.intro; refine ⟨fun w1 hw1 => ?_, ?_⟩; · (first
                 | fail)
                refine hK _ ?_; rfl))
       case hD => rfl
       simp only [Act.put, List.setIfInBounds_toArray, List.set_cons_succ, List.set_cons_zero])
    | ((with_reducible refine Any.at_ealloc ?_); refine Any.E_lay rfl rfl rfl (fun _ => rfl) ?_; intro B; simp only [Act.put, List.setIfInBounds_toArray, List.set_cons_succ, List.set_cons_zero])
    | ((with_reducible refine Any.at_ebsl ?_); refine Any.E_bsl (n := 2) (z := #[.slice fa fn fc, .slice (some ⟨db, d0, none⟩) dn dc]) (t := 22) rfl rfl rfl (fun w' => (by unfold execOp; go_simp)) ?_; intro B; simp only [Act.put, List.setIfInBounds_toArray, List.set_cons_succ, List.set_cons_zero])
    | ((with_reducible refine Any.at_ecall ?_); refine Any.E_callownA (W := (fun v x => AppRow v 1 (intsI (free ++ ds)) x)) rfl rfl rfl (Go.Proofs.enters_of Tryz.func106 (by kernel_rfl) rfl) rfl [.slice (some ⟨B, 0, none⟩) 2 2] rfl HWS.out (fun E' he w1 hw1 => ConcatI_two _ _ free ds B w1 (hw1.rd ((he 15 (by decide)).trans rfl) 2 1 rfl (by unfold maxLen; omega)) (hw1.rdold HPF.out.1 HPF.out.2) (hw1.rdold HPD.out.1 HPD.out.2) HT0.out HTM.out) ?_; intro v9 x9 hW9; obtain ⟨xb, xz⟩ := x9; obtain ⟨n9, c9, rfl, g9⟩ := id hW9; replace g9 := Lib.hid g9; replace hW9 := Lib.hid hW9; simp only [Act.put, List.setIfInBounds_toArray, List.set_cons_succ, List.set_cons_zero])
    | ((with_reducible refine Any.at_estore (T := 22) ?_); refine Any.E_putc (T := 22) rfl rfl rfl rfl rfl rfl (by kernel_rfl) rfl (by simp) ?_; simp only [Act.put, List.setIfInBounds_toArray, List.set_cons_succ, List.set_cons_zero]))
  try any_goals exact undef
  refine Any.E_nil ?_
  intro w9 hE9
  replace hv : Mem w0 w9 ([(bw, #[.int .i64 (base : Nat), .int .i64 (n : Nat), .slice (some ⟨xb, 0, none⟩) n9 c9, .int .u16 (av : Nat), .int .u16 (la : Nat), .slice (some ⟨cb, co, none⟩) cn cc, mv]), (xb, xz)] ++ L) _ := hE9.memr hv [1000, 16] (by decide)
  clear hE9
  simp only [List.cons_append, List.nil_append] at hv
  clear HPF HPD HPC g9
  have HROW := Lib.hid hW9.out
  clear hW9
  go_wp2_with (first
    | ((with_reducible refine at_load (T := 22) ?_); refine wl_ldc rfl bw 2 rfl _ (hv.vars.row (by first | exact .head _ | exact .tail _ (.head _) | exact .tail _ (.tail _ (.head _)) | exact .tail _ (.tail _ (.tail _ (.head _))) | exact .tail _ (.tail _ (.tail _ (.tail _ (.head _)))) | exact .tail _ (.tail _ (.tail _ (.tail _ (.tail _ (.head _))))) | exact .tail _ (.tail _ (.tail _ (.tail _ (.tail _ (.tail _ (.head _)))))) | exact .tail _ (.tail _ (.tail _ (.tail _ (.tail _ (.tail _ (.tail _ (.head _))))))))) _ Tryz.underlying22 rfl (.slice (some ⟨xb, 0, none⟩) n9 c9) rfl ?_)
    | (go_at_call 60; (with_reducible refine (SortI_M (hv.perm (List.Perm.swap _ _ _)) HROW.out HLL.out).mono ?_); rintro e w1 ⟨rfl, l9, z9, hp9, hs9, hr9, hv1⟩; have hv2 := Mem.yield (L1 := []) hv1 hr9; replace hv := hv2; clear hv1 hv2 hr9; simp only [List.nil_append] at hv)
    | ((with_reducible refine at_load (T := 30) ?_); refine wl_ldc rfl bw 5 rfl _ (hv.vars.row (by first | exact .head _ | exact .tail _ (.head _) | exact .tail _ (.tail _ (.head _)) | exact .tail _ (.tail _ (.tail _ (.head _))) | exact .tail _ (.tail _ (.tail _ (.tail _ (.head _)))) | exact .tail _ (.tail _ (.tail _ (.tail _ (.tail _ (.head _))))) | exact .tail _ (.tail _ (.tail _ (.tail _ (.tail _ (.tail _ (.head _)))))) | exact .tail _ (.tail _ (.tail _ (.tail _ (.tail _ (.tail _ (.tail _ (.head _))))))))) _ Tryz.underlying30 rfl (.slice (some ⟨cb, co, none⟩) cn cc) rfl ?_)
    | (go_at_call 108; (with_reducible refine (CClone_row ⟨cb, co, none⟩ cn cc (cellsC chs) _ (hv.rd (Mem.s HQ.out.ch)) (cellsC_one _) HCN.out).mono ?_); rintro e w1 ⟨yv, yx, rfl, hyr, hyn, hyg, hy1, hy2⟩; replace hv := hv.lay' hyg hyn hy1 hy2; clear hyn hyg hy1 hy2; obtain ⟨yb, yz⟩ := yx; obtain ⟨yn, yc, rfl, gy⟩ := id hyr; rw [cellsC_len] at gy; have hyn2 : yn = cn := by {have := gy.1; have := HCL.out; omega}; subst hyn2; replace hyr := Lib.hid hyr; clear gy)
    | (go_at_call 107; (with_reducible refine (Delete_row hv hyr.out at_ at1 HA1.out HAN.out HCN2.out).mono ?_); rintro e w1 ⟨n1, z1, rfl, hr1, hv1⟩; have hv2 := Mem.yield (L1 := []) hv1 hr1; replace hv := hv2; clear hv1 hv2 hr1; simp only [List.nil_append] at hv)
    | ((with_reducible refine at_store (T := 30) ?_); refine wl_stc rfl bw 5 rfl (.slice (some ⟨yb, 0, none⟩) n1 yc) rfl _ (hv.vars.row (by first | exact .head _ | exact .tail _ (.head _) | exact .tail _ (.tail _ (.head _)) | exact .tail _ (.tail _ (.tail _ (.head _))) | exact .tail _ (.tail _ (.tail _ (.tail _ (.head _)))) | exact .tail _ (.tail _ (.tail _ (.tail _ (.tail _ (.head _))))) | exact .tail _ (.tail _ (.tail _ (.tail _ (.tail _ (.tail _ (.head _)))))) | exact .tail _ (.tail _ (.tail _ (.tail _ (.tail _ (.tail _ (.tail _ (.head _))))))))) (hv.vars.sft (by first | exact .head _ | exact .tail _ (.head _) | exact .tail _ (.tail _ (.head _)) | exact .tail _ (.tail _ (.tail _ (.head _))) | exact .tail _ (.tail _ (.tail _ (.tail _ (.head _)))) | exact .tail _ (.tail _ (.tail _ (.tail _ (.tail _ (.head _))))) | exact .tail _ (.tail _ (.tail _ (.tail _ (.tail _ (.tail _ (.head _)))))) | exact .tail _ (.tail _ (.tail _ (.tail _ (.tail _ (.tail _ (.tail _ (.head _))))))))) (by kernel_rfl) rfl (by show 5 < 7; decide) ?_; intro w2 hw2; (first | (replace hv := hv.set 0 rfl hw2) | (replace hv := hv.set 1 rfl hw2) | (replace hv := hv.set 2 rfl hw2) | (replace hv := hv.set 3 rfl hw2)); clear hw2; simp only [List.set] at hv))
  go_end0
  refine ⟨rfl, .slice (some ⟨xb, 0, none⟩) n9 c9, .slice (some ⟨yb, 0, none⟩) n1 yc, l9, _, hv, ⟨Mem.s Mem.z, Mem.z, fun c hc => ?_⟩, hp9, hs9, fun x hx => Mem.s (Mem.s hx)⟩
  exact Mem.s (Mem.s (HQ.out.ds c ((List.eraseIdx_sublist chs at_).subset hc)))
end Go.Proofs.YtcelehhaggoijaaGreat
