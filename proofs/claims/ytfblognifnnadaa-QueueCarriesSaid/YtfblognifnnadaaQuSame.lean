/-
  The reference: two queues that are alike are the same.
-/
import Derived.Test.YtfblognifnnadaaQuPoll2
set_option linter.unusedVariables false
set_option linter.unusedSimpArgs false
namespace Go.Proofs.Ytfblognifnnadaa
open Go.Proofs.Qu Go.Proofs.Nm Go.RowKit Go.Proofs
set_option maxRecDepth 100000 in
set_option maxHeartbeats 4000000 in
theorem ints_alike (u : Value) (l : List Nat) (hl : l.length ≤ 1000) (w : World) (hu : Rd w 1 u (intsI l)) : Calls Try.prog 45 #[u, u] w fun e w' => e = .returned (.bool true) ∧ New w w' := by
  have hv := (Mem.nil w).old hu
  obtain ⟨ua, n, uc, rfl, g1, _⟩ := id hu
  rw [intsI_len, Nat.mul_one] at g1
  have HL := Lib.hid g1
  have HN : Hid (n ≤ 1000) := Lib.hid (by omega)
  have yn : ((n : Int) != (n : Int)) = false := by simp
  clear hl hu g1
  go_enter Try.func45, Try.ntmps45
  go_wp2
  go_loopw [5] (fun kv wr => ∃ k : Nat, k ≤ n ∧ kv = .int .i64 (k : Nat) ∧ Mem w wr [] [(1, .slice ua n uc, intsI l)]) (fun kv _ => n - (intOf kv).toNat)
  case atStart => exact ⟨0, Nat.zero_le _, rfl, hv⟩
  case round =>
    clear hv
    obtain ⟨k, hk0, rfl, hv⟩ := hrel
    by_cases hk : k < n
    · have hki : (k : Int) < (n : Int) := by omega
      have hkb : (k : Int) ≤ 1000 := by have := HN.out; omega
      have hkl : k < l.length := by rw [HL.out]; exact hk
      obtain ⟨x, hx⟩ : ∃ x, l[k] = x := ⟨_, rfl⟩
      have HX : Hid ((intsI l)[k]? = some (.int .i64 (x : Nat))) := Lib.hid (by unfold intsI; rw [List.getElem?_map, List.getElem?_eq_getElem hkl, hx]; rfl)
      obtain ⟨xb, xo, _, _, e, hq⟩ := (hv.rd Mem.z).some (by rw [intsI_len]; omega)
      clear hq
      cases e
      have yx : ((x : Int) != (x : Int)) = false := by simp
      have HPA := Lib.hid (Any.rd_start hv Mem.z)
      have HKN := Lib.hid hk
      clear hkl hx hk0 hk
      go_wp2
      refine Any.wp_region_walk [⟨[], none⟩, ⟨[], none⟩, ⟨[], none⟩, ⟨[], none⟩, ⟨[], none⟩, ⟨[], none⟩, ⟨[], none⟩, ⟨[], none⟩, ⟨[], none⟩] [.val, .val, .val, .val, .val, .val, .val, .val, .val] (by kernel_rfl) (by kernel_rfl) hv.vars ?_
      simp only [List.length_cons, List.length_nil, Nat.zero_add, Any.someVals]
      iterate 9 apply Exists.intro
      repeat (first
        | (refine Any.E_off rfl ?_; simp only [Act.put, List.setIfInBounds_toArray, List.set_cons_succ, List.set_cons_zero])
        | (apply Any.E_pureq rfl rfl rfl
           case h => intro K hK; go_big_quiet_op; (refine hK _ ?_; rfl)
           case hr => exact fun _ => rfl
           simp only [Act.put, List.setIfInBounds_toArray, List.set_cons_succ, List.set_cons_zero])
        | (apply Any.E_val rfl rfl rfl rfl
           case h =>
             intro E' hA K hK
             first
               | ((with_reducible refine Any.at_qload (T := 3) ?_); refine Any.q_rd HPA.out (k) rfl _ Try.underlying3 rfl (.int .i64 (x : Nat)) HX.out ?_; refine hK _ ?_; rfl)
               | (go_big_quiet_op; first
                 | (refine hK _ ?_; rfl)
                 | (refine ⟨_, fun _ _ => rfl, ?_⟩; refine hK _ ?_; rfl)
                 | (apply Exists.intro; refine ⟨fun w1 hw1 => ?_, ?_⟩; · (first
                     | fail)
                    refine hK _ ?_; rfl))
           case hD => rfl
           simp only [Act.put, List.setIfInBounds_toArray, List.set_cons_succ, List.set_cons_zero])
        | ((with_reducible refine Any.at_ealloc ?_); refine Any.E_lay rfl rfl rfl (fun _ => rfl) ?_; intro B; simp only [Act.put, List.setIfInBounds_toArray, List.set_cons_succ, List.set_cons_zero]))
      try any_goals exact undef
      refine Any.E_nil ?_
      intro w9 hE9
      replace hv : Mem w w9 [] _ := hE9.mem hv [] (by decide)
      clear hE9
      clear HPA
      go_wp2
      have hkn := HKN.out
      go_roundw
      case rel => exact ⟨k + 1, by omega, by go_num, hv⟩
      case measure => simp [intOf]; omega
    · have hki : ¬ (k : Int) < (n : Int) := by omega
      clear hk hk0
      go_wp2
      go_ret
      exact ⟨rfl, hv.below⟩
set_option maxRecDepth 100000 in
set_option maxHeartbeats 16000000 in
theorem Same_alike {w0 w : World} {L : List (Nat × Array Value)} {R : List (Nat × Value × List Value)} {base n av la : Nat} {fv cv : Value} {free : List Nat} {chs : List Chn} (hv0 : Mem w0 w L R) (hq : InQ R fv cv free chs) (hf : free.length ≤ 1000) (hc : chs.length ≤ 1000) (hd : ∀ c ∈ chs, c.ds.length ≤ 1000) :
    Calls Try.prog 18 #[.agg #[.int .i64 (base : Nat), .int .i64 (n : Nat), fv, .int .u16 (av : Nat), .int .u16 (la : Nat), cv], .agg #[.int .i64 (base : Nat), .int .i64 (n : Nat), fv, .int .u16 (av : Nat), .int .u16 (la : Nat), cv]] w fun e w' => e = .returned (.bool true) ∧ New w w' := by
  have hv : Mem w w [] R := ⟨Vars.nil w, fun x hx => ⟨(hv0.rds x hx).1, fun _ _ _ _ _ _ p hp => (List.not_mem_nil hp).elim⟩⟩
  obtain ⟨fa, fn, fc, rfl, _⟩ := id (hv.rd hq.fr)
  obtain ⟨ca, cn, cc, rfl, gc, _⟩ := id (hv.rd hq.ch)
  rw [cellsC_len] at gc
  have HQ := Lib.hid hq
  have HCN : Hid (chs.length = cn) := Lib.hid (by omega)
  have HCB : Hid (cn ≤ 1000) := Lib.hid (by omega)
  have HF1 := Lib.hid hf
  have HD1 := Lib.hid hd
  have y1 : ((base : Int) != (base : Int)) = false := by simp
  have y2 : ((n : Int) != (n : Int)) = false := by simp
  have y3 : ((av : Int) != (av : Int)) = false := by simp
  have y4 : ((la : Int) != (la : Int)) = false := by simp
  have y5 : ((cn : Int) != (cn : Int)) = false := by simp
  clear hv0 hq hf hc hd gc
  go_enter Try.func18, Try.ntmps18
  go_wp2_with (first
    | ((with_reducible refine at_box (T := 44) (dst := some 2) ?_); refine wl_newb rfl #[.int .i64 (base : Nat), .int .i64 (n : Nat), .slice fa fn fc, .int .u16 (av : Nat), .int .u16 (la : Nat), .slice ca cn cc] 44 (fun _ => rfl) ?_; intro b2 w2 hm2; replace hv := hv.madeAt hm2; clear hm2)
    | ((with_reducible refine at_box (T := 44) (dst := some 3) ?_); refine wl_newb rfl #[.int .i64 (base : Nat), .int .i64 (n : Nat), .slice fa fn fc, .int .u16 (av : Nat), .int .u16 (la : Nat), .slice ca cn cc] 44 (fun _ => rfl) ?_; intro b3 w2 hm2; replace hv := hv.madeAt hm2; clear hm2)
    | ((with_reducible refine at_load (T := 3) ?_); refine wl_ldc rfl b2 0 rfl _ (hv.vars.row (by first | exact .head _ | exact .tail _ (.head _) | exact .tail _ (.tail _ (.head _)) | exact .tail _ (.tail _ (.tail _ (.head _))) | exact .tail _ (.tail _ (.tail _ (.tail _ (.head _)))) | exact .tail _ (.tail _ (.tail _ (.tail _ (.tail _ (.head _))))) | exact .tail _ (.tail _ (.tail _ (.tail _ (.tail _ (.tail _ (.head _)))))) | exact .tail _ (.tail _ (.tail _ (.tail _ (.tail _ (.tail _ (.tail _ (.head _))))))))) _ Try.underlying3 rfl (.int .i64 (base : Nat)) rfl ?_)
    | ((with_reducible refine at_load (T := 3) ?_); refine wl_ldc rfl b2 1 rfl _ (hv.vars.row (by first | exact .head _ | exact .tail _ (.head _) | exact .tail _ (.tail _ (.head _)) | exact .tail _ (.tail _ (.tail _ (.head _))) | exact .tail _ (.tail _ (.tail _ (.tail _ (.head _)))) | exact .tail _ (.tail _ (.tail _ (.tail _ (.tail _ (.head _))))) | exact .tail _ (.tail _ (.tail _ (.tail _ (.tail _ (.tail _ (.head _)))))) | exact .tail _ (.tail _ (.tail _ (.tail _ (.tail _ (.tail _ (.tail _ (.head _))))))))) _ Try.underlying3 rfl (.int .i64 (n : Nat)) rfl ?_)
    | ((with_reducible refine at_load (T := 41) ?_); refine wl_ldc rfl b2 3 rfl _ (hv.vars.row (by first | exact .head _ | exact .tail _ (.head _) | exact .tail _ (.tail _ (.head _)) | exact .tail _ (.tail _ (.tail _ (.head _))) | exact .tail _ (.tail _ (.tail _ (.tail _ (.head _)))) | exact .tail _ (.tail _ (.tail _ (.tail _ (.tail _ (.head _))))) | exact .tail _ (.tail _ (.tail _ (.tail _ (.tail _ (.tail _ (.head _)))))) | exact .tail _ (.tail _ (.tail _ (.tail _ (.tail _ (.tail _ (.tail _ (.head _))))))))) _ Try.underlying41 rfl (.int .u16 (av : Nat)) rfl ?_)
    | ((with_reducible refine at_load (T := 41) ?_); refine wl_ldc rfl b2 4 rfl _ (hv.vars.row (by first | exact .head _ | exact .tail _ (.head _) | exact .tail _ (.tail _ (.head _)) | exact .tail _ (.tail _ (.tail _ (.head _))) | exact .tail _ (.tail _ (.tail _ (.tail _ (.head _)))) | exact .tail _ (.tail _ (.tail _ (.tail _ (.tail _ (.head _))))) | exact .tail _ (.tail _ (.tail _ (.tail _ (.tail _ (.tail _ (.head _)))))) | exact .tail _ (.tail _ (.tail _ (.tail _ (.tail _ (.tail _ (.tail _ (.head _))))))))) _ Try.underlying41 rfl (.int .u16 (la : Nat)) rfl ?_)
    | ((with_reducible refine at_load (T := 31) ?_); refine wl_ldc rfl b2 2 rfl _ (hv.vars.row (by first | exact .head _ | exact .tail _ (.head _) | exact .tail _ (.tail _ (.head _)) | exact .tail _ (.tail _ (.tail _ (.head _))) | exact .tail _ (.tail _ (.tail _ (.tail _ (.head _)))) | exact .tail _ (.tail _ (.tail _ (.tail _ (.tail _ (.head _))))) | exact .tail _ (.tail _ (.tail _ (.tail _ (.tail _ (.tail _ (.head _)))))) | exact .tail _ (.tail _ (.tail _ (.tail _ (.tail _ (.tail _ (.tail _ (.head _))))))))) _ Try.underlying31 rfl (.slice fa fn fc) rfl ?_)
    | ((with_reducible refine at_load (T := 42) ?_); refine wl_ldc rfl b2 5 rfl _ (hv.vars.row (by first | exact .head _ | exact .tail _ (.head _) | exact .tail _ (.tail _ (.head _)) | exact .tail _ (.tail _ (.tail _ (.head _))) | exact .tail _ (.tail _ (.tail _ (.tail _ (.head _)))) | exact .tail _ (.tail _ (.tail _ (.tail _ (.tail _ (.head _))))) | exact .tail _ (.tail _ (.tail _ (.tail _ (.tail _ (.tail _ (.head _)))))) | exact .tail _ (.tail _ (.tail _ (.tail _ (.tail _ (.tail _ (.tail _ (.head _))))))))) _ Try.underlying42 rfl (.slice ca cn cc) rfl ?_)
    | ((with_reducible refine at_load (T := 3) ?_); refine wl_ldc rfl b3 0 rfl _ (hv.vars.row (by first | exact .head _ | exact .tail _ (.head _) | exact .tail _ (.tail _ (.head _)) | exact .tail _ (.tail _ (.tail _ (.head _))) | exact .tail _ (.tail _ (.tail _ (.tail _ (.head _)))) | exact .tail _ (.tail _ (.tail _ (.tail _ (.tail _ (.head _))))) | exact .tail _ (.tail _ (.tail _ (.tail _ (.tail _ (.tail _ (.head _)))))) | exact .tail _ (.tail _ (.tail _ (.tail _ (.tail _ (.tail _ (.tail _ (.head _))))))))) _ Try.underlying3 rfl (.int .i64 (base : Nat)) rfl ?_)
    | ((with_reducible refine at_load (T := 3) ?_); refine wl_ldc rfl b3 1 rfl _ (hv.vars.row (by first | exact .head _ | exact .tail _ (.head _) | exact .tail _ (.tail _ (.head _)) | exact .tail _ (.tail _ (.tail _ (.head _))) | exact .tail _ (.tail _ (.tail _ (.tail _ (.head _)))) | exact .tail _ (.tail _ (.tail _ (.tail _ (.tail _ (.head _))))) | exact .tail _ (.tail _ (.tail _ (.tail _ (.tail _ (.tail _ (.head _)))))) | exact .tail _ (.tail _ (.tail _ (.tail _ (.tail _ (.tail _ (.tail _ (.head _))))))))) _ Try.underlying3 rfl (.int .i64 (n : Nat)) rfl ?_)
    | ((with_reducible refine at_load (T := 41) ?_); refine wl_ldc rfl b3 3 rfl _ (hv.vars.row (by first | exact .head _ | exact .tail _ (.head _) | exact .tail _ (.tail _ (.head _)) | exact .tail _ (.tail _ (.tail _ (.head _))) | exact .tail _ (.tail _ (.tail _ (.tail _ (.head _)))) | exact .tail _ (.tail _ (.tail _ (.tail _ (.tail _ (.head _))))) | exact .tail _ (.tail _ (.tail _ (.tail _ (.tail _ (.tail _ (.head _)))))) | exact .tail _ (.tail _ (.tail _ (.tail _ (.tail _ (.tail _ (.tail _ (.head _))))))))) _ Try.underlying41 rfl (.int .u16 (av : Nat)) rfl ?_)
    | ((with_reducible refine at_load (T := 41) ?_); refine wl_ldc rfl b3 4 rfl _ (hv.vars.row (by first | exact .head _ | exact .tail _ (.head _) | exact .tail _ (.tail _ (.head _)) | exact .tail _ (.tail _ (.tail _ (.head _))) | exact .tail _ (.tail _ (.tail _ (.tail _ (.head _)))) | exact .tail _ (.tail _ (.tail _ (.tail _ (.tail _ (.head _))))) | exact .tail _ (.tail _ (.tail _ (.tail _ (.tail _ (.tail _ (.head _)))))) | exact .tail _ (.tail _ (.tail _ (.tail _ (.tail _ (.tail _ (.tail _ (.head _))))))))) _ Try.underlying41 rfl (.int .u16 (la : Nat)) rfl ?_)
    | ((with_reducible refine at_load (T := 31) ?_); refine wl_ldc rfl b3 2 rfl _ (hv.vars.row (by first | exact .head _ | exact .tail _ (.head _) | exact .tail _ (.tail _ (.head _)) | exact .tail _ (.tail _ (.tail _ (.head _))) | exact .tail _ (.tail _ (.tail _ (.tail _ (.head _)))) | exact .tail _ (.tail _ (.tail _ (.tail _ (.tail _ (.head _))))) | exact .tail _ (.tail _ (.tail _ (.tail _ (.tail _ (.tail _ (.head _)))))) | exact .tail _ (.tail _ (.tail _ (.tail _ (.tail _ (.tail _ (.tail _ (.head _))))))))) _ Try.underlying31 rfl (.slice fa fn fc) rfl ?_)
    | ((with_reducible refine at_load (T := 42) ?_); refine wl_ldc rfl b3 5 rfl _ (hv.vars.row (by first | exact .head _ | exact .tail _ (.head _) | exact .tail _ (.tail _ (.head _)) | exact .tail _ (.tail _ (.tail _ (.head _))) | exact .tail _ (.tail _ (.tail _ (.tail _ (.head _)))) | exact .tail _ (.tail _ (.tail _ (.tail _ (.tail _ (.head _))))) | exact .tail _ (.tail _ (.tail _ (.tail _ (.tail _ (.tail _ (.head _)))))) | exact .tail _ (.tail _ (.tail _ (.tail _ (.tail _ (.tail _ (.tail _ (.head _))))))))) _ Try.underlying42 rfl (.slice ca cn cc) rfl ?_)
    | (go_at_call 45; (with_reducible refine (ints_alike _ free HF1.out _ (hv.rd HQ.out.fr)).mono ?_); rintro e w1 ⟨rfl, hn1⟩; replace hv := hv.new hn1; clear hn1))
  go_loopw [5] (fun kv wr => ∃ k : Nat, k ≤ cn ∧ kv = .int .i64 (k : Nat) ∧ Mem w wr [(b3, #[.int .i64 (base : Nat), .int .i64 (n : Nat), .slice fa fn fc, .int .u16 (av : Nat), .int .u16 (la : Nat), .slice ca cn cc]), (b2, #[.int .i64 (base : Nat), .int .i64 (n : Nat), .slice fa fn fc, .int .u16 (av : Nat), .int .u16 (la : Nat), .slice ca cn cc])] R) (fun kv _ => cn - (intOf kv).toNat)
  case atStart => exact ⟨0, Nat.zero_le _, rfl, hv⟩
  case round =>
    clear hv
    obtain ⟨k, hk0, rfl, hv⟩ := hrel
    by_cases hk : k < cn
    · have hki : (k : Int) < (cn : Int) := by omega
      have hkb : (k : Int) ≤ 1000 := by have := HCB.out; omega
      have hkl : k < chs.length := by rw [HCN.out]; exact hk
      obtain ⟨⟨c_h, c_b, c_0, c_n, c_c, c_r, c_ds⟩, hc⟩ : ∃ c, chs[k] = c := ⟨_, rfl⟩
      have hmem : (⟨c_h, c_b, c_0, c_n, c_c, c_r, c_ds⟩ : Chn) ∈ chs := by rw [← hc]; exact List.getElem_mem _
      have hcx := chain_cells chs hkl
      rw [hc] at hcx
      have hx : ∀ j, j < 3 → (cellsC chs)[k * 3 + j]? = (encC ⟨c_h, c_b, c_0, c_n, c_c, c_r, c_ds⟩)[j]? := fun j hj => by
        have := congrArg (fun l => l[j]?) hcx
        simp only [List.getElem?_take, List.getElem?_drop, if_pos hj] at this
        exact this
      have HX0 : Hid ((cellsC chs)[k * 3]? = some (.int .i64 (c_h : Nat))) := Lib.hid (hx 0 (by omega))
      have HX1 : Hid ((cellsC chs)[k * 3 + 1]? = some (.slice (some ⟨c_b, c_0, none⟩) c_n c_c)) := Lib.hid (hx 1 (by omega))
      have HX2 : Hid ((cellsC chs)[k * 3 + 2]? = some (.int .i64 (c_r : Nat))) := Lib.hid (hx 2 (by omega))
      have hdd := HQ.out.ds _ hmem
      have HIN : Hid (∀ w1, Rd w1 1 (.slice (some ⟨c_b, c_0, none⟩) c_n c_c) (intsI c_ds) → Calls Try.prog 45 #[.slice (some ⟨c_b, c_0, none⟩) c_n c_c, .slice (some ⟨c_b, c_0, none⟩) c_n c_c] w1 fun e w' => e = .returned (.bool true) ∧ New w1 w') := Lib.hid (fun w1 hr => ints_alike _ c_ds (HD1.out _ hmem) w1 hr)
      obtain ⟨cb, co, _, _, e, hq⟩ := (hv.rd HQ.out.ch).some (by rw [cellsC_len]; omega)
      clear hq
      cases e
      have y6 : ((c_h : Int) != (c_h : Int)) = false := by simp
      have y7 : ((c_r : Int) != (c_r : Int)) = false := by simp
      have HPC := Lib.hid (Any.rd_start hv HQ.out.ch)
      have HPD := Lib.hid (Any.rd_start hv hdd)
      have HKN := Lib.hid hk
      clear hkl hc hmem hcx hx hdd hk0 hk
      go_wp2_with (first
        | ((with_reducible refine at_load (T := 42) ?_); refine wl_ldc rfl b2 5 rfl _ (hv.vars.row (by first | exact .head _ | exact .tail _ (.head _) | exact .tail _ (.tail _ (.head _)) | exact .tail _ (.tail _ (.tail _ (.head _))) | exact .tail _ (.tail _ (.tail _ (.tail _ (.head _)))) | exact .tail _ (.tail _ (.tail _ (.tail _ (.tail _ (.head _))))) | exact .tail _ (.tail _ (.tail _ (.tail _ (.tail _ (.tail _ (.head _)))))) | exact .tail _ (.tail _ (.tail _ (.tail _ (.tail _ (.tail _ (.tail _ (.head _))))))))) _ Try.underlying42 rfl (.slice (some ⟨cb, co, none⟩) cn cc) rfl ?_))
      refine Any.wp_region_walk [⟨[], none⟩, ⟨[1001], none⟩, ⟨[], none⟩, ⟨[], none⟩, ⟨[], none⟩, ⟨[], none⟩, ⟨[], none⟩, ⟨[1000], none⟩, ⟨[], none⟩, ⟨[], none⟩, ⟨[], none⟩, ⟨[], none⟩, ⟨[], none⟩, ⟨[], none⟩, ⟨[], none⟩, ⟨[1001], none⟩, ⟨[], none⟩, ⟨[], none⟩, ⟨[], none⟩, ⟨[], none⟩, ⟨[], none⟩, ⟨[1000], none⟩, ⟨[], none⟩, ⟨[], none⟩, ⟨[], none⟩, ⟨[], none⟩, ⟨[], none⟩, ⟨[], none⟩, ⟨[], none⟩, ⟨[], none⟩, ⟨[1001], none⟩, ⟨[], none⟩, ⟨[], none⟩, ⟨[], none⟩, ⟨[], none⟩, ⟨[], none⟩, ⟨[1000], none⟩, ⟨[], none⟩, ⟨[], none⟩, ⟨[], none⟩, ⟨[], none⟩, ⟨[], none⟩, ⟨[], none⟩, ⟨[], none⟩] [.val, .val, .val, .val, .val, .val, .val, .val, .val, .val, .val, .val, .val, .val, .val, .val, .val, .val, .val, .val, .val, .val, .val, .val, .val, .val, .val, .val, .val, .val, .val, .val, .val, .val, .val, .val, .val, .val, .val, .val, .val, .val, .val, .val] (by kernel_rfl) (by kernel_rfl) hv.vars ?_
      simp only [List.length_cons, List.length_nil, Nat.zero_add, Any.someVals]
      iterate 44 apply Exists.intro
      repeat (first
        | (refine Any.E_off rfl ?_; simp only [Act.put, List.setIfInBounds_toArray, List.set_cons_succ, List.set_cons_zero])
        | (apply Any.E_pureq rfl rfl rfl
           case h => intro K hK; go_big_quiet_op; (refine hK _ ?_; rfl)
           case hr => exact fun _ => rfl
           simp only [Act.put, List.setIfInBounds_toArray, List.set_cons_succ, List.set_cons_zero])
        | (apply Any.E_val rfl rfl rfl rfl
           case h =>
             intro E' hA K hK
             first
               | ((with_reducible refine Any.at_qload (T := 42) ?_); refine Any.q_ldc 1000 hA (by decide) rfl rfl _ Try.underlying42 rfl (.slice (some ⟨cb, co, none⟩) cn cc) rfl ?_; refine hK _ ?_; rfl)
               | ((with_reducible refine Any.at_qload (T := 42) ?_); refine Any.q_ldc 1001 hA (by decide) rfl rfl _ Try.underlying42 rfl (.slice (some ⟨cb, co, none⟩) cn cc) rfl ?_; refine hK _ ?_; rfl)
               | ((with_reducible refine Any.at_qload (T := 3) ?_); refine Any.q_rd HPC.out (k * 3) rfl _ Try.underlying3 rfl (.int .i64 (c_h : Nat)) HX0.out ?_; refine hK _ ?_; rfl)
               | ((with_reducible refine Any.at_qload (T := 3) ?_); refine Any.q_rd HPC.out (k * 3 + 2) rfl _ Try.underlying3 rfl (.int .i64 (c_r : Nat)) HX2.out ?_; refine hK _ ?_; rfl)
               | ((with_reducible refine Any.at_qload (T := 31) ?_); refine Any.q_rd HPC.out (k * 3 + 1) rfl _ Try.underlying31 rfl (.slice (some ⟨c_b, c_0, none⟩) c_n c_c) HX1.out ?_; refine hK _ ?_; rfl)
               | (go_big_quiet_op; first
                 | (refine hK _ ?_; rfl)
                 | (refine ⟨_, fun _ _ => rfl, ?_⟩; refine hK _ ?_; rfl)
                 | (apply Exists.intro; refine ⟨fun w1 hw1 => ?_, ?_⟩; · (first
                     | (go_at_call 45; exact Any.calls_VE (HIN.out _ (hw1.rdold HPD.out.1 HPD.out.2)) hw1))
                    refine hK _ ?_; rfl))
           case hD => rfl
           simp only [Act.put, List.setIfInBounds_toArray, List.set_cons_succ, List.set_cons_zero])
        | ((with_reducible refine Any.at_ealloc ?_); refine Any.E_lay rfl rfl rfl (fun _ => rfl) ?_; intro B; simp only [Act.put, List.setIfInBounds_toArray, List.set_cons_succ, List.set_cons_zero]))
      try any_goals exact undef
      refine Any.E_nil ?_
      intro w9 hE9
      replace hv : Mem w w9 [(b3, #[.int .i64 (base : Nat), .int .i64 (n : Nat), .slice fa fn fc, .int .u16 (av : Nat), .int .u16 (la : Nat), .slice (some ⟨cb, co, none⟩) cn cc]), (b2, #[.int .i64 (base : Nat), .int .i64 (n : Nat), .slice fa fn fc, .int .u16 (av : Nat), .int .u16 (la : Nat), .slice (some ⟨cb, co, none⟩) cn cc])] _ := hE9.mem hv [1000, 1001] (by decide)
      clear hE9
      clear HPC HPD
      go_wp2
      have hkn := HKN.out
      go_roundw
      case rel => exact ⟨k + 1, by omega, by go_num, hv⟩
      case measure => simp [intOf]; omega
    · have hki : ¬ (k : Int) < (cn : Int) := by omega
      clear hk hk0
      go_wp2_with (first
        | ((with_reducible refine at_load (T := 42) ?_); refine wl_ldc rfl b2 5 rfl _ (hv.vars.row (by first | exact .head _ | exact .tail _ (.head _) | exact .tail _ (.tail _ (.head _)) | exact .tail _ (.tail _ (.tail _ (.head _))) | exact .tail _ (.tail _ (.tail _ (.tail _ (.head _)))) | exact .tail _ (.tail _ (.tail _ (.tail _ (.tail _ (.head _))))) | exact .tail _ (.tail _ (.tail _ (.tail _ (.tail _ (.tail _ (.head _)))))) | exact .tail _ (.tail _ (.tail _ (.tail _ (.tail _ (.tail _ (.tail _ (.head _))))))))) _ Try.underlying42 rfl (.slice ca cn cc) rfl ?_))
      go_ret
      exact ⟨rfl, hv.below⟩
end Go.Proofs.Ytfblognifnnadaa
