/-
  Check says yes to a queue that may be.
-/
import Derived.Test.YtcelehhaggoijaaGreatQuChk2
set_option linter.unusedVariables false
set_option linter.unusedSimpArgs false
namespace Go.Proofs.Qu
open Go Go.RowKit Go.Proofs.Nm
theorem mem1o {w0 w : World} {a : Nat × Array Value} {O : List (Nat × Array Value)} {R : List (Nat × Value × List Value)} (h : Mem w0 w (a :: O) R) : Mem w0 w ([a] ++ O ++ []) R := by simpa using h
theorem mem1o' {w0 w : World} {a : Nat × Array Value} {O : List (Nat × Array Value)} {R : List (Nat × Value × List Value)} (h : Mem w0 w ([a] ++ O ++ []) R) : Mem w0 w (a :: O) R := by simpa using h
theorem mem2o {w0 w : World} {a b : Nat × Array Value} {O : List (Nat × Array Value)} {R : List (Nat × Value × List Value)} (h : Mem w0 w (a :: b :: O) R) : Mem w0 w ([a, b] ++ O ++ []) R := by simpa using h
theorem mem2o' {w0 w : World} {a b : Nat × Array Value} {O : List (Nat × Array Value)} {R : List (Nat × Value × List Value)} (h : Mem w0 w ([a, b] ++ O ++ []) R) : Mem w0 w (a :: b :: O) R := by simpa using h
theorem ptr0 {v : Value} {b i : Nat} (h : v = .pointer (some ⟨b, i, none⟩)) : v = .pointer (some ⟨b, 0 + i, none⟩) := by rw [h, Nat.zero_add]
theorem chs_len : ∀ {chs : List Chn}, (∀ c ∈ chs, c.ds[0]? = some c.h) → chs.length ≤ (chs.flatMap (·.ds)).length := by
  intro chs
  induction chs with
  | nil => intro _; exact Nat.le_refl _
  | cons c r ih =>
    intro h
    have h1 := (List.getElem?_eq_some_iff.1 (h c (List.mem_cons_self ..))).1
    have h2 := ih fun x hx => h x (List.mem_cons_of_mem _ hx)
    rw [List.flatMap_cons, List.length_append, List.length_cons]
    omega
/-- All descriptors, up to chain k. -/
def allD (free : List Nat) (chs : List Chn) (k : Nat) : List Nat := free ++ (chs.take k).flatMap (·.ds)
end Go.Proofs.Qu
namespace Go.Proofs.YtcelehhaggoijaaGreat
open Go.Proofs.Qu Go.Proofs.Nm Go.RowKit Go.Proofs
set_option maxRecDepth 100000 in
set_option maxHeartbeats 16000000 in
theorem QCheck_ok {w0 w : World} {L : List (Nat × Array Value)} {R : List (Nat × Value × List Value)} {base n av la : Nat} {fv cv : Value} {free : List Nat} {chs : List Chn} (hv0 : Mem w0 w L R) (hq : InQ R fv cv free chs) (hok : OkQ n free chs) :
    Calls Tryz.prog 13 #[.agg #[.int .i64 (base : Nat), .int .i64 (n : Nat), fv, .int .u16 (av : Nat), .int .u16 (la : Nat), cv]] w fun e w' => e = .returned (.bool true) ∧ New w w' := by
  have hv : Mem w w [] R := ⟨Vars.nil w, fun x hx => ⟨(hv0.rds x hx).1, fun _ _ _ _ _ _ p hp => (List.not_mem_nil hp).elim⟩⟩
  obtain ⟨fa, fn, fc, rfl, gf, _⟩ := id (hv.rd hq.fr)
  obtain ⟨ca, cn, cc, rfl, gc, _⟩ := id (hv.rd hq.ch)
  rw [intsI_len, Nat.mul_one] at gf
  rw [cellsC_len] at gc
  have hle := hok.sz.le
  have hlen := hok.len
  have hlt := hok.le
  have HQ := Lib.hid hq
  have HOK := Lib.hid hok
  have HCN : Hid (chs.length = cn) := Lib.hid (by omega)
  have HF1 : Hid (free.length ≤ 100) := Lib.hid (by omega)
  have HF2 := Lib.hid hok.so
  have HF3 : Hid (∀ x ∈ free, x ≤ 1000) := Lib.hid (fun x hx => by have := hlt x (List.mem_append_left _ hx); omega)
  have HF4 : Hid (free.length ≤ 1000) := Lib.hid (by omega)
  obtain ⟨sz, hs⟩ : ∃ sz, sizeN n = sz := ⟨_, rfl⟩
  have HSI : Hid (∀ w, Calls Tryz.prog 40 #[.int .i64 (n : Nat)] w fun e w' => e = .returned (.int .i64 (sz : Nat)) ∧ New w w') := Lib.hid (fun w => by have := Size_ok n hok.sz w; rw [hs] at this; exact this)
  have y1 : ((sz : Int) == 0) = false := by rw [beq_eq_false_iff_ne]; rw [← hs]; unfold sizeN backN; omega
  have y2 : decide ((base : Int) < 0) = false := decide_eq_false (by omega)
  clear hv0 hq hok gf gc hle hlen hlt hs
  go_enter Tryz.func13, Tryz.ntmps13
  go_wp2_with (first
    | ((with_reducible refine at_box (T := 32) (dst := some 1) ?_); refine wl_newb rfl #[.int .i64 (base : Nat), .int .i64 (n : Nat), .slice fa fn fc, .int .u16 (av : Nat), .int .u16 (la : Nat), .slice ca cn cc] 32 (fun _ => rfl) ?_; intro b1 w2 hm2; replace hv := hv.madeAt hm2; clear hm2)
    | ((with_reducible refine at_load (T := 3) ?_); refine wl_ldc rfl b1 1 rfl _ (hv.vars.row (by first | exact .head _ | exact .tail _ (.head _) | exact .tail _ (.tail _ (.head _)) | exact .tail _ (.tail _ (.tail _ (.head _))) | exact .tail _ (.tail _ (.tail _ (.tail _ (.head _)))) | exact .tail _ (.tail _ (.tail _ (.tail _ (.tail _ (.head _))))) | exact .tail _ (.tail _ (.tail _ (.tail _ (.tail _ (.tail _ (.head _)))))) | exact .tail _ (.tail _ (.tail _ (.tail _ (.tail _ (.tail _ (.tail _ (.head _))))))))) _ Tryz.underlying3 rfl (.int .i64 (n : Nat)) rfl ?_)
    | ((with_reducible refine at_load (T := 3) ?_); refine wl_ldc rfl b1 0 rfl _ (hv.vars.row (by first | exact .head _ | exact .tail _ (.head _) | exact .tail _ (.tail _ (.head _)) | exact .tail _ (.tail _ (.tail _ (.head _))) | exact .tail _ (.tail _ (.tail _ (.tail _ (.head _)))) | exact .tail _ (.tail _ (.tail _ (.tail _ (.tail _ (.head _))))) | exact .tail _ (.tail _ (.tail _ (.tail _ (.tail _ (.tail _ (.head _)))))) | exact .tail _ (.tail _ (.tail _ (.tail _ (.tail _ (.tail _ (.tail _ (.head _))))))))) _ Tryz.underlying3 rfl (.int .i64 (base : Nat)) rfl ?_)
    | ((with_reducible refine at_load (T := 22) ?_); refine wl_ldc rfl b1 2 rfl _ (hv.vars.row (by first | exact .head _ | exact .tail _ (.head _) | exact .tail _ (.tail _ (.head _)) | exact .tail _ (.tail _ (.tail _ (.head _))) | exact .tail _ (.tail _ (.tail _ (.tail _ (.head _)))) | exact .tail _ (.tail _ (.tail _ (.tail _ (.tail _ (.head _))))) | exact .tail _ (.tail _ (.tail _ (.tail _ (.tail _ (.tail _ (.head _)))))) | exact .tail _ (.tail _ (.tail _ (.tail _ (.tail _ (.tail _ (.tail _ (.head _))))))))) _ Tryz.underlying22 rfl (.slice fa fn fc) rfl ?_)
    | ((with_reducible refine at_load (T := 30) ?_); refine wl_ldc rfl b1 5 rfl _ (hv.vars.row (by first | exact .head _ | exact .tail _ (.head _) | exact .tail _ (.tail _ (.head _)) | exact .tail _ (.tail _ (.tail _ (.head _))) | exact .tail _ (.tail _ (.tail _ (.tail _ (.head _)))) | exact .tail _ (.tail _ (.tail _ (.tail _ (.tail _ (.head _))))) | exact .tail _ (.tail _ (.tail _ (.tail _ (.tail _ (.tail _ (.head _)))))) | exact .tail _ (.tail _ (.tail _ (.tail _ (.tail _ (.tail _ (.tail _ (.head _))))))))) _ Tryz.underlying30 rfl (.slice ca cn cc) rfl ?_)
    | (go_at_call 40; (with_reducible refine (HSI.out _).mono ?_); rintro e w1 ⟨rfl, hn1⟩; replace hv := hv.new hn1; clear hn1)
    | (go_at_call 57; (with_reducible refine (IsSorted_ok _ free HF1.out HF2.out HF3.out _ (hv.rd HQ.out.fr)).mono ?_); rintro e w1 ⟨rfl, hn1⟩; replace hv := hv.new hn1; clear hn1)
    | (go_at_call 45; (with_reducible refine (IClone_O hv HQ.out.fr HF4.out).mono ?_); rintro e w1 ⟨oa, on, oc, rfl, O, hO, hv1⟩; replace hv := hv1.perm List.perm_append_comm; clear hv1; replace hO := Lib.hid hO; simp only [List.cons_append, List.nil_append] at hv))
  go_loopw [3, 29] (fun ov kv wr => ∃ (k : Nat) (O : List (Nat × Array Value)), k ≤ cn ∧ kv = .int .i64 (k : Nat) ∧ Mem w wr ((b1, #[.int .i64 (base : Nat), .int .i64 (n : Nat), .slice fa fn fc, .int .u16 (av : Nat), .int .u16 (la : Nat), .slice ca cn cc]) :: O) R ∧ Hid (OwnL 1 ov (intsI (allD free chs k)) O)) (fun _ kv _ => cn - (intOf kv).toNat)
  case atStart => exact ⟨0, O, Nat.zero_le _, rfl, hv, Lib.hid (by unfold allD; rw [List.take_zero, List.flatMap_nil, List.append_nil]; exact hO.out)⟩
  case round =>
    clear hv hO
    obtain ⟨k, O, hk0, rfl, hv, HO⟩ := hrel
    obtain ⟨oa, on, oc, rfl, hq⟩ := id HO.out.slice
    clear hq
    by_cases hk : k < cn
    · have hki : (k : Int) < (cn : Int) := by omega
      have hkl : k < chs.length := by rw [HCN.out]; exact hk
      obtain ⟨⟨c_h, c_b, c_0, c_n, c_c, c_r, c_ds⟩, hc⟩ : ∃ c, chs[k] = c := ⟨_, rfl⟩
      have hmem : (⟨c_h, c_b, c_0, c_n, c_c, c_r, c_ds⟩ : Chn) ∈ chs := by rw [← hc]; exact List.getElem_mem _
      have HKC : Hid (((cellsC chs).drop (k * 3)).take 3 = [.int .i64 (c_h : Nat), .slice (some ⟨c_b, c_0, none⟩) c_n c_c, .int .i64 (c_r : Nat)]) := Lib.hid (by
        have := part_flat (k := 3) (en := encC) (fun _ => rfl) chs k hkl
        rw [hc] at this; exact this)
      have HD := Lib.hid (HQ.out.ds _ hmem)
      have HH0 := Lib.hid (HOK.out.hd _ hmem).1
      have HRM := Lib.hid (HOK.out.hd _ hmem).2
      have HNE : Hid (intsI (allD free chs (k + 1)) = intsI (allD free chs k) ++ intsI c_ds) := Lib.hid (by
        unfold allD
        rw [List.take_succ_eq_append_getElem hkl, hc, List.flatMap_append, ← List.append_assoc]
        unfold intsI
        rw [List.map_append]
        simp)
      have hsub : (allD free chs (k + 1)).length ≤ 16 := by
        have h1 := HOK.out.len
        have h2 := HOK.out.sz.le
        have h3 : ((chs.take (k + 1)).flatMap (·.ds)).length ≤ (chs.flatMap (·.ds)).length := by
          conv => rhs; rw [← List.take_append_drop (k + 1) chs, List.flatMap_append, List.length_append]
          omega
        unfold allD
        rw [List.length_append]; omega
      have hcat : (intsI (allD free chs k)).length + (intsI c_ds).length ≤ 16 := by
        have := congrArg List.length HNE.out
        rw [List.length_append, intsI_len] at this
        omega
      have HP1 : Hid (((intsI (allD free chs k)).length + (intsI c_ds).length) / 1 ≤ maxLen) := Lib.hid (by rw [Nat.div_one]; unfold maxLen; omega)
      have HP2 : Hid (((intsI (allD free chs k)).length + (intsI c_ds).length) / 1 * 8 ≤ 140737488355328) := Lib.hid (by rw [Nat.div_one]; omega)
      obtain ⟨xb, xo, _, _, e, hq⟩ := (hv.rd HQ.out.ch).some (by rw [cellsC_len]; omega)
      clear hq
      cases e
      have HKN := Lib.hid hk
      have hkb : (k : Int) ≤ 10000 := by
        have h1 := HOK.out.len
        have h2 := HOK.out.sz.le
        have h3 := chs_len (fun c hc => (HOK.out.hd c hc).1)
        omega
      clear hkl hc hmem hsub hcat hk0 hk
      go_wp2_with (first
        | ((with_reducible refine at_load (T := 115) ?_); refine wl_rdv rfl (hv.rd HQ.out.ch) (k * 3) rfl 3 _ Tryz.underlying115 rfl infoC3 (by decide) #[.int .i64 (c_h : Nat), .slice (some ⟨c_b, c_0, none⟩) c_n c_c, .int .i64 (c_r : Nat)] HKC.out rfl ?_)
        | ((with_reducible refine at_alloc (T := 115) (dst := some 5) ?_); refine wl_newb rfl #[.int .i64 0, .slice none 0 0, .int .i64 0] 115 (fun _ => rfl) ?_; intro b5 w2 hm2; replace hv := hv.madeAt hm2; clear hm2)
        | ((with_reducible refine at_store (T := 115) ?_); refine wl_stv rfl b5 rfl _ rfl _ (hv.vars.row (by first | exact .head _ | exact .tail _ (.head _) | exact .tail _ (.tail _ (.head _)) | exact .tail _ (.tail _ (.tail _ (.head _))) | exact .tail _ (.tail _ (.tail _ (.tail _ (.head _)))) | exact .tail _ (.tail _ (.tail _ (.tail _ (.tail _ (.head _))))) | exact .tail _ (.tail _ (.tail _ (.tail _ (.tail _ (.tail _ (.head _)))))) | exact .tail _ (.tail _ (.tail _ (.tail _ (.tail _ (.tail _ (.tail _ (.head _))))))))) (hv.vars.sft (by first | exact .head _ | exact .tail _ (.head _) | exact .tail _ (.tail _ (.head _)) | exact .tail _ (.tail _ (.tail _ (.head _))) | exact .tail _ (.tail _ (.tail _ (.tail _ (.head _)))) | exact .tail _ (.tail _ (.tail _ (.tail _ (.tail _ (.head _))))) | exact .tail _ (.tail _ (.tail _ (.tail _ (.tail _ (.tail _ (.head _)))))) | exact .tail _ (.tail _ (.tail _ (.tail _ (.tail _ (.tail _ (.tail _ (.head _))))))))) 3 infoC3 rfl rfl (by simp [Value.oneCell']) ?_; intro w2 hw2; (first | (replace hv := hv.set 0 rfl hw2) | (replace hv := hv.set 1 rfl hw2) | (replace hv := hv.set 2 rfl hw2) | (replace hv := hv.set 3 rfl hw2)); clear hw2; simp only [List.set] at hv)
        | ((with_reducible refine at_load (T := 115) ?_); refine wl_ldv rfl b5 rfl _ (hv.vars.row (by first | exact .head _ | exact .tail _ (.head _) | exact .tail _ (.tail _ (.head _)) | exact .tail _ (.tail _ (.tail _ (.head _))) | exact .tail _ (.tail _ (.tail _ (.tail _ (.head _)))) | exact .tail _ (.tail _ (.tail _ (.tail _ (.tail _ (.head _))))) | exact .tail _ (.tail _ (.tail _ (.tail _ (.tail _ (.tail _ (.head _)))))) | exact .tail _ (.tail _ (.tail _ (.tail _ (.tail _ (.tail _ (.tail _ (.head _))))))))) 3 _ Tryz.underlying115 rfl infoC3 (by decide) rfl ?_)
        | (go_at_call 59; (with_reducible refine (chained_w c_h c_r c_b c_0 c_n c_c c_ds HH0.out HRM.out _ (hv.rd HD.out)).mono ?_); rintro e w1 ⟨rfl, hn1⟩; replace hv := hv.new hn1; clear hn1)
        | ((with_reducible refine at_load (T := 22) ?_); refine wl_ldc rfl b5 1 rfl _ (hv.vars.row (by first | exact .head _ | exact .tail _ (.head _) | exact .tail _ (.tail _ (.head _)) | exact .tail _ (.tail _ (.tail _ (.head _))) | exact .tail _ (.tail _ (.tail _ (.tail _ (.head _)))) | exact .tail _ (.tail _ (.tail _ (.tail _ (.tail _ (.head _))))) | exact .tail _ (.tail _ (.tail _ (.tail _ (.tail _ (.tail _ (.head _)))))) | exact .tail _ (.tail _ (.tail _ (.tail _ (.tail _ (.tail _ (.tail _ (.head _))))))))) _ Tryz.underlying22 rfl (.slice (some ⟨c_b, c_0, none⟩) c_n c_c) rfl ?_)
        | ((with_reducible refine at_append (t := 22) ?_); have hvA := mem2o hv; refine wl_appO (A := [_, _]) (B := []) rfl rfl HO.out hvA (.int .i64 0) 8 Tryz.underlying22 infoIz rfl (by decide) rfl (hv.rd HD.out) (intsI_one _) HP1.out HP2.out ?_; intro v2 w7 O2 hO2 hv1; replace hv := mem2o' hv1; clear hvA hv1; rw [← HNE.out] at hO2; have hq2 := hO2.slice; obtain ⟨ua, un, uc, rfl, hq3⟩ := hq2; clear hq3; replace hO2 := Lib.hid hO2))
      have hkn := HKN.out
      go_roundw
      case rel => exact ⟨k + 1, O2, by omega, by go_num, hv.drop, hO2⟩
      case measure => simp [intOf]; omega
    · have hki : ¬ (k : Int) < (cn : Int) := by omega
      have hal : allD free chs k = free ++ chs.flatMap (·.ds) := by unfold allD; rw [List.take_of_length_le (by rw [HCN.out]; omega)]
      have hln : (allD free chs k).length = n := by rw [hal, List.length_append]; exact HOK.out.len
      have h2 := HOK.out.sz.le
      rcases HO.out with ⟨_, e2, _⟩ | ⟨⟨xb, xz⟩, hrow, e3⟩
      · have := congrArg List.length e2
        rw [intsI_len, hln] at this
        simp at this
        omega
      · subst e3
        have hq := hrow
        obtain ⟨n9, c9, e9, g9, _⟩ := hq
        cases e9
        rw [intsI_len, hln, Nat.mul_one] at g9
        obtain rfl := g9
        have HROW := Lib.hid hrow
        have HLL : Hid ((allD free chs k).length ≤ 100000) := Lib.hid (by omega)
        have HPA : Hid ((allD free chs k).Perm (List.range n)) := Lib.hid (by rw [hal]; exact HOK.out.all)
        have hnb : (n : Int) ≤ 16 := by omega
        clear hrow hal hln h2 hk hk0
        go_wp2_with (first
          | (go_at_call 60; (with_reducible refine (SortI_M (hv.perm (List.Perm.swap _ _ _)) HROW.out HLL.out).mono ?_); rintro e w1 ⟨rfl, l9, z9, hp9, hs9, hr9, hv1⟩; have hv2 := Mem.yield (L1 := []) hv1 hr9; replace hv := hv2; clear hv1 hv2 hr9; simp only [List.nil_append] at hv))
        obtain rfl : l9 = List.range n := sorted_eq hs9 (by
          have := List.pairwise_lt_range (n := n)
          exact this.imp fun h => Nat.le_of_lt h) (hp9.trans HPA.out)
        clear hp9 hs9
        go_loopw [45] (fun kv wr => ∃ i : Nat, i ≤ n ∧ kv = .int .i64 (i : Nat) ∧ Mem w wr [(b1, #[.int .i64 (base : Nat), .int .i64 (n : Nat), .slice fa fn fc, .int .u16 (av : Nat), .int .u16 (la : Nat), .slice ca cn cc])] ((1, .slice (some ⟨xb, 0, none⟩) n oc, intsI (List.range n)) :: R)) (fun kv _ => n - (intOf kv).toNat)
        case atStart => exact ⟨0, Nat.zero_le _, rfl, hv⟩
        case round =>
          clear hv
          obtain ⟨i, hi0, rfl, hv⟩ := hrel
          by_cases hi : i < n
          · have hii : (i : Int) < (n : Int) := by omega
            have HX : Hid ((intsI (List.range n))[i]? = some (.int .i64 (i : Nat))) := Lib.hid (by unfold intsI; rw [List.getElem?_map, List.getElem?_range hi]; rfl)
            have yi : ((i : Int) != (i : Int)) = false := by simp
            have HIN := Lib.hid hi
            clear hi0 hi
            go_wp2_with (first
              | ((with_reducible refine at_load (T := 3) ?_); refine wl_rd rfl (c := intsI (List.range n)) (hv.rd Mem.z) i (ptr0 rfl) _ Tryz.underlying3 rfl (.int .i64 (i : Nat)) HX.out ?_))
            have hin := HIN.out
            go_roundw
            case rel => exact ⟨i + 1, by omega, by go_num, hv⟩
            case measure => simp [intOf]; omega
          · have hii : ¬ (i : Int) < (n : Int) := by omega
            have yn : ((n : Int) == (n : Int)) = true := by simp
            clear hi hi0
            go_wp2_with (first
              | ((with_reducible refine at_load (T := 3) ?_); refine wl_ldc rfl b1 1 rfl _ (hv.vars.row (by first | exact .head _ | exact .tail _ (.head _) | exact .tail _ (.tail _ (.head _)) | exact .tail _ (.tail _ (.tail _ (.head _))) | exact .tail _ (.tail _ (.tail _ (.tail _ (.head _)))) | exact .tail _ (.tail _ (.tail _ (.tail _ (.tail _ (.head _))))) | exact .tail _ (.tail _ (.tail _ (.tail _ (.tail _ (.tail _ (.head _)))))) | exact .tail _ (.tail _ (.tail _ (.tail _ (.tail _ (.tail _ (.tail _ (.head _))))))))) _ Tryz.underlying3 rfl (.int .i64 (n : Nat)) rfl ?_))
            go_ret
            exact ⟨rfl, hv.below⟩
end Go.Proofs.YtcelehhaggoijaaGreat
