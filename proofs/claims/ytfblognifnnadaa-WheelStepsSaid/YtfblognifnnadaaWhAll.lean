/-
  All timers of a wheel, no more than some: the reference's All.
-/
import Derived.Test.YtfblognifnnadaaWhFew
set_option linter.unusedVariables false
set_option linter.unusedSimpArgs false
namespace Go.Proofs.Wh
open Go Go.RowKit
theorem cellsT_snoc (l : List Tm) (x : Tm) : cellsT (l ++ [x]) = cellsT l ++ [.int .u64 (x.1 : Nat), .int .i64 x.2] := by simp [cellsT, encT]
theorem cellsT_part (l : List Tm) (i : Nat) (hi : i < l.length) : ((cellsT l).drop (i * 2)).take 2 = [.int .u64 (l[i].1 : Nat), .int .i64 l[i].2] := by
  have h := fun j (hj : j < 2) => get_flat (en := encT) (fun _ => rfl) l i j hj
  apply List.ext_getElem?
  intro j
  rw [List.getElem?_take]
  by_cases hj : j < 2
  · rw [if_pos hj, List.getElem?_drop]
    have := h j hj
    rw [List.getElem?_eq_getElem hi] at this
    exact this
  · rw [if_neg hj, List.getElem?_eq_none (by simp; omega)]
/-- What is out: of i slots whole, and of the next one k. -/
def outA (most : Nat) (S : List (List Tm)) (i k : Nat) : List Tm := ((S.take i).flatten ++ (S.getD i []).take k).take most
theorem outA_zero (most : Nat) (S : List (List Tm)) (i : Nat) : outA most S i 0 = ((S.take i).flatten).take most := by simp [outA]
theorem outA_step {most : Nat} {S : List (List Tm)} {i k : Nat} {l : List Tm} (hi : S[i]? = some l) (hk : k < l.length) (hm : (outA most S i k).length < most) : outA most S i (k + 1) = outA most S i k ++ [l[k]] := by
  unfold outA at *
  rw [List.getD_eq_getElem?_getD, hi] at *
  simp only [Option.getD_some] at *
  rw [List.length_take] at hm
  have hl : ((S.take i).flatten ++ l.take k).length < most := by omega
  rw [List.take_succ_eq_append_getElem hk, ← List.append_assoc, List.take_of_length_le (by rw [List.length_append, List.length_singleton]; omega), List.take_of_length_le (Nat.le_of_lt hl)]
theorem outA_end {most : Nat} {S : List (List Tm)} {i k : Nat} {l : List Tm} (hi : S[i]? = some l) (hk : k ≤ l.length) (h : k = l.length ∨ most ≤ (outA most S i k).length) : outA most S i k = outA most S (i + 1) 0 := by
  have hlt := (List.getElem?_eq_some_iff.1 hi).1
  have hel := (List.getElem?_eq_some_iff.1 hi).2
  rw [outA_zero, List.take_succ_eq_append_getElem hlt, hel, List.flatten_append]
  unfold outA at *
  rw [List.getD_eq_getElem?_getD, hi] at *
  simp only [Option.getD_some, List.flatten_cons, List.flatten_nil, List.append_nil] at *
  rcases h with rfl | h
  · rw [List.take_length]
  · rw [List.length_take, List.length_append, List.length_take] at h
    rw [List.take_append, List.take_append]
    congr 1
    rw [List.take_take]
    congr 1
    omega
end Go.Proofs.Wh
namespace Go.Proofs.Ytfblognifnnadaa
open Go.Proofs.Wh Go.RowKit
theorem infoTmz : (Try.prog.info? 63).map (fun i => (i.zero, i.size, i.bytes)) = some (some (.agg #[.int .u64 0, .int .i64 0]), 2, 16) := by kernel_rfl
set_option maxRecDepth 100000 in
set_option maxHeartbeats 4000000 in
theorem WAll_any (now most : Nat) (sv : List Value) (S : List (List Tm)) (hmost : most ≤ 1000) (w0 w : World) (L : List (Nat × Array Value)) (R : List (Nat × Value × List Value)) (hv0 : Mem w0 w L R) (hi : InW R sv S) (hlen : ∀ l ∈ S, l.length ≤ 1000) :
    Calls Try.prog 21 #[.agg (rowW now sv), .int .i64 (most : Nat)] w fun e w' => ∃ ao n cap, e = .returned (.slice ao n cap) ∧ Mem w0 w' L ((2, .slice ao n cap, cellsT (outA most S 8 0)) :: R) := by
  have hv := hv0
  have HI := Lib.hid hi
  have HM := Lib.hid hmost
  have HLE := Lib.hid hlen
  clear hi hv0 hmost hlen
  go_enter Try.func21, Try.ntmps21
  go_wp2_with (first
    | ((with_reducible refine at_box (T := 26) (dst := some 2) ?_); refine wl_newb rfl (rowW now sv) 26 (fun _ => rfl) ?_; intro b2 w2 hm2; replace hv := hv.madeAt hm2; clear hm2))
  go_loopw [5, 6] (fun ov iv wr => ∃ (i : Nat) (O : List (Nat × Array Value)), i ≤ 8 ∧ iv = .int .i64 (i : Nat) ∧ Mem w0 wr ((b2, (rowW now sv)) :: (O ++ L)) R ∧ Hid (OwnL 2 ov (cellsT (outA most S i 0)) O)) (fun _ iv _ => 8 - (intOf iv).toNat)
  case atStart => exact ⟨0, [], Nat.zero_le _, rfl, hv, Lib.hid (by rw [outA_zero]; simp only [List.take_zero, List.flatten_nil, List.take_nil]; exact OwnL.nil 2)⟩
  case round =>
    clear hv
    obtain ⟨i, O, hi0, rfl, hv, HO⟩ := hrel
    by_cases hi : i < 8
    · have hki : (i : Int) < 8 := by omega
      have hsi : i < sv.length := by rw [HI.out.1]; exact hi
      have hSi : i < S.length := by rw [HI.out.2.1]; exact hi
      obtain ⟨l, hl⟩ : ∃ l, S[i] = l := ⟨_, rfl⟩
      have hm := HI.out.2.2 i sv[i] S[i] (List.getElem?_eq_getElem hsi) (List.getElem?_eq_getElem hSi)
      obtain ⟨v, hvv⟩ : ∃ v, sv[i] = v := ⟨_, rfl⟩
      have hg := rowW_get (now := now) (List.getElem?_eq_getElem hsi)
      have hll := HLE.out S[i] (List.getElem_mem hSi)
      rw [hvv, hl] at hm
      rw [hvv] at hg
      rw [hl] at hll
      obtain ⟨sa, sn, sc, rfl, _⟩ := id (hv.rd hm)
      have HSM := Lib.hid hm
      have HLN := Lib.hid (len_rdT (hv.rd hm))
      have HG := Lib.hid hg
      have HSL : Hid (S[i]? = some l) := Lib.hid (by rw [List.getElem?_eq_getElem hSi, hl])
      have HK0 := Lib.hid hi
      have HL1 := Lib.hid hll
      clear hsi hSi hl hm hvv hg hll hi0
      go_wp2
      go_loopw [5, 7] (fun ov kv wr => ∃ (k : Nat) (O : List (Nat × Array Value)), k ≤ sn ∧ kv = .int .i64 (k : Nat) ∧ Mem w0 wr ((b2, (rowW now sv)) :: (O ++ L)) R ∧ Hid (OwnL 2 ov (cellsT (outA most S i k)) O)) (fun _ kv _ => sn - (intOf kv).toNat)
      case atStart => exact ⟨0, O, Nat.zero_le _, rfl, hv, HO⟩
      case round =>
        clear hv HO
        obtain ⟨k, O, hk0, rfl, hv, HO⟩ := hrel
        obtain ⟨oa, on, oc, rfl, hon⟩ := id HO.out.slice
        rw [cellsT_len] at hon
        have HON : Hid ((outA most S i k).length = on) := Lib.hid (by omega)
        clear hon
        by_cases hk : k < sn
        · have c1 : (k : Int) < (sn : Int) := by omega
          by_cases hm : on < most
          · have c2 : (on : Int) < (most : Int) := by omega
            have hkl : k < l.length := by rw [HLN.out]; exact hk
            obtain ⟨⟨x1, x2⟩, hx⟩ : ∃ x, l[k] = x := ⟨_, rfl⟩
            have HK : Hid (((cellsT l).drop (k * 2)).take 2 = [.int .u64 (x1 : Nat), .int .i64 x2]) := Lib.hid (by rw [cellsT_part l k hkl, hx])
            have HST : Hid (cellsT (outA most S i (k + 1)) = cellsT (outA most S i k) ++ [.int .u64 (x1 : Nat), .int .i64 x2]) := Lib.hid (by
              rw [outA_step HSL.out hkl (by rw [HON.out]; exact hm), cellsT_snoc, hx])
            have HN1 : Hid (∀ z ∈ ([.int .u64 (x1 : Nat), .int .i64 x2] : List Value), z.oneCell' = true) := Lib.hid (fun z hz => by
              rcases List.mem_cons.1 hz with rfl | hz
              · rfl
              · rw [List.mem_singleton.1 hz]; rfl)
            have hon2 : on ≤ 1000 := by have := HM.out; omega
            have HP1 : Hid (((cellsT (outA most S i k)).length + ([.int .u64 (x1 : Nat), .int .i64 x2] : List Value).length) / 2 ≤ maxLen) := Lib.hid (by rw [cellsT_len, HON.out]; simp only [List.length_cons, List.length_nil]; unfold maxLen; omega)
            have HP2 : Hid (((cellsT (outA most S i k)).length + ([.int .u64 (x1 : Nat), .int .i64 x2] : List Value).length) / 2 * 16 ≤ 140737488355328) := Lib.hid (by rw [cellsT_len, HON.out]; simp only [List.length_cons, List.length_nil]; omega)
            obtain ⟨sb, so, _, _, e, _⟩ := (hv.rd HSM.out).some (by rw [cellsT_len]; omega)
            cases e
            have HKN := Lib.hid hk
            have hkb : (k : Int) ≤ 5000 := by have := HL1.out; have := HLN.out; omega
            clear hkl hx hon2 hk hk0
            go_wp2_with (first
              | ((with_reducible refine at_load (T := 23) ?_); refine wl_ldc rfl b2 (1 + i) rfl _ (hv.vars.row (by first | exact .head _ | exact .tail _ (.head _) | exact .tail _ (.tail _ (.head _)) | exact .tail _ (.tail _ (.tail _ (.head _))) | exact .tail _ (.tail _ (.tail _ (.tail _ (.head _)))) | exact .tail _ (.tail _ (.tail _ (.tail _ (.tail _ (.head _))))) | exact .tail _ (.tail _ (.tail _ (.tail _ (.tail _ (.tail _ (.head _)))))) | exact .tail _ (.tail _ (.tail _ (.tail _ (.tail _ (.tail _ (.tail _ (.head _))))))))) _ Try.underlying23 rfl (.slice (some ⟨sb, so, none⟩) sn sc) HG.out ?_)
              | ((with_reducible refine at_load (T := 63) ?_); refine wl_rdv rfl (hv.rd HSM.out) (k * 2) rfl 2 _ Try.underlying63 rfl infoTm (by decide) #[.int .u64 (x1 : Nat), .int .i64 x2] HK.out rfl ?_)
              | ((with_reducible refine at_append (t := 23) ?_); replace hv := hv.bsl' (k := 2) (n := 1) (c := [.int .u64 (x1 : Nat), .int .i64 x2]) ⟨rfl, made_alloc _ #[.int .u64 (x1 : Nat), .int .i64 x2] 63⟩ rfl rfl (by unfold maxLen; omega); refine wl_appO (A := [_]) (B := L) rfl rfl HO.out hv (.agg #[.int .u64 0, .int .i64 0]) 16 Try.underlying23 infoTmz rfl (by decide) rfl (hv.rd Mem.z) HN1.out HP1.out HP2.out ?_; intro v2 w7 O2 hO2 hv1; replace hv := hv1.dropR; clear hv1; obtain ⟨ua, un, uc, rfl, _⟩ := id hO2.slice; replace hO2 := Lib.hid hO2; simp only [List.cons_append, List.nil_append] at hv))
            have hkn := HKN.out
            go_roundw
            case rel => exact ⟨k + 1, O2, by omega, by go_num, hv, Lib.hid (by rw [HST.out]; exact hO2.out)⟩
            case measure => simp [intOf]; omega
          · have c2 : ¬ (on : Int) < (most : Int) := by omega
            have HEN := Lib.hid (outA_end HSL.out (by rw [HLN.out]; exact hk0) (.inr (by rw [HON.out]; omega)))
            clear hk hk0
            go_wp2_with (first
              | ((with_reducible refine at_load (T := 23) ?_); refine wl_ldc rfl b2 (1 + i) rfl _ (hv.vars.row (by first | exact .head _ | exact .tail _ (.head _) | exact .tail _ (.tail _ (.head _)) | exact .tail _ (.tail _ (.tail _ (.head _))) | exact .tail _ (.tail _ (.tail _ (.tail _ (.head _)))) | exact .tail _ (.tail _ (.tail _ (.tail _ (.tail _ (.head _))))) | exact .tail _ (.tail _ (.tail _ (.tail _ (.tail _ (.tail _ (.head _)))))) | exact .tail _ (.tail _ (.tail _ (.tail _ (.tail _ (.tail _ (.tail _ (.head _))))))))) _ Try.underlying23 rfl (.slice sa sn sc) HG.out ?_))
            have hin := HK0.out
            go_roundw
            case rel => exact ⟨i + 1, O, by omega, by go_num, hv, Lib.hid (by rw [← HEN.out]; exact HO.out)⟩
            case measure => simp [intOf]; omega
        · have c1 : ¬ (k : Int) < (sn : Int) := by omega
          have HEN := Lib.hid (outA_end (most := most) (k := k) HSL.out (by rw [HLN.out]; exact hk0) (.inl (by rw [HLN.out]; omega)))
          clear hk hk0
          go_wp2_with (first
            | ((with_reducible refine at_load (T := 23) ?_); refine wl_ldc rfl b2 (1 + i) rfl _ (hv.vars.row (by first | exact .head _ | exact .tail _ (.head _) | exact .tail _ (.tail _ (.head _)) | exact .tail _ (.tail _ (.tail _ (.head _))) | exact .tail _ (.tail _ (.tail _ (.tail _ (.head _)))) | exact .tail _ (.tail _ (.tail _ (.tail _ (.tail _ (.head _))))) | exact .tail _ (.tail _ (.tail _ (.tail _ (.tail _ (.tail _ (.head _)))))) | exact .tail _ (.tail _ (.tail _ (.tail _ (.tail _ (.tail _ (.tail _ (.head _))))))))) _ Try.underlying23 rfl (.slice sa sn sc) HG.out ?_))
          have hin := HK0.out
          go_roundw
          case rel => exact ⟨i + 1, O, by omega, by go_num, hv, Lib.hid (by rw [← HEN.out]; exact HO.out)⟩
          case measure => simp [intOf]; omega
    · have hki : ¬ (i : Int) < 8 := by omega
      obtain rfl : i = 8 := by omega
      obtain ⟨oa, on, oc, rfl, _⟩ := id HO.out.slice
      clear hi hi0
      go_wp2
      go_ret
      exact ⟨oa, on, oc, rfl, HO.out.yield (A := []) (B := L) hv.drop⟩
end Go.Proofs.Ytfblognifnnadaa
