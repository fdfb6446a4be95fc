/-
  Which wheels may be: the reference's Check.
-/
import Derived.Test.YtfblognifnnadaaWhAll
import Derived.Test.YtfblognifnnadaaWhChkP
set_option linter.unusedVariables false
set_option linter.unusedSimpArgs false
namespace Go.Proofs.Wh
open Go Go.RowKit
theorem outA_all {most : Nat} {S : List (List Tm)} (h : S.length = 8) : outA most S 8 0 = S.flatten.take most := by
  rw [outA_zero, List.take_of_length_le (l := S) (by omega)]
theorem InW.mono {R R' : List (Nat × Value × List Value)} {sv : List Value} {S : List (List Tm)} (h : InW R sv S) (hs : ∀ x ∈ R, x ∈ R') : InW R' sv S := ⟨h.1, h.2.1, fun i v l h1 h2 => hs _ (h.2.2 i v l h1 h2)⟩
theorem InW.cons {R : List (Nat × Value × List Value)} {sv : List Value} {S : List (List Tm)} (h : InW R sv S) (x : Nat × Value × List Value) : InW (x :: R) sv S := h.mono fun _ h => List.mem_cons_of_mem _ h
/-- The timer ahead of number k. -/
def prevO (l : List Tm) (k : Nat) : Option Tm := if k = 0 then none else l[k - 1]?
theorem slotB_at {now i : Nat} {l : List Tm} {k : Nat} {x : Tm} (hx' : l[k]? = some x) : slotB now i (prevO l k) (l.drop k) = (tmB now i (prevO l k) x && slotB now i (prevO l (k + 1)) (l.drop (k + 1))) := by
  obtain ⟨hk, hx⟩ := List.getElem?_eq_some_iff.1 hx'
  rw [List.drop_eq_getElem_cons hk, hx]
  have e : prevO l (k + 1) = some x := by
    unfold prevO
    rw [if_neg (by omega), Nat.add_sub_cancel, List.getElem?_eq_getElem hk, hx]
  rw [e]; rfl
theorem slotB_end {now i : Nat} {l : List Tm} {p : Option Tm} {k : Nat} (hk : l.length ≤ k) : slotB now i p (l.drop k) = true := by rw [List.drop_eq_nil_of_le hk]; rfl
theorem slotsB_at {now i : Nat} {S : List (List Tm)} {l : List Tm} (h : S[i]? = some l) : slotsB now i (S.drop i) = (slotB now i none l && slotsB now (i + 1) (S.drop (i + 1))) := by
  obtain ⟨h1, h2⟩ := List.getElem?_eq_some_iff.1 h
  rw [List.drop_eq_getElem_cons h1, h2]; rfl
theorem idsB_iff {l : List Tm} : idsB l = true ↔ l.Pairwise fun a b => b.2 ≠ a.2 := by
  induction l with
  | nil => exact ⟨fun _ => List.Pairwise.nil, fun _ => rfl⟩
  | cons x r ih =>
    unfold idsB
    rw [Bool.and_eq_true, List.all_eq_true, List.pairwise_cons, ih]
    simp only [decide_eq_true_eq]
theorem idsB_bad {l : List Tm} {j i : Nat} {x y : Tm} (hj : l[j]? = some x) (hi : l[i]? = some y) (h : j < i) (e : x.2 = y.2) : idsB l = false := by
  cases hb : idsB l with
  | false => rfl
  | true =>
    obtain ⟨g1, g2⟩ := List.getElem?_eq_some_iff.1 hj
    obtain ⟨k1, k2⟩ := List.getElem?_eq_some_iff.1 hi
    exact ((List.pairwise_iff_getElem.1 (idsB_iff.1 hb) j i g1 k1 h) (by rw [g2, k2]; exact e.symm)).elim
theorem idsB_good {l : List Tm} (h : ∀ (j i : Nat) (x y : Tm), l[j]? = some x → l[i]? = some y → j < i → x.2 ≠ y.2) : idsB l = true :=
  idsB_iff.2 (List.pairwise_iff_getElem.2 fun i j hi hj hij e => h i j l[i] l[j] (List.getElem?_eq_getElem hi) (List.getElem?_eq_getElem hj) hij e.symm)
end Go.Proofs.Wh
namespace Go.Proofs.Ytfblognifnnadaa
open Go.Proofs.Wh Go.RowKit
theorem infoWh : (Try.prog.info? 26).map (·.size) = some 9 := by kernel_rfl
theorem WAll_33 (now : Nat) (sv : List Value) (S : List (List Tm)) (w0 w : World) (L : List (Nat × Array Value)) (R : List (Nat × Value × List Value)) (hv0 : Mem w0 w L R) (hi : InW R sv S) (hlen : ∀ l ∈ S, l.length ≤ 1000) :
    Calls Try.prog 21 #[.agg (rowW now sv), .int .i64 33] w fun e w' => ∃ ao n cap, e = .returned (.slice ao n cap) ∧ Mem w0 w' L ((2, .slice ao n cap, cellsT (S.flatten.take 33)) :: R) := by
  have h := WAll_any now 33 sv S (by decide) w0 w L R hv0 hi hlen
  rw [outA_all hi.2.1] at h
  exact h
set_option maxRecDepth 100000 in
set_option maxHeartbeats 4000000 in
theorem RCheck_any (now : Nat) (sv : List Value) (S : List (List Tm)) (w0 w : World) (L : List (Nat × Array Value)) (R0 : List (Nat × Value × List Value)) (hv0 : Mem w0 w L R0) (hi : InW R0 sv S) (hlen : ∀ l ∈ S, l.length ≤ 1000) :
    Calls Try.prog 7 #[.agg (rowW now sv)] w fun e w' => e = .returned (.bool (chkW now S)) ∧ New w w' := by
  have hv : Mem w w [] R0 := ⟨Vars.nil w, fun x hx => ⟨(hv0.rds x hx).1, fun _ _ _ _ _ _ p hp => (List.not_mem_nil hp).elim⟩⟩
  have HI0 := Lib.hid hi
  have HLE := Lib.hid hlen
  have HSZ : Hid ((rowW now sv).size = 9) := Lib.hid (by unfold rowW; simp only [List.size_toArray, List.length_cons]; rw [hi.1])
  have HNOW : Hid ((rowW now sv)[0]? = some (.int .u64 (now : Nat))) := Lib.hid rfl
  obtain ⟨c, hc⟩ : ∃ c, chkW now S = c := ⟨_, rfl⟩
  rw [hc]
  have HC := Lib.hid hc
  have HI := HI0
  clear hi hv0 hc hlen
  by_cases hm : 1099511627776 < now
  · have y1 : decide ((1099511627776 : Int) < (now : Int)) = true := decide_eq_true (by omega)
    have HO2 : Hid (false = c) := Lib.hid (by
      have := HC.out
      unfold chkW at this
      rw [decide_eq_false (by unfold MaxT; omega)] at this
      simpa using this)
    clear hm
    go_enter Try.func7, Try.ntmps7
    go_wp2_with (first
      | ((with_reducible refine at_box (T := 26) (dst := some 1) ?_); refine wl_newb rfl (rowW now sv) 26 (fun _ => rfl) ?_; intro b1 w2 hm2; replace hv := hv.madeAt hm2; clear hm2)
      | ((with_reducible refine at_load (T := 26) ?_); refine wl_ldv rfl b1 rfl _ (hv.vars.row (by first | exact .head _ | exact .tail _ (.head _) | exact .tail _ (.tail _ (.head _)) | exact .tail _ (.tail _ (.tail _ (.head _))) | exact .tail _ (.tail _ (.tail _ (.tail _ (.head _)))) | exact .tail _ (.tail _ (.tail _ (.tail _ (.tail _ (.head _))))) | exact .tail _ (.tail _ (.tail _ (.tail _ (.tail _ (.tail _ (.head _)))))) | exact .tail _ (.tail _ (.tail _ (.tail _ (.tail _ (.tail _ (.tail _ (.head _))))))))) 9 _ Try.underlying26 rfl infoWh (by decide) HSZ.out ?_)
      | ((with_reducible refine at_load (T := 22) ?_); refine wl_ldc rfl b1 0 rfl _ (hv.vars.row (by first | exact .head _ | exact .tail _ (.head _) | exact .tail _ (.tail _ (.head _)) | exact .tail _ (.tail _ (.tail _ (.head _))) | exact .tail _ (.tail _ (.tail _ (.tail _ (.head _)))) | exact .tail _ (.tail _ (.tail _ (.tail _ (.tail _ (.head _))))) | exact .tail _ (.tail _ (.tail _ (.tail _ (.tail _ (.tail _ (.head _)))))) | exact .tail _ (.tail _ (.tail _ (.tail _ (.tail _ (.tail _ (.tail _ (.head _))))))))) _ Try.underlying22 rfl (.int .u64 (now : Nat)) HNOW.out ?_)
      | (go_at_call 21; (with_reducible refine (WAll_33 now sv S _ _ _ _ hv HI.out HLE.out).mono ?_); rintro e w1 ⟨ao, an, ac, rfl, hv1⟩; replace hv := hv1; clear hv1))
    go_ret
    exact ⟨congrArg (fun b => Ending.returned (.bool b)) HO2.out, hv.below⟩
  · have y1 : decide ((1099511627776 : Int) < (now : Int)) = false := decide_eq_false (by omega)
    have y1n : ¬ (1099511627776 : Int) < (now : Int) := by omega
    have HNM : Hid (now ≤ MaxT) := Lib.hid (by unfold MaxT; omega)
    clear hm
    by_cases hn : 32 < S.flatten.length
    · have HO2 : Hid (false = c) := Lib.hid (by
        have h1 := HC.out
        unfold chkW at h1
        rw [decide_eq_false (p := S.flatten.length ≤ 32) (by omega)] at h1
        simpa using h1)
      have HFX : Hid (32 < (S.flatten.take 33).length) := Lib.hid (by rw [List.length_take]; omega)
      clear hn
      go_enter Try.func7, Try.ntmps7
      go_wp2_with (first
        | ((with_reducible refine at_box (T := 26) (dst := some 1) ?_); refine wl_newb rfl (rowW now sv) 26 (fun _ => rfl) ?_; intro b1 w2 hm2; replace hv := hv.madeAt hm2; clear hm2)
        | ((with_reducible refine at_load (T := 26) ?_); refine wl_ldv rfl b1 rfl _ (hv.vars.row (by first | exact .head _ | exact .tail _ (.head _) | exact .tail _ (.tail _ (.head _)) | exact .tail _ (.tail _ (.tail _ (.head _))) | exact .tail _ (.tail _ (.tail _ (.tail _ (.head _)))) | exact .tail _ (.tail _ (.tail _ (.tail _ (.tail _ (.head _))))) | exact .tail _ (.tail _ (.tail _ (.tail _ (.tail _ (.tail _ (.head _)))))) | exact .tail _ (.tail _ (.tail _ (.tail _ (.tail _ (.tail _ (.tail _ (.head _))))))))) 9 _ Try.underlying26 rfl infoWh (by decide) HSZ.out ?_)
        | ((with_reducible refine at_load (T := 22) ?_); refine wl_ldc rfl b1 0 rfl _ (hv.vars.row (by first | exact .head _ | exact .tail _ (.head _) | exact .tail _ (.tail _ (.head _)) | exact .tail _ (.tail _ (.tail _ (.head _))) | exact .tail _ (.tail _ (.tail _ (.tail _ (.head _)))) | exact .tail _ (.tail _ (.tail _ (.tail _ (.tail _ (.head _))))) | exact .tail _ (.tail _ (.tail _ (.tail _ (.tail _ (.tail _ (.head _)))))) | exact .tail _ (.tail _ (.tail _ (.tail _ (.tail _ (.tail _ (.tail _ (.head _))))))))) _ Try.underlying22 rfl (.int .u64 (now : Nat)) HNOW.out ?_)
        | (go_at_call 21; (with_reducible refine (WAll_33 now sv S _ _ _ _ hv HI.out HLE.out).mono ?_); rintro e w1 ⟨ao, an, ac, rfl, hv1⟩; replace hv := hv1; clear hv1; have HAN := Lib.hid (len_rdT (hv.rd Mem.z)); have y2 : decide ((32 : Int) < (an : Int)) = true := decide_eq_true (by have := HAN.out; have := HFX.out; omega); have y2n : (32 : Int) < (an : Int) := of_decide_eq_true y2))
      go_ret
      exact ⟨congrArg (fun b => Ending.returned (.bool b)) HO2.out, hv.below⟩
    · have HFL : Hid (S.flatten.take 33 = S.flatten) := Lib.hid (List.take_of_length_le (by omega))
      have HFN : Hid (S.flatten.length ≤ 32) := Lib.hid (by omega)
      have HO : Hid ((slotsB now 0 S && idsB S.flatten) = c) := Lib.hid (by
        have h1 := HC.out
        unfold chkW at h1
        rw [decide_eq_true HNM.out, decide_eq_true HFN.out] at h1
        simpa using h1)
      clear hn HC
      go_enter Try.func7, Try.ntmps7
      go_wp2_with (first
        | ((with_reducible refine at_box (T := 26) (dst := some 1) ?_); refine wl_newb rfl (rowW now sv) 26 (fun _ => rfl) ?_; intro b1 w2 hm2; replace hv := hv.madeAt hm2; clear hm2)
        | ((with_reducible refine at_load (T := 26) ?_); refine wl_ldv rfl b1 rfl _ (hv.vars.row (by first | exact .head _ | exact .tail _ (.head _) | exact .tail _ (.tail _ (.head _)) | exact .tail _ (.tail _ (.tail _ (.head _))) | exact .tail _ (.tail _ (.tail _ (.tail _ (.head _)))) | exact .tail _ (.tail _ (.tail _ (.tail _ (.tail _ (.head _))))) | exact .tail _ (.tail _ (.tail _ (.tail _ (.tail _ (.tail _ (.head _)))))) | exact .tail _ (.tail _ (.tail _ (.tail _ (.tail _ (.tail _ (.tail _ (.head _))))))))) 9 _ Try.underlying26 rfl infoWh (by decide) HSZ.out ?_)
        | ((with_reducible refine at_load (T := 22) ?_); refine wl_ldc rfl b1 0 rfl _ (hv.vars.row (by first | exact .head _ | exact .tail _ (.head _) | exact .tail _ (.tail _ (.head _)) | exact .tail _ (.tail _ (.tail _ (.head _))) | exact .tail _ (.tail _ (.tail _ (.tail _ (.head _)))) | exact .tail _ (.tail _ (.tail _ (.tail _ (.tail _ (.head _))))) | exact .tail _ (.tail _ (.tail _ (.tail _ (.tail _ (.tail _ (.head _)))))) | exact .tail _ (.tail _ (.tail _ (.tail _ (.tail _ (.tail _ (.tail _ (.head _))))))))) _ Try.underlying22 rfl (.int .u64 (now : Nat)) HNOW.out ?_)
        | (go_at_call 21; (with_reducible refine (WAll_33 now sv S _ _ _ _ hv HI.out HLE.out).mono ?_); rintro e w1 ⟨ao, an, ac, rfl, hv1⟩; replace hv := hv1; clear hv1; rw [HFL.out] at hv; have HAN := Lib.hid (len_rdT (hv.rd Mem.z)); have y2 : decide ((32 : Int) < (an : Int)) = false := decide_eq_false (by have := HAN.out; have := HFN.out; omega); have y2n : ¬ (32 : Int) < (an : Int) := of_decide_eq_false y2))
      replace HI : Hid (InW ((2, .slice ao an ac, cellsT S.flatten) :: R0) sv S) := Lib.hid (HI0.out.cons _)
      generalize hR : (2, Value.slice ao an ac, cellsT S.flatten) :: R0 = R at hv HI
      have HMF : Hid ((2, Value.slice ao an ac, cellsT S.flatten) ∈ R) := Lib.hid (by rw [← hR]; exact List.mem_cons_self ..)
      clear hR
      go_loopw [4] (fun iv wr => ∃ i : Nat, i ≤ 8 ∧ iv = .int .i64 (i : Nat) ∧ Mem w wr [(b1, (rowW now sv))] R ∧ Hid ((slotsB now i (S.drop i) && idsB S.flatten) = c)) (fun iv _ => 8 - (intOf iv).toNat)
      case atStart => exact ⟨0, Nat.zero_le _, rfl, hv, Lib.hid (by rw [List.drop_zero]; exact HO.out)⟩
      case round =>
        clear hv HO
        obtain ⟨i, hi0, rfl, hv, HO⟩ := hrel
        by_cases hi : i < 8
        · have hki : (i : Int) < 8 := by omega
          have hsi : i < sv.length := by rw [HI.out.1]; exact hi
          have hSi : i < S.length := by rw [HI.out.2.1]; exact hi
          obtain ⟨l, hl⟩ : ∃ l, S[i] = l := ⟨_, rfl⟩
          have hm := HI.out.2.2 i sv[i] S[i] (List.getElem?_eq_getElem hsi) (List.getElem?_eq_getElem hSi)
          obtain ⟨v, hvv⟩ : ∃ v, sv[i] = v := ⟨_, rfl⟩
          have hg := rowW_get (now := now) (List.getElem?_eq_getElem hsi)
          have hll := HLE.out S[i] (List.getElem_mem hSi)
          rw [hvv, hl] at hm
          rw [hvv] at hg
          rw [hl] at hll
          obtain ⟨sa, sn, sc, rfl, hq9⟩ := id (hv.rd hm)
          clear hq9
          have HSM := Lib.hid hm
          have HLN := Lib.hid (len_rdT (hv.rd hm))
          have HG := Lib.hid hg
          have HSL : Hid (S[i]? = some l) := Lib.hid (by rw [List.getElem?_eq_getElem hSi, hl])
          have HK0 := Lib.hid hi
          have HL1 := Lib.hid hll
          have qi : IntKind.u64.wrap (i : Int) = (i : Int) := IntWalk.u64_in _ (by omega)
          replace HO : Hid ((slotB now i (prevO l 0) (l.drop 0) && slotsB now (i + 1) (S.drop (i + 1)) && idsB S.flatten) = c) := Lib.hid (by
            have := HO.out
            rw [slotsB_at HSL.out] at this
            exact this)
          clear hsi hSi hl hm hvv hg hll hi0
          go_wp2
          go_loopw [5] (fun kv wr => ∃ k : Nat, k ≤ sn ∧ kv = .int .i64 (k : Nat) ∧ Mem w wr [(b1, (rowW now sv))] R ∧ Hid ((slotB now i (prevO l k) (l.drop k) && slotsB now (i + 1) (S.drop (i + 1)) && idsB S.flatten) = c)) (fun kv _ => sn - (intOf kv).toNat)
          case atStart => exact ⟨0, Nat.zero_le _, rfl, hv, HO⟩
          case round =>
            clear hv HO
            obtain ⟨k, hk0, rfl, hv, HO⟩ := hrel
            by_cases hk : k < sn
            · have c1 : (k : Int) < (sn : Int) := by omega
              have hkl : k < l.length := by rw [HLN.out]; exact hk
              obtain ⟨⟨x1, x2⟩, hx⟩ : ∃ x, l[k] = x := ⟨_, rfl⟩
              have HK : Hid (((cellsT l).drop (k * 2)).take 2 = [.int .u64 (x1 : Nat), .int .i64 x2]) := Lib.hid (by rw [cellsT_part l k hkl, hx])
              have HKL := Lib.hid hkl
              have HX : Hid (l[k]? = some (x1, x2)) := Lib.hid (by rw [List.getElem?_eq_getElem hkl, hx])
              have HX0 : Hid (((#[.int .u64 (x1 : Nat), .int .i64 x2] : Array Value))[0]? = some (.int .u64 (x1 : Nat))) := Lib.hid rfl
              obtain ⟨sb, so, _, _, e, hq8⟩ := (hv.rd HSM.out).some (by rw [cellsT_len]; omega)
              clear hq8
              cases e
              have HKN := Lib.hid hk
              have hkb : (k : Int) ≤ 1000 := by have := HL1.out; have := HLN.out; omega
              clear hkl hx hk0 hk
              by_cases ha : x1 % 8 = i
              · by_cases hb : now < x1
                · by_cases hc : x1 ≤ 1099511627776
                  · by_cases hz : k = 0
                    · have HP0 : Hid (prevO l k = none) := Lib.hid (if_pos hz)
                      have HO2 : Hid ((slotB now i (prevO l (k + 1)) (l.drop (k + 1)) && slotsB now (i + 1) (S.drop (i + 1)) && idsB S.flatten) = c) := Lib.hid (by
                        have := HO.out
                        rw [slotB_at HX.out] at this
                        unfold tmB at this
                        simp only [] at this
                        rw [HP0.out, decide_eq_true (p := x1 % 8 = i) (by omega), decide_eq_true (p := now < x1) (by omega), decide_eq_true (p := x1 ≤ MaxT) (by unfold MaxT; omega)] at this
                        simpa using this)
                      have ya : ((x1 : Int) % 8 != (i : Int)) = false := by rw [bne_eq_false_iff_eq]; omega
                      have yb : decide ((x1 : Int) ≤ (now : Int)) = false := decide_eq_false (by omega); have zb : decide ((x1 : Nat) ≤ (now : Nat)) = false := decide_eq_false (by omega)
                      have yc : decide ((1099511627776 : Int) < (x1 : Int)) = false := decide_eq_false (by omega); have zc : decide ((1099511627776 : Nat) < (x1 : Nat)) = false := decide_eq_false (by omega)
                      have yk : decide ((0 : Int) < (k : Int)) = false := decide_eq_false (by omega); have zk : decide ((0 : Nat) < (k : Nat)) = false := decide_eq_false (by omega)
                      clear HO ha hb hc hz
                      go_wp2_with (first
                        | ((with_reducible refine at_load (T := 23) ?_); refine wl_ldc rfl b1 (1 + i) rfl _ (hv.vars.row (by first | exact .head _ | exact .tail _ (.head _) | exact .tail _ (.tail _ (.head _)) | exact .tail _ (.tail _ (.tail _ (.head _))) | exact .tail _ (.tail _ (.tail _ (.tail _ (.head _)))) | exact .tail _ (.tail _ (.tail _ (.tail _ (.tail _ (.head _))))) | exact .tail _ (.tail _ (.tail _ (.tail _ (.tail _ (.tail _ (.head _)))))) | exact .tail _ (.tail _ (.tail _ (.tail _ (.tail _ (.tail _ (.tail _ (.head _))))))))) _ Try.underlying23 rfl (.slice (some ⟨sb, so, none⟩) sn sc) HG.out ?_)
                        | ((with_reducible refine at_load (T := 63) ?_); refine wl_rdv rfl (hv.rd HSM.out) (k * 2) rfl 2 _ Try.underlying63 rfl infoTm (by decide) #[.int .u64 (x1 : Nat), .int .i64 x2] HK.out rfl ?_)
                        | ((with_reducible refine at_alloc (T := 63) (dst := some 6) ?_); refine wl_newb rfl #[.int .u64 0, .int .i64 0] 63 (fun _ => rfl) ?_; intro b6 w2 hm2; replace hv := hv.madeAt hm2; clear hm2)
                        | ((with_reducible refine at_store (T := 63) ?_); refine wl_stv rfl b6 rfl _ rfl _ (hv.vars.row (by first | exact .head _ | exact .tail _ (.head _) | exact .tail _ (.tail _ (.head _)) | exact .tail _ (.tail _ (.tail _ (.head _))) | exact .tail _ (.tail _ (.tail _ (.tail _ (.head _)))) | exact .tail _ (.tail _ (.tail _ (.tail _ (.tail _ (.head _))))) | exact .tail _ (.tail _ (.tail _ (.tail _ (.tail _ (.tail _ (.head _)))))) | exact .tail _ (.tail _ (.tail _ (.tail _ (.tail _ (.tail _ (.tail _ (.head _))))))))) (hv.vars.sft (by first | exact .head _ | exact .tail _ (.head _) | exact .tail _ (.tail _ (.head _)) | exact .tail _ (.tail _ (.tail _ (.head _))) | exact .tail _ (.tail _ (.tail _ (.tail _ (.head _)))) | exact .tail _ (.tail _ (.tail _ (.tail _ (.tail _ (.head _))))) | exact .tail _ (.tail _ (.tail _ (.tail _ (.tail _ (.tail _ (.head _)))))) | exact .tail _ (.tail _ (.tail _ (.tail _ (.tail _ (.tail _ (.tail _ (.head _))))))))) 2 infoTm rfl rfl (by simp [Value.oneCell']) ?_; intro w2 hw2; (first | (replace hv := hv.set 0 rfl hw2) | (replace hv := hv.set 1 rfl hw2) | (replace hv := hv.set 2 rfl hw2) | (replace hv := hv.set 3 rfl hw2)); clear hw2; simp only [List.set] at hv))
                      have HPS := Lib.hid (Any.rd_start hv HSM.out)
                      simp only [Act.put, List.setIfInBounds_toArray, List.set_cons_succ, List.set_cons_zero]
                      refine Any.wp_region_walk [⟨[], none⟩, ⟨[1000], none⟩, ⟨[], none⟩, ⟨[], none⟩, ⟨[], none⟩, ⟨[], none⟩, ⟨[], none⟩, ⟨[], none⟩, ⟨[1000], none⟩, ⟨[], none⟩, ⟨[1001], none⟩, ⟨[], none⟩, ⟨[], none⟩, ⟨[], none⟩, ⟨[], none⟩, ⟨[1000], none⟩, ⟨[], none⟩, ⟨[], none⟩, ⟨[], none⟩, ⟨[], none⟩, ⟨[], none⟩, ⟨[], none⟩, ⟨[], none⟩, ⟨[], none⟩, ⟨[], none⟩, ⟨[1001], none⟩, ⟨[], none⟩, ⟨[], none⟩, ⟨[], none⟩, ⟨[], none⟩, ⟨[1000], none⟩, ⟨[], none⟩, ⟨[], none⟩, ⟨[], none⟩, ⟨[], none⟩] [.val, .val, .val, .val, .val, .val, .val, .val, .val, .val, .val, .val, .val, .val, .val, .val, .val, .val, .val, .val, .val, .val, .val, .val, .val, .val, .val, .val, .val, .val, .val, .val, .val, .val, .val] (by kernel_rfl) (by kernel_rfl) hv.vars ?_
                      simp only [List.length_cons, List.length_nil, Nat.zero_add, Any.someVals]
                      iterate 35 apply Exists.intro
                      repeat (first
                        | (refine Any.E_off rfl ?_; simp only [Act.put, List.setIfInBounds_toArray, List.set_cons_succ, List.set_cons_zero])
                        | (apply Any.E_pureq rfl rfl rfl
                           case h => intro K hK; go_big_quiet_op; (refine hK _ ?_; rfl)
                           case hr => exact fun _ => rfl
                           simp only [Act.put, List.setIfInBounds_toArray, List.set_cons_succ, List.set_cons_zero])
                        | (apply Any.E_val rfl rfl rfl rfl
                           case h =>
                             intro E' hA K hK
                             first
                               | ((with_reducible refine Any.at_qload (T := 22) ?_); refine Any.q_ldc 1000 hA (by decide) rfl rfl _ Try.underlying22 rfl (.int .u64 (x1 : Nat)) HX0.out ?_; refine hK _ ?_; rfl)
                               | ((with_reducible refine Any.at_qload (T := 22) ?_); refine Any.q_ldc 1001 hA (by decide) rfl rfl _ Try.underlying22 rfl (.int .u64 (now : Nat)) HNOW.out ?_; refine hK _ ?_; rfl)
                               | ((with_reducible refine Any.at_qload (T := 23) ?_); refine Any.q_ldc 1001 hA (by decide) rfl rfl _ Try.underlying23 rfl (.slice (some ⟨sb, so, none⟩) sn sc) HG.out ?_; refine hK _ ?_; rfl)
                               | ((with_reducible refine Any.at_qload (T := 63) ?_); refine Any.q_rdv HPS.out ((k - 1) * 2) rfl 2 _ Try.underlying63 rfl infoTm (by decide) #[.int .u64 (q1 : Nat), .int .i64 q2] HQ.out rfl ?_; refine hK _ ?_; rfl)
                               | ((with_reducible refine Any.at_qload (T := 63) ?_); refine Any.q_ldv 1000 hA (by decide) rfl rfl 2 _ Try.underlying63 rfl infoTm (by decide) rfl ?_; refine hK _ ?_; rfl)
                               | (go_big_quiet_op; first
                                 | (refine hK _ ?_; rfl)
                                 | (refine ⟨_, fun _ _ => rfl, ?_⟩; refine hK _ ?_; rfl)
                                 | (apply Exists.intro; refine ⟨fun w1 hw1 => ?_, ?_⟩; · (first
                                     | (go_at_call 22; exact Any.calls_VE (kA _) hw1))
                                    refine hK _ ?_; rfl))
                           case hD => rfl
                           simp only [Act.put, List.setIfInBounds_toArray, List.set_cons_succ, List.set_cons_zero])
                        | ((with_reducible refine Any.at_ealloc ?_); refine Any.E_lay rfl rfl rfl (fun _ => rfl) ?_; intro B; simp only [Act.put, List.setIfInBounds_toArray, List.set_cons_succ, List.set_cons_zero]))
                      try any_goals exact undef
                      refine Any.E_nil ?_
                      intro w9 hE9
                      replace hv : Mem w w9 [(b6, #[.int .u64 (x1 : Nat), .int .i64 x2]), (b1, (rowW now sv))] _ := hE9.mem hv [1000, 1001] (by decide)
                      clear hE9
                      go_wp2
                      have hkn := HKN.out
                      go_roundw
                      case rel => exact ⟨k + 1, by omega, by go_num, hv.drop, HO2⟩
                      case measure => simp [intOf]; omega

                    · have hk1 : k - 1 < l.length := by have := HKL.out; omega
                      obtain ⟨⟨q1, q2⟩, hq⟩ : ∃ x, l[k - 1] = x := ⟨_, rfl⟩
                      have HQ : Hid (((cellsT l).drop ((k - 1) * 2)).take 2 = [.int .u64 (q1 : Nat), .int .i64 q2]) := Lib.hid (by rw [cellsT_part l (k - 1) hk1, hq])
                      have HP0 : Hid (prevO l k = some (q1, q2)) := Lib.hid (by unfold prevO; rw [if_neg hz, List.getElem?_eq_getElem hk1, hq])
                      have qk : IntKind.i64.wrap ((k : Int) - 1) = ((k - 1 : Nat) : Int) := by rw [IntWalk.i64_in _ (by omega)]; omega
                      have qk2 : ((k : Int) - 1).toNat = k - 1 := by omega
                      have qk3 : ((k - 1 : Nat) : Int) < (sn : Int) := by omega
                      clear hk1 hq
                      cases hb2 : aheadB (q1, q2) (x1, x2) with
                      | false =>
                        have kA : ∀ w, Calls Try.prog 22 #[.agg #[.int .u64 (q1 : Nat), .int .i64 q2], .agg #[.int .u64 (x1 : Nat), .int .i64 x2]] w fun e w' => e = .returned (.bool false) ∧ New w w' := fun w => by have := ahead_any (q1, q2) (x1, x2) w; rw [hb2] at this; exact this
                        have HB2 := Lib.hid hb2
                        clear hb2
                        have HO2 : Hid (false = c) := Lib.hid (by
                          have := HO.out
                          rw [slotB_at HX.out] at this
                          unfold tmB at this
                          simp only [] at this
                          rw [HP0.out, decide_eq_true (p := x1 % 8 = i) (by omega), decide_eq_true (p := now < x1) (by omega), decide_eq_true (p := x1 ≤ MaxT) (by unfold MaxT; omega)] at this
                          simpa [HB2.out] using this)
                        have ya : ((x1 : Int) % 8 != (i : Int)) = false := by rw [bne_eq_false_iff_eq]; omega
                        have yb : decide ((x1 : Int) ≤ (now : Int)) = false := decide_eq_false (by omega); have zb : decide ((x1 : Nat) ≤ (now : Nat)) = false := decide_eq_false (by omega)
                        have yc : decide ((1099511627776 : Int) < (x1 : Int)) = false := decide_eq_false (by omega); have zc : decide ((1099511627776 : Nat) < (x1 : Nat)) = false := decide_eq_false (by omega)
                        have yk : decide ((0 : Int) < (k : Int)) = true := decide_eq_true (by omega); have zk : decide ((0 : Nat) < (k : Nat)) = true := decide_eq_true (by omega)
                        clear HO ha hb hc hz
                        go_wp2_with (first
                          | ((with_reducible refine at_load (T := 23) ?_); refine wl_ldc rfl b1 (1 + i) rfl _ (hv.vars.row (by first | exact .head _ | exact .tail _ (.head _) | exact .tail _ (.tail _ (.head _)) | exact .tail _ (.tail _ (.tail _ (.head _))) | exact .tail _ (.tail _ (.tail _ (.tail _ (.head _)))) | exact .tail _ (.tail _ (.tail _ (.tail _ (.tail _ (.head _))))) | exact .tail _ (.tail _ (.tail _ (.tail _ (.tail _ (.tail _ (.head _)))))) | exact .tail _ (.tail _ (.tail _ (.tail _ (.tail _ (.tail _ (.tail _ (.head _))))))))) _ Try.underlying23 rfl (.slice (some ⟨sb, so, none⟩) sn sc) HG.out ?_)
                          | ((with_reducible refine at_load (T := 63) ?_); refine wl_rdv rfl (hv.rd HSM.out) (k * 2) rfl 2 _ Try.underlying63 rfl infoTm (by decide) #[.int .u64 (x1 : Nat), .int .i64 x2] HK.out rfl ?_)
                          | ((with_reducible refine at_alloc (T := 63) (dst := some 6) ?_); refine wl_newb rfl #[.int .u64 0, .int .i64 0] 63 (fun _ => rfl) ?_; intro b6 w2 hm2; replace hv := hv.madeAt hm2; clear hm2)
                          | ((with_reducible refine at_store (T := 63) ?_); refine wl_stv rfl b6 rfl _ rfl _ (hv.vars.row (by first | exact .head _ | exact .tail _ (.head _) | exact .tail _ (.tail _ (.head _)) | exact .tail _ (.tail _ (.tail _ (.head _))) | exact .tail _ (.tail _ (.tail _ (.tail _ (.head _)))) | exact .tail _ (.tail _ (.tail _ (.tail _ (.tail _ (.head _))))) | exact .tail _ (.tail _ (.tail _ (.tail _ (.tail _ (.tail _ (.head _)))))) | exact .tail _ (.tail _ (.tail _ (.tail _ (.tail _ (.tail _ (.tail _ (.head _))))))))) (hv.vars.sft (by first | exact .head _ | exact .tail _ (.head _) | exact .tail _ (.tail _ (.head _)) | exact .tail _ (.tail _ (.tail _ (.head _))) | exact .tail _ (.tail _ (.tail _ (.tail _ (.head _)))) | exact .tail _ (.tail _ (.tail _ (.tail _ (.tail _ (.head _))))) | exact .tail _ (.tail _ (.tail _ (.tail _ (.tail _ (.tail _ (.head _)))))) | exact .tail _ (.tail _ (.tail _ (.tail _ (.tail _ (.tail _ (.tail _ (.head _))))))))) 2 infoTm rfl rfl (by simp [Value.oneCell']) ?_; intro w2 hw2; (first | (replace hv := hv.set 0 rfl hw2) | (replace hv := hv.set 1 rfl hw2) | (replace hv := hv.set 2 rfl hw2) | (replace hv := hv.set 3 rfl hw2)); clear hw2; simp only [List.set] at hv))
                        have HPS := Lib.hid (Any.rd_start hv HSM.out)
                        simp only [Act.put, List.setIfInBounds_toArray, List.set_cons_succ, List.set_cons_zero]
                        refine Any.wp_region_walk [⟨[], none⟩, ⟨[1000], none⟩, ⟨[], none⟩, ⟨[], none⟩, ⟨[], none⟩, ⟨[], none⟩, ⟨[], none⟩, ⟨[], none⟩, ⟨[1000], none⟩, ⟨[], none⟩, ⟨[1001], none⟩, ⟨[], none⟩, ⟨[], none⟩, ⟨[], none⟩, ⟨[], none⟩, ⟨[1000], none⟩, ⟨[], none⟩, ⟨[], none⟩, ⟨[], none⟩, ⟨[], none⟩, ⟨[], none⟩, ⟨[], none⟩, ⟨[], none⟩, ⟨[], none⟩, ⟨[], none⟩, ⟨[1001], none⟩, ⟨[], none⟩, ⟨[], none⟩, ⟨[], none⟩, ⟨[], none⟩, ⟨[1000], none⟩, ⟨[], none⟩, ⟨[], none⟩, ⟨[], none⟩, ⟨[], none⟩] [.val, .val, .val, .val, .val, .val, .val, .val, .val, .val, .val, .val, .val, .val, .val, .val, .val, .val, .val, .val, .val, .val, .val, .val, .val, .val, .val, .val, .val, .val, .val, .val, .val, .val, .val] (by kernel_rfl) (by kernel_rfl) hv.vars ?_
                        simp only [List.length_cons, List.length_nil, Nat.zero_add, Any.someVals]
                        iterate 35 apply Exists.intro
                        repeat (first
                          | (refine Any.E_off rfl ?_; simp only [Act.put, List.setIfInBounds_toArray, List.set_cons_succ, List.set_cons_zero])
                          | (apply Any.E_pureq rfl rfl rfl
                             case h => intro K hK; go_big_quiet_op; (refine hK _ ?_; rfl)
                             case hr => exact fun _ => rfl
                             simp only [Act.put, List.setIfInBounds_toArray, List.set_cons_succ, List.set_cons_zero])
                          | (apply Any.E_val rfl rfl rfl rfl
                             case h =>
                               intro E' hA K hK
                               first
                                 | ((with_reducible refine Any.at_qload (T := 22) ?_); refine Any.q_ldc 1000 hA (by decide) rfl rfl _ Try.underlying22 rfl (.int .u64 (x1 : Nat)) HX0.out ?_; refine hK _ ?_; rfl)
                                 | ((with_reducible refine Any.at_qload (T := 22) ?_); refine Any.q_ldc 1001 hA (by decide) rfl rfl _ Try.underlying22 rfl (.int .u64 (now : Nat)) HNOW.out ?_; refine hK _ ?_; rfl)
                                 | ((with_reducible refine Any.at_qload (T := 23) ?_); refine Any.q_ldc 1001 hA (by decide) rfl rfl _ Try.underlying23 rfl (.slice (some ⟨sb, so, none⟩) sn sc) HG.out ?_; refine hK _ ?_; rfl)
                                 | ((with_reducible refine Any.at_qload (T := 63) ?_); refine Any.q_rdv HPS.out ((k - 1) * 2) rfl 2 _ Try.underlying63 rfl infoTm (by decide) #[.int .u64 (q1 : Nat), .int .i64 q2] HQ.out rfl ?_; refine hK _ ?_; rfl)
                                 | ((with_reducible refine Any.at_qload (T := 63) ?_); refine Any.q_ldv 1000 hA (by decide) rfl rfl 2 _ Try.underlying63 rfl infoTm (by decide) rfl ?_; refine hK _ ?_; rfl)
                                 | (go_big_quiet_op; first
                                   | (refine hK _ ?_; rfl)
                                   | (refine ⟨_, fun _ _ => rfl, ?_⟩; refine hK _ ?_; rfl)
                                   | (apply Exists.intro; refine ⟨fun w1 hw1 => ?_, ?_⟩; · (first
                                       | (go_at_call 22; exact Any.calls_VE (kA _) hw1))
                                      refine hK _ ?_; rfl))
                             case hD => rfl
                             simp only [Act.put, List.setIfInBounds_toArray, List.set_cons_succ, List.set_cons_zero])
                          | ((with_reducible refine Any.at_ealloc ?_); refine Any.E_lay rfl rfl rfl (fun _ => rfl) ?_; intro B; simp only [Act.put, List.setIfInBounds_toArray, List.set_cons_succ, List.set_cons_zero]))
                        try any_goals exact undef
                        refine Any.E_nil ?_
                        intro w9 hE9
                        replace hv : Mem w w9 [(b6, #[.int .u64 (x1 : Nat), .int .i64 x2]), (b1, (rowW now sv))] _ := hE9.mem hv [1000, 1001] (by decide)
                        clear hE9
                        go_wp2
                        go_ret
                        exact ⟨congrArg (fun b => Ending.returned (.bool b)) HO2.out, hv.below⟩

                      | true =>
                        have kA : ∀ w, Calls Try.prog 22 #[.agg #[.int .u64 (q1 : Nat), .int .i64 q2], .agg #[.int .u64 (x1 : Nat), .int .i64 x2]] w fun e w' => e = .returned (.bool true) ∧ New w w' := fun w => by have := ahead_any (q1, q2) (x1, x2) w; rw [hb2] at this; exact this
                        have HB2 := Lib.hid hb2
                        clear hb2
                        have HO2 : Hid ((slotB now i (prevO l (k + 1)) (l.drop (k + 1)) && slotsB now (i + 1) (S.drop (i + 1)) && idsB S.flatten) = c) := Lib.hid (by
                          have := HO.out
                          rw [slotB_at HX.out] at this
                          unfold tmB at this
                          simp only [] at this
                          rw [HP0.out, decide_eq_true (p := x1 % 8 = i) (by omega), decide_eq_true (p := now < x1) (by omega), decide_eq_true (p := x1 ≤ MaxT) (by unfold MaxT; omega)] at this
                          simpa [HB2.out] using this)
                        have ya : ((x1 : Int) % 8 != (i : Int)) = false := by rw [bne_eq_false_iff_eq]; omega
                        have yb : decide ((x1 : Int) ≤ (now : Int)) = false := decide_eq_false (by omega); have zb : decide ((x1 : Nat) ≤ (now : Nat)) = false := decide_eq_false (by omega)
                        have yc : decide ((1099511627776 : Int) < (x1 : Int)) = false := decide_eq_false (by omega); have zc : decide ((1099511627776 : Nat) < (x1 : Nat)) = false := decide_eq_false (by omega)
                        have yk : decide ((0 : Int) < (k : Int)) = true := decide_eq_true (by omega); have zk : decide ((0 : Nat) < (k : Nat)) = true := decide_eq_true (by omega)
                        clear HO ha hb hc hz
                        go_wp2_with (first
                          | ((with_reducible refine at_load (T := 23) ?_); refine wl_ldc rfl b1 (1 + i) rfl _ (hv.vars.row (by first | exact .head _ | exact .tail _ (.head _) | exact .tail _ (.tail _ (.head _)) | exact .tail _ (.tail _ (.tail _ (.head _))) | exact .tail _ (.tail _ (.tail _ (.tail _ (.head _)))) | exact .tail _ (.tail _ (.tail _ (.tail _ (.tail _ (.head _))))) | exact .tail _ (.tail _ (.tail _ (.tail _ (.tail _ (.tail _ (.head _)))))) | exact .tail _ (.tail _ (.tail _ (.tail _ (.tail _ (.tail _ (.tail _ (.head _))))))))) _ Try.underlying23 rfl (.slice (some ⟨sb, so, none⟩) sn sc) HG.out ?_)
                          | ((with_reducible refine at_load (T := 63) ?_); refine wl_rdv rfl (hv.rd HSM.out) (k * 2) rfl 2 _ Try.underlying63 rfl infoTm (by decide) #[.int .u64 (x1 : Nat), .int .i64 x2] HK.out rfl ?_)
                          | ((with_reducible refine at_alloc (T := 63) (dst := some 6) ?_); refine wl_newb rfl #[.int .u64 0, .int .i64 0] 63 (fun _ => rfl) ?_; intro b6 w2 hm2; replace hv := hv.madeAt hm2; clear hm2)
                          | ((with_reducible refine at_store (T := 63) ?_); refine wl_stv rfl b6 rfl _ rfl _ (hv.vars.row (by first | exact .head _ | exact .tail _ (.head _) | exact .tail _ (.tail _ (.head _)) | exact .tail _ (.tail _ (.tail _ (.head _))) | exact .tail _ (.tail _ (.tail _ (.tail _ (.head _)))) | exact .tail _ (.tail _ (.tail _ (.tail _ (.tail _ (.head _))))) | exact .tail _ (.tail _ (.tail _ (.tail _ (.tail _ (.tail _ (.head _)))))) | exact .tail _ (.tail _ (.tail _ (.tail _ (.tail _ (.tail _ (.tail _ (.head _))))))))) (hv.vars.sft (by first | exact .head _ | exact .tail _ (.head _) | exact .tail _ (.tail _ (.head _)) | exact .tail _ (.tail _ (.tail _ (.head _))) | exact .tail _ (.tail _ (.tail _ (.tail _ (.head _)))) | exact .tail _ (.tail _ (.tail _ (.tail _ (.tail _ (.head _))))) | exact .tail _ (.tail _ (.tail _ (.tail _ (.tail _ (.tail _ (.head _)))))) | exact .tail _ (.tail _ (.tail _ (.tail _ (.tail _ (.tail _ (.tail _ (.head _))))))))) 2 infoTm rfl rfl (by simp [Value.oneCell']) ?_; intro w2 hw2; (first | (replace hv := hv.set 0 rfl hw2) | (replace hv := hv.set 1 rfl hw2) | (replace hv := hv.set 2 rfl hw2) | (replace hv := hv.set 3 rfl hw2)); clear hw2; simp only [List.set] at hv))
                        have HPS := Lib.hid (Any.rd_start hv HSM.out)
                        simp only [Act.put, List.setIfInBounds_toArray, List.set_cons_succ, List.set_cons_zero]
                        refine Any.wp_region_walk [⟨[], none⟩, ⟨[1000], none⟩, ⟨[], none⟩, ⟨[], none⟩, ⟨[], none⟩, ⟨[], none⟩, ⟨[], none⟩, ⟨[], none⟩, ⟨[1000], none⟩, ⟨[], none⟩, ⟨[1001], none⟩, ⟨[], none⟩, ⟨[], none⟩, ⟨[], none⟩, ⟨[], none⟩, ⟨[1000], none⟩, ⟨[], none⟩, ⟨[], none⟩, ⟨[], none⟩, ⟨[], none⟩, ⟨[], none⟩, ⟨[], none⟩, ⟨[], none⟩, ⟨[], none⟩, ⟨[], none⟩, ⟨[1001], none⟩, ⟨[], none⟩, ⟨[], none⟩, ⟨[], none⟩, ⟨[], none⟩, ⟨[1000], none⟩, ⟨[], none⟩, ⟨[], none⟩, ⟨[], none⟩, ⟨[], none⟩] [.val, .val, .val, .val, .val, .val, .val, .val, .val, .val, .val, .val, .val, .val, .val, .val, .val, .val, .val, .val, .val, .val, .val, .val, .val, .val, .val, .val, .val, .val, .val, .val, .val, .val, .val] (by kernel_rfl) (by kernel_rfl) hv.vars ?_
                        simp only [List.length_cons, List.length_nil, Nat.zero_add, Any.someVals]
                        iterate 35 apply Exists.intro
                        repeat (first
                          | (refine Any.E_off rfl ?_; simp only [Act.put, List.setIfInBounds_toArray, List.set_cons_succ, List.set_cons_zero])
                          | (apply Any.E_pureq rfl rfl rfl
                             case h => intro K hK; go_big_quiet_op; (refine hK _ ?_; rfl)
                             case hr => exact fun _ => rfl
                             simp only [Act.put, List.setIfInBounds_toArray, List.set_cons_succ, List.set_cons_zero])
                          | (apply Any.E_val rfl rfl rfl rfl
                             case h =>
                               intro E' hA K hK
                               first
                                 | ((with_reducible refine Any.at_qload (T := 22) ?_); refine Any.q_ldc 1000 hA (by decide) rfl rfl _ Try.underlying22 rfl (.int .u64 (x1 : Nat)) HX0.out ?_; refine hK _ ?_; rfl)
                                 | ((with_reducible refine Any.at_qload (T := 22) ?_); refine Any.q_ldc 1001 hA (by decide) rfl rfl _ Try.underlying22 rfl (.int .u64 (now : Nat)) HNOW.out ?_; refine hK _ ?_; rfl)
                                 | ((with_reducible refine Any.at_qload (T := 23) ?_); refine Any.q_ldc 1001 hA (by decide) rfl rfl _ Try.underlying23 rfl (.slice (some ⟨sb, so, none⟩) sn sc) HG.out ?_; refine hK _ ?_; rfl)
                                 | ((with_reducible refine Any.at_qload (T := 63) ?_); refine Any.q_rdv HPS.out ((k - 1) * 2) rfl 2 _ Try.underlying63 rfl infoTm (by decide) #[.int .u64 (q1 : Nat), .int .i64 q2] HQ.out rfl ?_; refine hK _ ?_; rfl)
                                 | ((with_reducible refine Any.at_qload (T := 63) ?_); refine Any.q_ldv 1000 hA (by decide) rfl rfl 2 _ Try.underlying63 rfl infoTm (by decide) rfl ?_; refine hK _ ?_; rfl)
                                 | (go_big_quiet_op; first
                                   | (refine hK _ ?_; rfl)
                                   | (refine ⟨_, fun _ _ => rfl, ?_⟩; refine hK _ ?_; rfl)
                                   | (apply Exists.intro; refine ⟨fun w1 hw1 => ?_, ?_⟩; · (first
                                       | (go_at_call 22; exact Any.calls_VE (kA _) hw1))
                                      refine hK _ ?_; rfl))
                             case hD => rfl
                             simp only [Act.put, List.setIfInBounds_toArray, List.set_cons_succ, List.set_cons_zero])
                          | ((with_reducible refine Any.at_ealloc ?_); refine Any.E_lay rfl rfl rfl (fun _ => rfl) ?_; intro B; simp only [Act.put, List.setIfInBounds_toArray, List.set_cons_succ, List.set_cons_zero]))
                        try any_goals exact undef
                        refine Any.E_nil ?_
                        intro w9 hE9
                        replace hv : Mem w w9 [(b6, #[.int .u64 (x1 : Nat), .int .i64 x2]), (b1, (rowW now sv))] _ := hE9.mem hv [1000, 1001] (by decide)
                        clear hE9
                        go_wp2
                        have hkn := HKN.out
                        go_roundw
                        case rel => exact ⟨k + 1, by omega, by go_num, hv.drop, HO2⟩
                        case measure => simp [intOf]; omega

                  · skip
                    have HO2 : Hid (false = c) := Lib.hid (by
                      have := HO.out
                      rw [slotB_at HX.out] at this
                      unfold tmB at this
                      simp only [] at this
                      rw [decide_eq_false (p := x1 ≤ MaxT) (by unfold MaxT; omega)] at this
                      simpa using this)
                    have ya : ((x1 : Int) % 8 != (i : Int)) = false := by rw [bne_eq_false_iff_eq]; omega
                    have yb : decide ((x1 : Int) ≤ (now : Int)) = false := decide_eq_false (by omega); have zb : decide ((x1 : Nat) ≤ (now : Nat)) = false := decide_eq_false (by omega)
                    have yc : decide ((1099511627776 : Int) < (x1 : Int)) = true := decide_eq_true (by omega); have zc : decide ((1099511627776 : Nat) < (x1 : Nat)) = true := decide_eq_true (by omega)
                    clear HO ha hb hc
                    go_wp2_with (first
                      | ((with_reducible refine at_load (T := 23) ?_); refine wl_ldc rfl b1 (1 + i) rfl _ (hv.vars.row (by first | exact .head _ | exact .tail _ (.head _) | exact .tail _ (.tail _ (.head _)) | exact .tail _ (.tail _ (.tail _ (.head _))) | exact .tail _ (.tail _ (.tail _ (.tail _ (.head _)))) | exact .tail _ (.tail _ (.tail _ (.tail _ (.tail _ (.head _))))) | exact .tail _ (.tail _ (.tail _ (.tail _ (.tail _ (.tail _ (.head _)))))) | exact .tail _ (.tail _ (.tail _ (.tail _ (.tail _ (.tail _ (.tail _ (.head _))))))))) _ Try.underlying23 rfl (.slice (some ⟨sb, so, none⟩) sn sc) HG.out ?_)
                      | ((with_reducible refine at_load (T := 63) ?_); refine wl_rdv rfl (hv.rd HSM.out) (k * 2) rfl 2 _ Try.underlying63 rfl infoTm (by decide) #[.int .u64 (x1 : Nat), .int .i64 x2] HK.out rfl ?_)
                      | ((with_reducible refine at_alloc (T := 63) (dst := some 6) ?_); refine wl_newb rfl #[.int .u64 0, .int .i64 0] 63 (fun _ => rfl) ?_; intro b6 w2 hm2; replace hv := hv.madeAt hm2; clear hm2)
                      | ((with_reducible refine at_store (T := 63) ?_); refine wl_stv rfl b6 rfl _ rfl _ (hv.vars.row (by first | exact .head _ | exact .tail _ (.head _) | exact .tail _ (.tail _ (.head _)) | exact .tail _ (.tail _ (.tail _ (.head _))) | exact .tail _ (.tail _ (.tail _ (.tail _ (.head _)))) | exact .tail _ (.tail _ (.tail _ (.tail _ (.tail _ (.head _))))) | exact .tail _ (.tail _ (.tail _ (.tail _ (.tail _ (.tail _ (.head _)))))) | exact .tail _ (.tail _ (.tail _ (.tail _ (.tail _ (.tail _ (.tail _ (.head _))))))))) (hv.vars.sft (by first | exact .head _ | exact .tail _ (.head _) | exact .tail _ (.tail _ (.head _)) | exact .tail _ (.tail _ (.tail _ (.head _))) | exact .tail _ (.tail _ (.tail _ (.tail _ (.head _)))) | exact .tail _ (.tail _ (.tail _ (.tail _ (.tail _ (.head _))))) | exact .tail _ (.tail _ (.tail _ (.tail _ (.tail _ (.tail _ (.head _)))))) | exact .tail _ (.tail _ (.tail _ (.tail _ (.tail _ (.tail _ (.tail _ (.head _))))))))) 2 infoTm rfl rfl (by simp [Value.oneCell']) ?_; intro w2 hw2; (first | (replace hv := hv.set 0 rfl hw2) | (replace hv := hv.set 1 rfl hw2) | (replace hv := hv.set 2 rfl hw2) | (replace hv := hv.set 3 rfl hw2)); clear hw2; simp only [List.set] at hv))
                    have HPS := Lib.hid (Any.rd_start hv HSM.out)
                    simp only [Act.put, List.setIfInBounds_toArray, List.set_cons_succ, List.set_cons_zero]
                    refine Any.wp_region_walk [⟨[], none⟩, ⟨[1000], none⟩, ⟨[], none⟩, ⟨[], none⟩, ⟨[], none⟩, ⟨[], none⟩, ⟨[], none⟩, ⟨[], none⟩, ⟨[1000], none⟩, ⟨[], none⟩, ⟨[1001], none⟩, ⟨[], none⟩, ⟨[], none⟩, ⟨[], none⟩, ⟨[], none⟩, ⟨[1000], none⟩, ⟨[], none⟩, ⟨[], none⟩, ⟨[], none⟩, ⟨[], none⟩, ⟨[], none⟩, ⟨[], none⟩, ⟨[], none⟩, ⟨[], none⟩, ⟨[], none⟩, ⟨[1001], none⟩, ⟨[], none⟩, ⟨[], none⟩, ⟨[], none⟩, ⟨[], none⟩, ⟨[1000], none⟩, ⟨[], none⟩, ⟨[], none⟩, ⟨[], none⟩, ⟨[], none⟩] [.val, .val, .val, .val, .val, .val, .val, .val, .val, .val, .val, .val, .val, .val, .val, .val, .val, .val, .val, .val, .val, .val, .val, .val, .val, .val, .val, .val, .val, .val, .val, .val, .val, .val, .val] (by kernel_rfl) (by kernel_rfl) hv.vars ?_
                    simp only [List.length_cons, List.length_nil, Nat.zero_add, Any.someVals]
                    iterate 35 apply Exists.intro
                    repeat (first
                      | (refine Any.E_off rfl ?_; simp only [Act.put, List.setIfInBounds_toArray, List.set_cons_succ, List.set_cons_zero])
                      | (apply Any.E_pureq rfl rfl rfl
                         case h => intro K hK; go_big_quiet_op; (refine hK _ ?_; rfl)
                         case hr => exact fun _ => rfl
                         simp only [Act.put, List.setIfInBounds_toArray, List.set_cons_succ, List.set_cons_zero])
                      | (apply Any.E_val rfl rfl rfl rfl
                         case h =>
                           intro E' hA K hK
                           first
                             | ((with_reducible refine Any.at_qload (T := 22) ?_); refine Any.q_ldc 1000 hA (by decide) rfl rfl _ Try.underlying22 rfl (.int .u64 (x1 : Nat)) HX0.out ?_; refine hK _ ?_; rfl)
                             | ((with_reducible refine Any.at_qload (T := 22) ?_); refine Any.q_ldc 1001 hA (by decide) rfl rfl _ Try.underlying22 rfl (.int .u64 (now : Nat)) HNOW.out ?_; refine hK _ ?_; rfl)
                             | ((with_reducible refine Any.at_qload (T := 23) ?_); refine Any.q_ldc 1001 hA (by decide) rfl rfl _ Try.underlying23 rfl (.slice (some ⟨sb, so, none⟩) sn sc) HG.out ?_; refine hK _ ?_; rfl)
                             | ((with_reducible refine Any.at_qload (T := 63) ?_); refine Any.q_rdv HPS.out ((k - 1) * 2) rfl 2 _ Try.underlying63 rfl infoTm (by decide) #[.int .u64 (q1 : Nat), .int .i64 q2] HQ.out rfl ?_; refine hK _ ?_; rfl)
                             | ((with_reducible refine Any.at_qload (T := 63) ?_); refine Any.q_ldv 1000 hA (by decide) rfl rfl 2 _ Try.underlying63 rfl infoTm (by decide) rfl ?_; refine hK _ ?_; rfl)
                             | (go_big_quiet_op; first
                               | (refine hK _ ?_; rfl)
                               | (refine ⟨_, fun _ _ => rfl, ?_⟩; refine hK _ ?_; rfl)
                               | (apply Exists.intro; refine ⟨fun w1 hw1 => ?_, ?_⟩; · (first
                                   | (go_at_call 22; exact Any.calls_VE (kA _) hw1))
                                  refine hK _ ?_; rfl))
                         case hD => rfl
                         simp only [Act.put, List.setIfInBounds_toArray, List.set_cons_succ, List.set_cons_zero])
                      | ((with_reducible refine Any.at_ealloc ?_); refine Any.E_lay rfl rfl rfl (fun _ => rfl) ?_; intro B; simp only [Act.put, List.setIfInBounds_toArray, List.set_cons_succ, List.set_cons_zero]))
                    try any_goals exact undef
                    refine Any.E_nil ?_
                    intro w9 hE9
                    replace hv : Mem w w9 [(b6, #[.int .u64 (x1 : Nat), .int .i64 x2]), (b1, (rowW now sv))] _ := hE9.mem hv [1000, 1001] (by decide)
                    clear hE9
                    go_wp2
                    go_ret
                    exact ⟨congrArg (fun b => Ending.returned (.bool b)) HO2.out, hv.below⟩

                · skip
                  have HO2 : Hid (false = c) := Lib.hid (by
                    have := HO.out
                    rw [slotB_at HX.out] at this
                    unfold tmB at this
                    simp only [] at this
                    rw [decide_eq_false (p := now < x1) (by omega)] at this
                    simpa using this)
                  have ya : ((x1 : Int) % 8 != (i : Int)) = false := by rw [bne_eq_false_iff_eq]; omega
                  have yb : decide ((x1 : Int) ≤ (now : Int)) = true := decide_eq_true (by omega); have zb : decide ((x1 : Nat) ≤ (now : Nat)) = true := decide_eq_true (by omega)
                  clear HO ha hb
                  go_wp2_with (first
                    | ((with_reducible refine at_load (T := 23) ?_); refine wl_ldc rfl b1 (1 + i) rfl _ (hv.vars.row (by first | exact .head _ | exact .tail _ (.head _) | exact .tail _ (.tail _ (.head _)) | exact .tail _ (.tail _ (.tail _ (.head _))) | exact .tail _ (.tail _ (.tail _ (.tail _ (.head _)))) | exact .tail _ (.tail _ (.tail _ (.tail _ (.tail _ (.head _))))) | exact .tail _ (.tail _ (.tail _ (.tail _ (.tail _ (.tail _ (.head _)))))) | exact .tail _ (.tail _ (.tail _ (.tail _ (.tail _ (.tail _ (.tail _ (.head _))))))))) _ Try.underlying23 rfl (.slice (some ⟨sb, so, none⟩) sn sc) HG.out ?_)
                    | ((with_reducible refine at_load (T := 63) ?_); refine wl_rdv rfl (hv.rd HSM.out) (k * 2) rfl 2 _ Try.underlying63 rfl infoTm (by decide) #[.int .u64 (x1 : Nat), .int .i64 x2] HK.out rfl ?_)
                    | ((with_reducible refine at_alloc (T := 63) (dst := some 6) ?_); refine wl_newb rfl #[.int .u64 0, .int .i64 0] 63 (fun _ => rfl) ?_; intro b6 w2 hm2; replace hv := hv.madeAt hm2; clear hm2)
                    | ((with_reducible refine at_store (T := 63) ?_); refine wl_stv rfl b6 rfl _ rfl _ (hv.vars.row (by first | exact .head _ | exact .tail _ (.head _) | exact .tail _ (.tail _ (.head _)) | exact .tail _ (.tail _ (.tail _ (.head _))) | exact .tail _ (.tail _ (.tail _ (.tail _ (.head _)))) | exact .tail _ (.tail _ (.tail _ (.tail _ (.tail _ (.head _))))) | exact .tail _ (.tail _ (.tail _ (.tail _ (.tail _ (.tail _ (.head _)))))) | exact .tail _ (.tail _ (.tail _ (.tail _ (.tail _ (.tail _ (.tail _ (.head _))))))))) (hv.vars.sft (by first | exact .head _ | exact .tail _ (.head _) | exact .tail _ (.tail _ (.head _)) | exact .tail _ (.tail _ (.tail _ (.head _))) | exact .tail _ (.tail _ (.tail _ (.tail _ (.head _)))) | exact .tail _ (.tail _ (.tail _ (.tail _ (.tail _ (.head _))))) | exact .tail _ (.tail _ (.tail _ (.tail _ (.tail _ (.tail _ (.head _)))))) | exact .tail _ (.tail _ (.tail _ (.tail _ (.tail _ (.tail _ (.tail _ (.head _))))))))) 2 infoTm rfl rfl (by simp [Value.oneCell']) ?_; intro w2 hw2; (first | (replace hv := hv.set 0 rfl hw2) | (replace hv := hv.set 1 rfl hw2) | (replace hv := hv.set 2 rfl hw2) | (replace hv := hv.set 3 rfl hw2)); clear hw2; simp only [List.set] at hv))
                  have HPS := Lib.hid (Any.rd_start hv HSM.out)
                  simp only [Act.put, List.setIfInBounds_toArray, List.set_cons_succ, List.set_cons_zero]
                  refine Any.wp_region_walk [⟨[], none⟩, ⟨[1000], none⟩, ⟨[], none⟩, ⟨[], none⟩, ⟨[], none⟩, ⟨[], none⟩, ⟨[], none⟩, ⟨[], none⟩, ⟨[1000], none⟩, ⟨[], none⟩, ⟨[1001], none⟩, ⟨[], none⟩, ⟨[], none⟩, ⟨[], none⟩, ⟨[], none⟩, ⟨[1000], none⟩, ⟨[], none⟩, ⟨[], none⟩, ⟨[], none⟩, ⟨[], none⟩, ⟨[], none⟩, ⟨[], none⟩, ⟨[], none⟩, ⟨[], none⟩, ⟨[], none⟩, ⟨[1001], none⟩, ⟨[], none⟩, ⟨[], none⟩, ⟨[], none⟩, ⟨[], none⟩, ⟨[1000], none⟩, ⟨[], none⟩, ⟨[], none⟩, ⟨[], none⟩, ⟨[], none⟩] [.val, .val, .val, .val, .val, .val, .val, .val, .val, .val, .val, .val, .val, .val, .val, .val, .val, .val, .val, .val, .val, .val, .val, .val, .val, .val, .val, .val, .val, .val, .val, .val, .val, .val, .val] (by kernel_rfl) (by kernel_rfl) hv.vars ?_
                  simp only [List.length_cons, List.length_nil, Nat.zero_add, Any.someVals]
                  iterate 35 apply Exists.intro
                  repeat (first
                    | (refine Any.E_off rfl ?_; simp only [Act.put, List.setIfInBounds_toArray, List.set_cons_succ, List.set_cons_zero])
                    | (apply Any.E_pureq rfl rfl rfl
                       case h => intro K hK; go_big_quiet_op; (refine hK _ ?_; rfl)
                       case hr => exact fun _ => rfl
                       simp only [Act.put, List.setIfInBounds_toArray, List.set_cons_succ, List.set_cons_zero])
                    | (apply Any.E_val rfl rfl rfl rfl
                       case h =>
                         intro E' hA K hK
                         first
                           | ((with_reducible refine Any.at_qload (T := 22) ?_); refine Any.q_ldc 1000 hA (by decide) rfl rfl _ Try.underlying22 rfl (.int .u64 (x1 : Nat)) HX0.out ?_; refine hK _ ?_; rfl)
                           | ((with_reducible refine Any.at_qload (T := 22) ?_); refine Any.q_ldc 1001 hA (by decide) rfl rfl _ Try.underlying22 rfl (.int .u64 (now : Nat)) HNOW.out ?_; refine hK _ ?_; rfl)
                           | ((with_reducible refine Any.at_qload (T := 23) ?_); refine Any.q_ldc 1001 hA (by decide) rfl rfl _ Try.underlying23 rfl (.slice (some ⟨sb, so, none⟩) sn sc) HG.out ?_; refine hK _ ?_; rfl)
                           | ((with_reducible refine Any.at_qload (T := 63) ?_); refine Any.q_rdv HPS.out ((k - 1) * 2) rfl 2 _ Try.underlying63 rfl infoTm (by decide) #[.int .u64 (q1 : Nat), .int .i64 q2] HQ.out rfl ?_; refine hK _ ?_; rfl)
                           | ((with_reducible refine Any.at_qload (T := 63) ?_); refine Any.q_ldv 1000 hA (by decide) rfl rfl 2 _ Try.underlying63 rfl infoTm (by decide) rfl ?_; refine hK _ ?_; rfl)
                           | (go_big_quiet_op; first
                             | (refine hK _ ?_; rfl)
                             | (refine ⟨_, fun _ _ => rfl, ?_⟩; refine hK _ ?_; rfl)
                             | (apply Exists.intro; refine ⟨fun w1 hw1 => ?_, ?_⟩; · (first
                                 | (go_at_call 22; exact Any.calls_VE (kA _) hw1))
                                refine hK _ ?_; rfl))
                       case hD => rfl
                       simp only [Act.put, List.setIfInBounds_toArray, List.set_cons_succ, List.set_cons_zero])
                    | ((with_reducible refine Any.at_ealloc ?_); refine Any.E_lay rfl rfl rfl (fun _ => rfl) ?_; intro B; simp only [Act.put, List.setIfInBounds_toArray, List.set_cons_succ, List.set_cons_zero]))
                  try any_goals exact undef
                  refine Any.E_nil ?_
                  intro w9 hE9
                  replace hv : Mem w w9 [(b6, #[.int .u64 (x1 : Nat), .int .i64 x2]), (b1, (rowW now sv))] _ := hE9.mem hv [1000, 1001] (by decide)
                  clear hE9
                  go_wp2
                  go_ret
                  exact ⟨congrArg (fun b => Ending.returned (.bool b)) HO2.out, hv.below⟩

              · skip
                have HO2 : Hid (false = c) := Lib.hid (by
                  have := HO.out
                  rw [slotB_at HX.out] at this
                  unfold tmB at this
                  simp only [] at this
                  rw [decide_eq_false (p := x1 % 8 = i) (by omega)] at this
                  simpa using this)
                have ya : ((x1 : Int) % 8 != (i : Int)) = true := by rw [bne_iff_ne]; omega
                clear HO ha
                go_wp2_with (first
                  | ((with_reducible refine at_load (T := 23) ?_); refine wl_ldc rfl b1 (1 + i) rfl _ (hv.vars.row (by first | exact .head _ | exact .tail _ (.head _) | exact .tail _ (.tail _ (.head _)) | exact .tail _ (.tail _ (.tail _ (.head _))) | exact .tail _ (.tail _ (.tail _ (.tail _ (.head _)))) | exact .tail _ (.tail _ (.tail _ (.tail _ (.tail _ (.head _))))) | exact .tail _ (.tail _ (.tail _ (.tail _ (.tail _ (.tail _ (.head _)))))) | exact .tail _ (.tail _ (.tail _ (.tail _ (.tail _ (.tail _ (.tail _ (.head _))))))))) _ Try.underlying23 rfl (.slice (some ⟨sb, so, none⟩) sn sc) HG.out ?_)
                  | ((with_reducible refine at_load (T := 63) ?_); refine wl_rdv rfl (hv.rd HSM.out) (k * 2) rfl 2 _ Try.underlying63 rfl infoTm (by decide) #[.int .u64 (x1 : Nat), .int .i64 x2] HK.out rfl ?_)
                  | ((with_reducible refine at_alloc (T := 63) (dst := some 6) ?_); refine wl_newb rfl #[.int .u64 0, .int .i64 0] 63 (fun _ => rfl) ?_; intro b6 w2 hm2; replace hv := hv.madeAt hm2; clear hm2)
                  | ((with_reducible refine at_store (T := 63) ?_); refine wl_stv rfl b6 rfl _ rfl _ (hv.vars.row (by first | exact .head _ | exact .tail _ (.head _) | exact .tail _ (.tail _ (.head _)) | exact .tail _ (.tail _ (.tail _ (.head _))) | exact .tail _ (.tail _ (.tail _ (.tail _ (.head _)))) | exact .tail _ (.tail _ (.tail _ (.tail _ (.tail _ (.head _))))) | exact .tail _ (.tail _ (.tail _ (.tail _ (.tail _ (.tail _ (.head _)))))) | exact .tail _ (.tail _ (.tail _ (.tail _ (.tail _ (.tail _ (.tail _ (.head _))))))))) (hv.vars.sft (by first | exact .head _ | exact .tail _ (.head _) | exact .tail _ (.tail _ (.head _)) | exact .tail _ (.tail _ (.tail _ (.head _))) | exact .tail _ (.tail _ (.tail _ (.tail _ (.head _)))) | exact .tail _ (.tail _ (.tail _ (.tail _ (.tail _ (.head _))))) | exact .tail _ (.tail _ (.tail _ (.tail _ (.tail _ (.tail _ (.head _)))))) | exact .tail _ (.tail _ (.tail _ (.tail _ (.tail _ (.tail _ (.tail _ (.head _))))))))) 2 infoTm rfl rfl (by simp [Value.oneCell']) ?_; intro w2 hw2; (first | (replace hv := hv.set 0 rfl hw2) | (replace hv := hv.set 1 rfl hw2) | (replace hv := hv.set 2 rfl hw2) | (replace hv := hv.set 3 rfl hw2)); clear hw2; simp only [List.set] at hv))
                have HPS := Lib.hid (Any.rd_start hv HSM.out)
                simp only [Act.put, List.setIfInBounds_toArray, List.set_cons_succ, List.set_cons_zero]
                refine Any.wp_region_walk [⟨[], none⟩, ⟨[1000], none⟩, ⟨[], none⟩, ⟨[], none⟩, ⟨[], none⟩, ⟨[], none⟩, ⟨[], none⟩, ⟨[], none⟩, ⟨[1000], none⟩, ⟨[], none⟩, ⟨[1001], none⟩, ⟨[], none⟩, ⟨[], none⟩, ⟨[], none⟩, ⟨[], none⟩, ⟨[1000], none⟩, ⟨[], none⟩, ⟨[], none⟩, ⟨[], none⟩, ⟨[], none⟩, ⟨[], none⟩, ⟨[], none⟩, ⟨[], none⟩, ⟨[], none⟩, ⟨[], none⟩, ⟨[1001], none⟩, ⟨[], none⟩, ⟨[], none⟩, ⟨[], none⟩, ⟨[], none⟩, ⟨[1000], none⟩, ⟨[], none⟩, ⟨[], none⟩, ⟨[], none⟩, ⟨[], none⟩] [.val, .val, .val, .val, .val, .val, .val, .val, .val, .val, .val, .val, .val, .val, .val, .val, .val, .val, .val, .val, .val, .val, .val, .val, .val, .val, .val, .val, .val, .val, .val, .val, .val, .val, .val] (by kernel_rfl) (by kernel_rfl) hv.vars ?_
                simp only [List.length_cons, List.length_nil, Nat.zero_add, Any.someVals]
                iterate 35 apply Exists.intro
                repeat (first
                  | (refine Any.E_off rfl ?_; simp only [Act.put, List.setIfInBounds_toArray, List.set_cons_succ, List.set_cons_zero])
                  | (apply Any.E_pureq rfl rfl rfl
                     case h => intro K hK; go_big_quiet_op; (refine hK _ ?_; rfl)
                     case hr => exact fun _ => rfl
                     simp only [Act.put, List.setIfInBounds_toArray, List.set_cons_succ, List.set_cons_zero])
                  | (apply Any.E_val rfl rfl rfl rfl
                     case h =>
                       intro E' hA K hK
                       first
                         | ((with_reducible refine Any.at_qload (T := 22) ?_); refine Any.q_ldc 1000 hA (by decide) rfl rfl _ Try.underlying22 rfl (.int .u64 (x1 : Nat)) HX0.out ?_; refine hK _ ?_; rfl)
                         | ((with_reducible refine Any.at_qload (T := 22) ?_); refine Any.q_ldc 1001 hA (by decide) rfl rfl _ Try.underlying22 rfl (.int .u64 (now : Nat)) HNOW.out ?_; refine hK _ ?_; rfl)
                         | ((with_reducible refine Any.at_qload (T := 23) ?_); refine Any.q_ldc 1001 hA (by decide) rfl rfl _ Try.underlying23 rfl (.slice (some ⟨sb, so, none⟩) sn sc) HG.out ?_; refine hK _ ?_; rfl)
                         | ((with_reducible refine Any.at_qload (T := 63) ?_); refine Any.q_rdv HPS.out ((k - 1) * 2) rfl 2 _ Try.underlying63 rfl infoTm (by decide) #[.int .u64 (q1 : Nat), .int .i64 q2] HQ.out rfl ?_; refine hK _ ?_; rfl)
                         | ((with_reducible refine Any.at_qload (T := 63) ?_); refine Any.q_ldv 1000 hA (by decide) rfl rfl 2 _ Try.underlying63 rfl infoTm (by decide) rfl ?_; refine hK _ ?_; rfl)
                         | (go_big_quiet_op; first
                           | (refine hK _ ?_; rfl)
                           | (refine ⟨_, fun _ _ => rfl, ?_⟩; refine hK _ ?_; rfl)
                           | (apply Exists.intro; refine ⟨fun w1 hw1 => ?_, ?_⟩; · (first
                               | (go_at_call 22; exact Any.calls_VE (kA _) hw1))
                              refine hK _ ?_; rfl))
                     case hD => rfl
                     simp only [Act.put, List.setIfInBounds_toArray, List.set_cons_succ, List.set_cons_zero])
                  | ((with_reducible refine Any.at_ealloc ?_); refine Any.E_lay rfl rfl rfl (fun _ => rfl) ?_; intro B; simp only [Act.put, List.setIfInBounds_toArray, List.set_cons_succ, List.set_cons_zero]))
                try any_goals exact undef
                refine Any.E_nil ?_
                intro w9 hE9
                replace hv : Mem w w9 [(b6, #[.int .u64 (x1 : Nat), .int .i64 x2]), (b1, (rowW now sv))] _ := hE9.mem hv [1000, 1001] (by decide)
                clear hE9
                go_wp2
                go_ret
                exact ⟨congrArg (fun b => Ending.returned (.bool b)) HO2.out, hv.below⟩

            · have c1 : ¬ (k : Int) < (sn : Int) := by omega
              have HO2 : Hid ((slotsB now (i + 1) (S.drop (i + 1)) && idsB S.flatten) = c) := Lib.hid (by
                have := HO.out
                rw [slotB_end (by rw [HLN.out]; omega)] at this
                simpa using this)
              clear HO hk hk0
              go_wp2_with (first
                | ((with_reducible refine at_load (T := 23) ?_); refine wl_ldc rfl b1 (1 + i) rfl _ (hv.vars.row (by first | exact .head _ | exact .tail _ (.head _) | exact .tail _ (.tail _ (.head _)) | exact .tail _ (.tail _ (.tail _ (.head _))) | exact .tail _ (.tail _ (.tail _ (.tail _ (.head _)))) | exact .tail _ (.tail _ (.tail _ (.tail _ (.tail _ (.head _))))) | exact .tail _ (.tail _ (.tail _ (.tail _ (.tail _ (.tail _ (.head _)))))) | exact .tail _ (.tail _ (.tail _ (.tail _ (.tail _ (.tail _ (.tail _ (.head _))))))))) _ Try.underlying23 rfl (.slice sa sn sc) HG.out ?_))
              have hin := HK0.out
              go_roundw
              case rel => exact ⟨i + 1, by omega, by go_num, hv, HO2⟩
              case measure => simp [intOf]; omega
        · have hki : ¬ (i : Int) < 8 := by omega
          have HO2 : Hid (idsB S.flatten = c) := Lib.hid (by
            have := HO.out
            rw [List.drop_eq_nil_of_le (by rw [HI.out.2.1]; omega)] at this
            simpa [slotsB] using this)
          clear hi hi0 HO
          go_wp2
          go_loopw [7] (fun iv wr => ∃ i : Nat, i ≤ an ∧ iv = .int .i64 (i : Nat) ∧ Mem w wr [(b1, (rowW now sv))] R ∧ Hid (∀ (j' i' : Nat) (x y : Tm), S.flatten[j']? = some x → S.flatten[i']? = some y → j' < i' → i' < i → x.2 ≠ y.2)) (fun iv _ => an - (intOf iv).toNat)
          case atStart => exact ⟨0, Nat.zero_le _, rfl, hv, Lib.hid (fun _ _ _ _ _ _ _ h => (Nat.not_lt_zero _ h).elim)⟩
          case round =>
            clear hv
            obtain ⟨i, hi0, rfl, hv, HO⟩ := hrel
            by_cases hi : i < an
            · have hki : (i : Int) < (an : Int) := by omega
              have hkb0 : (i : Int) ≤ 1000 := by have := HAN.out; have := HFN.out; omega
              have hil : i < S.flatten.length := by rw [HAN.out]; exact hi
              obtain ⟨⟨z1, xi⟩, hz⟩ : ∃ x, S.flatten[i] = x := ⟨_, rfl⟩
              have HZ : Hid (S.flatten[i]? = some (z1, xi)) := Lib.hid (by rw [List.getElem?_eq_getElem hil, hz])
              have HXI : Hid ((cellsT S.flatten)[i * 2 + 1]? = some (.int .i64 xi)) := Lib.hid (by
                have := get_flat (k := 2) (en := encT) (fun _ => rfl) S.flatten i 1 (by omega)
                rw [HZ.out] at this; exact this)
              obtain ⟨fb, fo, _, _, e, hq8⟩ := (hv.rd HMF.out).some (by rw [cellsT_len]; omega)
              clear hq8
              cases e
              have HIN := Lib.hid hi
              clear hil hz hi0 hi
              go_wp2
              go_loopw [8] (fun kv wr => ∃ k : Nat, k ≤ i ∧ kv = .int .i64 (k : Nat) ∧ Mem w wr [(b1, (rowW now sv))] R ∧ Hid (∀ (j' : Nat) (x : Tm), j' < k → S.flatten[j']? = some x → x.2 ≠ xi)) (fun kv _ => i - (intOf kv).toNat)
              case atStart => exact ⟨0, Nat.zero_le _, rfl, hv, Lib.hid (fun _ _ h => (Nat.not_lt_zero _ h).elim)⟩
              case round =>
                clear hv
                obtain ⟨k, hk0, rfl, hv, HK⟩ := hrel
                by_cases hk : k < i
                · have c1 : (k : Int) < (i : Int) := by omega
                  have c2 : (k : Int) < (an : Int) := by omega
                  have hkb : (k : Int) ≤ 1000 := by omega
                  have hkl : k < S.flatten.length := by rw [HAN.out]; have := HIN.out; omega
                  obtain ⟨⟨y1', xk⟩, hz⟩ : ∃ x, S.flatten[k] = x := ⟨_, rfl⟩
                  have HY : Hid (S.flatten[k]? = some (y1', xk)) := Lib.hid (by rw [List.getElem?_eq_getElem hkl, hz])
                  have HXK : Hid ((cellsT S.flatten)[k * 2 + 1]? = some (.int .i64 xk)) := Lib.hid (by
                    have := get_flat (k := 2) (en := encT) (fun _ => rfl) S.flatten k 1 (by omega)
                    rw [HY.out] at this; exact this)
                  have HPL := Lib.hid (Any.rd_start hv HMF.out)
                  have HKN := Lib.hid hk
                  clear hkl hz hk0 hk
                  by_cases he : xk = xi
                  · have ye : (xk == xi) = true := by rw [beq_iff_eq]; exact he
                    have HO3 : Hid (false = c) := Lib.hid (by rw [← HO2.out]; exact (idsB_bad HY.out HZ.out HKN.out he).symm)
                    clear he
                    go_wp2
                    refine Any.wp_region_walk [⟨[], none⟩, ⟨[], none⟩, ⟨[], none⟩, ⟨[], none⟩, ⟨[], none⟩, ⟨[], none⟩, ⟨[], none⟩, ⟨[], none⟩, ⟨[], none⟩, ⟨[], none⟩, ⟨[], none⟩] [.val, .val, .val, .val, .val, .val, .val, .val, .val, .val, .val] (by kernel_rfl) (by kernel_rfl) hv.vars ?_
                    simp only [List.length_cons, List.length_nil, Nat.zero_add, Any.someVals]
                    iterate 11 apply Exists.intro
                    repeat (first
                      | (refine Any.E_off rfl ?_; simp only [Act.put, List.setIfInBounds_toArray, List.set_cons_succ, List.set_cons_zero])
                      | (apply Any.E_pureq rfl rfl rfl
                         case h => intro K hK; go_big_quiet_op; (refine hK _ ?_; rfl)
                         case hr => exact fun _ => rfl
                         simp only [Act.put, List.setIfInBounds_toArray, List.set_cons_succ, List.set_cons_zero])
                      | (apply Any.E_val rfl rfl rfl rfl
                         case h =>
                           intro E' hA K hK
                           first
                             | ((with_reducible refine Any.at_qload (T := 3) ?_); refine Any.q_rd HPL.out (k * 2 + 1) rfl _ Try.underlying3 rfl (.int .i64 xk) HXK.out ?_; refine hK _ ?_; rfl)
                             | ((with_reducible refine Any.at_qload (T := 3) ?_); refine Any.q_rd HPL.out (i * 2 + 1) rfl _ Try.underlying3 rfl (.int .i64 xi) HXI.out ?_; refine hK _ ?_; rfl)
                             | (go_big_quiet_op; first
                               | (refine hK _ ?_; rfl)
                               | (refine ⟨_, fun _ _ => rfl, ?_⟩; refine hK _ ?_; rfl)
                               | (apply Exists.intro; refine ⟨fun w1 hw1 => ?_, ?_⟩; · (first
                                   | fail)
                                  refine hK _ ?_; rfl))
                         case hD => rfl
                         simp only [Act.put, List.setIfInBounds_toArray, List.set_cons_succ, List.set_cons_zero])
                      | ((with_reducible refine Any.at_ealloc ?_); refine Any.E_lay rfl rfl rfl (fun _ => rfl) ?_; intro B; simp only [Act.put, List.setIfInBounds_toArray, List.set_cons_succ, List.set_cons_zero]))
                    try any_goals exact undef
                    refine Any.E_nil ?_
                    intro w9 hE9
                    replace hv : Mem w w9 [(b1, (rowW now sv))] _ := hE9.mem hv [1000] (by decide)
                    clear hE9
                    go_wp2
                    go_ret
                    exact ⟨congrArg (fun b => Ending.returned (.bool b)) HO3.out, hv.below⟩
                  · have ye : (xk == xi) = false := by rw [beq_eq_false_iff_ne]; exact he
                    have HE := Lib.hid he
                    clear he
                    go_wp2
                    refine Any.wp_region_walk [⟨[], none⟩, ⟨[], none⟩, ⟨[], none⟩, ⟨[], none⟩, ⟨[], none⟩, ⟨[], none⟩, ⟨[], none⟩, ⟨[], none⟩, ⟨[], none⟩, ⟨[], none⟩, ⟨[], none⟩] [.val, .val, .val, .val, .val, .val, .val, .val, .val, .val, .val] (by kernel_rfl) (by kernel_rfl) hv.vars ?_
                    simp only [List.length_cons, List.length_nil, Nat.zero_add, Any.someVals]
                    iterate 11 apply Exists.intro
                    repeat (first
                      | (refine Any.E_off rfl ?_; simp only [Act.put, List.setIfInBounds_toArray, List.set_cons_succ, List.set_cons_zero])
                      | (apply Any.E_pureq rfl rfl rfl
                         case h => intro K hK; go_big_quiet_op; (refine hK _ ?_; rfl)
                         case hr => exact fun _ => rfl
                         simp only [Act.put, List.setIfInBounds_toArray, List.set_cons_succ, List.set_cons_zero])
                      | (apply Any.E_val rfl rfl rfl rfl
                         case h =>
                           intro E' hA K hK
                           first
                             | ((with_reducible refine Any.at_qload (T := 3) ?_); refine Any.q_rd HPL.out (k * 2 + 1) rfl _ Try.underlying3 rfl (.int .i64 xk) HXK.out ?_; refine hK _ ?_; rfl)
                             | ((with_reducible refine Any.at_qload (T := 3) ?_); refine Any.q_rd HPL.out (i * 2 + 1) rfl _ Try.underlying3 rfl (.int .i64 xi) HXI.out ?_; refine hK _ ?_; rfl)
                             | (go_big_quiet_op; first
                               | (refine hK _ ?_; rfl)
                               | (refine ⟨_, fun _ _ => rfl, ?_⟩; refine hK _ ?_; rfl)
                               | (apply Exists.intro; refine ⟨fun w1 hw1 => ?_, ?_⟩; · (first
                                   | fail)
                                  refine hK _ ?_; rfl))
                         case hD => rfl
                         simp only [Act.put, List.setIfInBounds_toArray, List.set_cons_succ, List.set_cons_zero])
                      | ((with_reducible refine Any.at_ealloc ?_); refine Any.E_lay rfl rfl rfl (fun _ => rfl) ?_; intro B; simp only [Act.put, List.setIfInBounds_toArray, List.set_cons_succ, List.set_cons_zero]))
                    try any_goals exact undef
                    refine Any.E_nil ?_
                    intro w9 hE9
                    replace hv : Mem w w9 [(b1, (rowW now sv))] _ := hE9.mem hv [1000] (by decide)
                    clear hE9
                    go_wp2
                    have hkn := HKN.out
                    go_roundw
                    case rel => exact ⟨k + 1, by omega, by go_num, hv, Lib.hid (fun j' x hj hx => by
                      rcases Nat.lt_succ_iff_lt_or_eq.1 hj with hj | rfl
                      · exact HK.out j' x hj hx
                      · rw [HY.out] at hx; cases hx; exact HE.out)⟩
                    case measure => simp [intOf]; omega
                · have c1 : ¬ (k : Int) < (i : Int) := by omega
                  obtain rfl : k = i := by omega
                  clear hk hk0
                  go_wp2
                  have hin := HIN.out
                  go_roundw
                  case rel => exact ⟨k + 1, by omega, by go_num, hv, Lib.hid (fun j' i' x y hj hy h1 h2 => by
                    rcases Nat.lt_succ_iff_lt_or_eq.1 h2 with h2 | rfl
                    · exact HO.out j' i' x y hj hy h1 h2
                    · rw [HZ.out] at hy; cases hy; exact HK.out j' x h1 hj)⟩
                  case measure => simp [intOf]; omega
            · have hki : ¬ (i : Int) < (an : Int) := by omega
              obtain rfl : i = an := by omega
              have HO3 : Hid (true = c) := Lib.hid (by
                rw [← HO2.out]
                refine (idsB_good fun j i' x y hj hy h => HO.out j i' x y hj hy h ?_).symm
                have := (List.getElem?_eq_some_iff.1 hy).1
                rw [HAN.out] at this; exact this)
              clear hi hi0
              go_wp2
              go_ret
              exact ⟨congrArg (fun b => Ending.returned (.bool b)) HO3.out, hv.below⟩
end Go.Proofs.Ytfblognifnnadaa
