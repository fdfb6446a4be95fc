/-
  fresh: the loop.
-/
import Derived.Test.YtpbeemgigpaacaaWiFresh
set_option linter.unusedVariables false
set_option linter.unusedSimpArgs false
namespace Go.Proofs.Ytpbeemgigpaacaa
open Go.Proofs.Wi Go.RowKit
/-- What fresh answers. -/
def FreshR (w0 : World) (L : List (Nat × Array Value)) (R : List (Nat × Value × List Value)) (m : Nat) (c : List Sp) (e : Ending) (w' : World) : Prop :=
  ∃ ao n cap S R', e = .returned (.slice ao n cap) ∧ Mem w0 w' L ((2, .slice ao n cap, cellsS S) :: (R' ++ R)) ∧ spOf S = c ∧ AllS (R' ++ R) S ∧ S.length ≤ m
theorem perm3 {α : Type} (b c d : α) (O L : List α) : (b :: c :: d :: (O ++ L)).Perm (b :: c :: d :: (O ++ L)) := List.Perm.refl _
set_option maxRecDepth 100000 in
set_option maxHeartbeats 8000000 in
theorem fresh_any (x : Int) (da : Option Addr) (dn dc : Nat) (d : List Nat) (ha : Option Addr) (hn hc : Nat) (H : List SpV) (w0 w : World) (L : List (Nat × Array Value)) (R : List (Nat × Value × List Value)) (hv0 : Mem w0 w L R) (hd : (1, .slice da dn dc, cellsB d) ∈ R) (hh : (2, .slice ha hn hc, cellsS H) ∈ R) (hal : AllS R H) (hHl : hn ≤ 1000) (hb : ∀ p ∈ H, -1000000000000 ≤ p.1 ∧ p.1 ≤ 900000000000 ∧ p.2.2.length ≤ 1000000) (hx1 : -1000000000000 ≤ x) (hx2 : x ≤ 900000000000) (hdn : dn ≤ 1000000) :
    Calls Try.prog 24 #[.agg #[.int .i64 x, .slice da dn dc], .slice ha hn hc] w (FreshR w0 L R (hn + 1) (fresh (x, d) x (spOf H))) := by
  have hv := hv0
  have HD := Lib.hid hd
  have HH := Lib.hid hh
  have HAL := Lib.hid hal
  have HB := Lib.hid hb
  have HLN := Lib.hid (len_rdS (hv0.rd hh))
  have HDN := Lib.hid (len_rd1 (hv0.rd hd))
  have HX : Hid (-1000000000000 ≤ x ∧ x ≤ 1000000000000 ∧ dn ≤ 1000000) := Lib.hid ⟨hx1, by omega, hdn⟩
  have kE := fun w' => end_any x da dn dc (by omega) (by omega) hdn w'
  obtain ⟨c, hc0⟩ : ∃ c, fresh (x, d) x (spOf H) = c := ⟨_, rfl⟩
  rw [hc0]
  have HC := Lib.hid hc0
  clear hv0 hd hh hal hb hdn hc0
  go_enter Try.func24, Try.ntmps24
  go_wp2_with (first
    | ((with_reducible refine at_box (T := 51) (dst := some 2) ?_); refine wl_newb rfl #[.int .i64 x, .slice da dn dc] 51 (fun _ => rfl) ?_; intro b2 w2 hm2; replace hv := hv.madeAt hm2; clear hm2)
    | ((with_reducible refine at_alloc (T := 47) (dst := some 5) ?_); refine wl_newb rfl #[.slice none 0 0] 47 (fun _ => rfl) ?_; intro b5 w2 hm2; replace hv := hv.madeAt hm2; clear hm2)
    | ((with_reducible refine at_alloc (T := 3) (dst := some 6) ?_); refine wl_newb rfl #[.int .i64 0] 3 (fun _ => rfl) ?_; intro b6 w2 hm2; replace hv := hv.madeAt hm2; clear hm2)
    | ((with_reducible refine at_load (T := 3) ?_); refine wl_ldc rfl b2 0 rfl _ (hv.vars.row (by first | exact .head _ | exact .tail _ (.head _) | exact .tail _ (.tail _ (.head _)) | exact .tail _ (.tail _ (.tail _ (.head _))) | exact .tail _ (.tail _ (.tail _ (.tail _ (.head _)))) | exact .tail _ (.tail _ (.tail _ (.tail _ (.tail _ (.head _))))) | exact .tail _ (.tail _ (.tail _ (.tail _ (.tail _ (.tail _ (.head _)))))) | exact .tail _ (.tail _ (.tail _ (.tail _ (.tail _ (.tail _ (.tail _ (.head _))))))))) _ Try.underlying3 rfl _ rfl ?_)
    | ((with_reducible refine at_store (T := 3) ?_); refine wl_stc rfl b6 0 rfl (.int .i64 x) rfl _ (hv.vars.row (by first | exact .head _ | exact .tail _ (.head _) | exact .tail _ (.tail _ (.head _)) | exact .tail _ (.tail _ (.tail _ (.head _))) | exact .tail _ (.tail _ (.tail _ (.tail _ (.head _)))) | exact .tail _ (.tail _ (.tail _ (.tail _ (.tail _ (.head _))))) | exact .tail _ (.tail _ (.tail _ (.tail _ (.tail _ (.tail _ (.head _)))))) | exact .tail _ (.tail _ (.tail _ (.tail _ (.tail _ (.tail _ (.tail _ (.head _))))))))) (hv.vars.sft (by first | exact .head _ | exact .tail _ (.head _) | exact .tail _ (.tail _ (.head _)) | exact .tail _ (.tail _ (.tail _ (.head _))) | exact .tail _ (.tail _ (.tail _ (.tail _ (.head _)))) | exact .tail _ (.tail _ (.tail _ (.tail _ (.tail _ (.head _))))) | exact .tail _ (.tail _ (.tail _ (.tail _ (.tail _ (.tail _ (.head _)))))) | exact .tail _ (.tail _ (.tail _ (.tail _ (.tail _ (.tail _ (.tail _ (.head _))))))))) (by kernel_rfl) rfl (by simp) ?_; intro w2 hw2; (first | (replace hv := hv.set 0 rfl hw2) | (replace hv := hv.set 1 rfl hw2) | (replace hv := hv.set 2 rfl hw2) | (replace hv := hv.set 3 rfl hw2)); clear hw2; simp only [List.set] at hv; simp only [List.setIfInBounds_toArray, List.set_cons_succ, List.set_cons_zero] at hv))
  go_loopw [15] (fun i wr => ∃ (k : Nat) (fr : Int) (v : Value) (O : List (Nat × Array Value)) (S : List SpV) (R' : List (Nat × Value × List Value)), k ≤ hn ∧ i = .int .i64 (k : Nat) ∧ Mem w0 wr ((b6, #[.int .i64 fr]) :: (b5, #[v]) :: (b2, #[.int .i64 x, .slice da dn dc]) :: (O ++ L)) (R' ++ R) ∧ Hid (OwnL 2 v (cellsS S) O) ∧ Hid (AllS (R' ++ R) S) ∧ Hid (S.length ≤ k) ∧ Hid (spOf S ++ fresh (x, d) fr (spOf (H.drop k)) = c) ∧ Hid (-1000000000000 ≤ fr ∧ fr ≤ 1000000000000)) (fun i _ => hn - (intOf i).toNat)
  case atStart => exact ⟨0, x, _, [], [], [], Nat.zero_le _, rfl, hv, Lib.hid (OwnL.nil 2), Lib.hid (fun p hp => (List.not_mem_nil hp).elim), Lib.hid (Nat.zero_le _), Lib.hid HC.out, Lib.hid ⟨hx1, by omega⟩⟩
  case round =>
    clear hv
    obtain ⟨k, fr, v, O, S, R', hk, rfl, hv, HO, HAS, HSK, HEQ, HFR⟩ := hrel
    obtain ⟨va, vn, vc, rfl, _⟩ := id HO.out.slice
    have HS5 : Hid (S.length ≤ 5000) := Lib.hid (by have := HSK.out; omega)
    have HDR : Hid ((1, .slice da dn dc, cellsB d) ∈ R' ++ R) := Lib.hid (List.mem_append_right _ HD.out)
    have HHR : Hid ((2, .slice ha hn hc, cellsS H) ∈ R' ++ R) := Lib.hid (List.mem_append_right _ HH.out)
    by_cases hk2 : k < hn
    · have hki : (k : Int) < (hn : Int) := by omega
      have hkl : k < H.length := by rw [HLN.out]; exact hk2
      obtain ⟨⟨hx, dv, ed⟩, hxe⟩ : ∃ z, H[k] = z := ⟨_, rfl⟩
      have hdm := HAL.out H[k] (List.getElem_mem hkl)
      have hbm := HB.out H[k] (List.getElem_mem hkl)
      rw [hxe] at hdm hbm
      simp only at hdm hbm
      obtain ⟨ea, en, ec, rfl, _⟩ := id (hv.rd (List.mem_append_right _ hdm))
      have hen : ed.length = en := len_rd1 (hv.rd (List.mem_append_right _ hdm))
      have HK : Hid (((cellsS H).drop (k * 2)).take 2 = [.int .i64 hx, .slice ea en ec]) := Lib.hid (by rw [cellsS_part H k hkl, hxe])
      have HDK := Lib.hid (spOf_drop H hkl hxe)
      obtain ⟨hb1, ho1, _, _, e, _⟩ := (hv.rd HHR.out).some (by rw [cellsS_len]; omega)
      cases e
      have HTT : Hid (-1000000000000 ≤ hx ∧ hx ≤ 1000000000000) := Lib.hid ⟨hbm.1, by omega⟩
      have HEN := Lib.hid hen
      have EN1 : Hid (∀ w', Calls Try.prog 27 #[.agg #[.int .i64 hx, .slice ea en ec]] w' fun e w2 => e = .returned (.int .i64 (hx + (en : Int))) ∧ New w' w2) := Lib.hid (fun w' => end_any hx ea en ec (by omega) (by omega) (by omega) w')
      have HBE : Hid (-1000000000000 ≤ hx + (en : Int) ∧ hx + (en : Int) ≤ 1000000000000) := Lib.hid (by omega)
      have HKN : Hid (k < hn) := Lib.hid hk2
      have HKB : Hid (k ≤ 1000) := Lib.hid (by omega)
      clear hxe hdm hbm hkl hen hk2 hk
      go_wp2_with (first
        | ((with_reducible refine at_load (T := 51) ?_); refine wl_rdv rfl (hv.rd HHR.out) (k * 2) rfl 2 _ Try.underlying51 rfl infoSp (by decide) #[.int .i64 hx, .slice ea en ec] HK.out rfl ?_)
        | ((with_reducible refine at_alloc (T := 51) (dst := some 9) ?_); refine wl_newb rfl #[.int .i64 0, .slice none 0 0] 51 (fun _ => rfl) ?_; intro b9 w2 hm2; replace hv := hv.madeAt hm2; clear hm2)
        | ((with_reducible refine at_store (T := 51) ?_); refine wl_stv rfl b9 rfl _ rfl _ (hv.vars.row (by first | exact .head _ | exact .tail _ (.head _) | exact .tail _ (.tail _ (.head _)) | exact .tail _ (.tail _ (.tail _ (.head _))) | exact .tail _ (.tail _ (.tail _ (.tail _ (.head _)))) | exact .tail _ (.tail _ (.tail _ (.tail _ (.tail _ (.head _))))) | exact .tail _ (.tail _ (.tail _ (.tail _ (.tail _ (.tail _ (.head _)))))) | exact .tail _ (.tail _ (.tail _ (.tail _ (.tail _ (.tail _ (.tail _ (.head _))))))))) (hv.vars.sft (by first | exact .head _ | exact .tail _ (.head _) | exact .tail _ (.tail _ (.head _)) | exact .tail _ (.tail _ (.tail _ (.head _))) | exact .tail _ (.tail _ (.tail _ (.tail _ (.head _)))) | exact .tail _ (.tail _ (.tail _ (.tail _ (.tail _ (.head _))))) | exact .tail _ (.tail _ (.tail _ (.tail _ (.tail _ (.tail _ (.head _)))))) | exact .tail _ (.tail _ (.tail _ (.tail _ (.tail _ (.tail _ (.tail _ (.head _))))))))) 2 infoSp rfl rfl (by simp [Value.oneCell']) ?_; intro w2 hw2; (first | (replace hv := hv.set 0 rfl hw2) | (replace hv := hv.set 1 rfl hw2) | (replace hv := hv.set 2 rfl hw2) | (replace hv := hv.set 3 rfl hw2)); clear hw2; simp only [List.set] at hv)
        | ((with_reducible refine at_load (T := 3) ?_); refine wl_ldc rfl b9 0 rfl _ (hv.vars.row (by first | exact .head _ | exact .tail _ (.head _) | exact .tail _ (.tail _ (.head _)) | exact .tail _ (.tail _ (.tail _ (.head _))) | exact .tail _ (.tail _ (.tail _ (.tail _ (.head _)))) | exact .tail _ (.tail _ (.tail _ (.tail _ (.tail _ (.head _))))) | exact .tail _ (.tail _ (.tail _ (.tail _ (.tail _ (.tail _ (.head _)))))) | exact .tail _ (.tail _ (.tail _ (.tail _ (.tail _ (.tail _ (.tail _ (.head _))))))))) _ Try.underlying3 rfl _ rfl ?_)
        | (go_at_call 28; (refine (add_any x fr hx da dn dc d b6 b5 b2 (.slice va vn vc) O S w0 _ ((b9, #[.int .i64 hx, .slice ea en ec]) :: L) _ (hv.perm (perm4 _ _ _ _ O L)) HO.out HS5.out HDR.out HX.out.1 HX.out.2.1 HFR.out.1 HFR.out.2 HTT.out.1 HTT.out.2 HX.out.2.2).mono ?_); rintro e w7 ⟨v2, O2, S2, R2, rfl, hv1, hO2, hs2, ha2, hl2⟩; replace hv := hv1.perm (perm4 (b9, #[.int .i64 hx, .slice ea en ec]) _ _ _ O2 L).symm; clear hv1; obtain ⟨ua, un, uc, rfl, _⟩ := id hO2.slice; have HO2 := Lib.hid hO2; have HS2 := Lib.hid hs2; have HA2 := Lib.hid ha2; have HL2 := Lib.hid hl2; clear hO2 hs2 ha2 hl2))
      have HEQ2 : Hid (spOf (S ++ S2) ++ fresh (x, d) (max fr (hx + (en : Int))) (spOf (H.drop (k + 1))) = c) := Lib.hid (by
        have := HEQ.out
        rw [HDK.out] at this
        unfold fresh at this
        simp only [HEN.out] at this
        rw [spOf_app, HS2.out, List.append_assoc]
        exact this)
      have HAS2 : Hid (AllS ((R2 ++ R') ++ R) (S ++ S2)) := Lib.hid (fun p hp => by
        rw [List.append_assoc]
        rcases List.mem_append.1 hp with hp | hp
        · exact List.mem_append_right _ (HAS.out p hp)
        · exact HA2.out p hp)
      have HSK2 : Hid ((S ++ S2).length ≤ k + 1) := Lib.hid (by rw [List.length_append]; have := HSK.out; have := HL2.out; omega)
      rw [← List.append_assoc] at hv
      by_cases hm : fr < hx + (en : Int)
      · have hmx : max fr (hx + (en : Int)) = hx + (en : Int) := by omega
        rw [hmx] at HEQ2
        have hmg : hx + (en : Int) > fr := hm
        clear hmx
        refine Any.wp_region_walk [⟨[1001], none⟩, ⟨[1000], none⟩, ⟨[], none⟩, ⟨[], none⟩, ⟨[1001], some 1001⟩] [.val, .val, .val, .val, .put] (by kernel_rfl) (by kernel_rfl) (hv.vars.keep (List.sublist_append_left [(b9, #[.int .i64 hx, .slice ea en ec]), (b6, #[.int .i64 fr]), (b5, #[.slice ua un uc]), (b2, #[.int .i64 x, .slice da dn dc])] (O2 ++ L))) ?_
        simp only [List.length_cons, List.length_nil, Nat.zero_add, Any.someVals]
        iterate 5 apply Exists.intro
        repeat (first
          | (refine Any.E_off rfl ?_; simp only [Act.put, List.setIfInBounds_toArray, List.set_cons_succ, List.set_cons_zero])
          | (apply Any.E_pureq rfl rfl rfl
             case h => intro K hK; go_big_quiet_op; (refine hK _ ?_; rfl)
             case hr => exact fun _ => rfl
             simp only [Act.put, List.setIfInBounds_toArray, List.set_cons_succ, List.set_cons_zero])
          | (apply Any.E_val rfl rfl rfl rfl
             case h =>
               intro E' hA K hK
               first
                 | ((with_reducible refine Any.at_qload (T := 3) ?_); refine Any.q_ldc 1001 hA (by decide) rfl rfl _ Try.underlying3 rfl _ rfl ?_; refine hK _ ?_; rfl)
                 | ((with_reducible refine Any.at_qload (T := 51) ?_); refine Any.q_ldv 1000 hA (by decide) rfl rfl 2 _ Try.underlying51 rfl infoSp (by decide) rfl ?_; refine hK _ ?_; rfl)
                 | (go_big_quiet_op; first
                   | (refine hK _ ?_; rfl)
                   | (refine ⟨_, fun _ _ => rfl, ?_⟩; refine hK _ ?_; rfl)
                   | (apply Exists.intro; refine ⟨fun w1 hw1 => ?_, ?_⟩; · (first
                       | (go_at_call 27; exact Any.calls_VE (EN1.out _) hw1))
                      refine hK _ ?_; rfl))
             case hD => rfl
             simp only [Act.put, List.setIfInBounds_toArray, List.set_cons_succ, List.set_cons_zero])
          | ((with_reducible refine Any.at_ealloc ?_); refine Any.E_lay rfl rfl rfl (fun _ => rfl) ?_; intro B; simp only [Act.put, List.setIfInBounds_toArray, List.set_cons_succ, List.set_cons_zero])
          | ((with_reducible refine Any.at_estore (T := 3) ?_); refine Any.E_putc (T := 3) rfl rfl rfl rfl rfl rfl (by kernel_rfl) rfl (by simp) ?_; simp only [Act.put, List.setIfInBounds_toArray, List.set_cons_succ, List.set_cons_zero]))
        try any_goals exact undef
        refine Any.E_nil ?_
        intro w9 hE9
        replace hv : Mem w0 w9 ([(b9, #[.int .i64 hx, .slice ea en ec]), (b6, #[.int .i64 (hx + (en : Int))]), (b5, #[.slice ua un uc]), (b2, #[.int .i64 x, .slice da dn dc])] ++ (O2 ++ L)) _ := hE9.memr hv [1000, 1001, 1002, 1003] (by decide)
        clear hE9
        simp only [List.cons_append, List.nil_append] at hv
        go_wp2
        have hkb := HKB.out
        go_roundw
        case rel => exact ⟨k + 1, hx + (en : Int), _, O2, S ++ S2, R2 ++ R', by have := HKN.out; omega, by go_num, hv.drop, HO2, HAS2, HSK2, HEQ2, HBE⟩
        case measure => simp [intOf]; have := HKN.out; omega
      · have hmx : max fr (hx + (en : Int)) = fr := by omega
        rw [hmx] at HEQ2
        have hmg : ¬ hx + (en : Int) > fr := by omega
        clear hmx
        refine Any.wp_region_walk [⟨[1001], none⟩, ⟨[1000], none⟩, ⟨[], none⟩, ⟨[], none⟩, ⟨[1001], some 1001⟩] [.val, .val, .val, .val, .put] (by kernel_rfl) (by kernel_rfl) (hv.vars.keep (List.sublist_append_left [(b9, #[.int .i64 hx, .slice ea en ec]), (b6, #[.int .i64 fr]), (b5, #[.slice ua un uc]), (b2, #[.int .i64 x, .slice da dn dc])] (O2 ++ L))) ?_
        simp only [List.length_cons, List.length_nil, Nat.zero_add, Any.someVals]
        iterate 5 apply Exists.intro
        repeat (first
          | (refine Any.E_off rfl ?_; simp only [Act.put, List.setIfInBounds_toArray, List.set_cons_succ, List.set_cons_zero])
          | (apply Any.E_pureq rfl rfl rfl
             case h => intro K hK; go_big_quiet_op; (refine hK _ ?_; rfl)
             case hr => exact fun _ => rfl
             simp only [Act.put, List.setIfInBounds_toArray, List.set_cons_succ, List.set_cons_zero])
          | (apply Any.E_val rfl rfl rfl rfl
             case h =>
               intro E' hA K hK
               first
                 | ((with_reducible refine Any.at_qload (T := 3) ?_); refine Any.q_ldc 1001 hA (by decide) rfl rfl _ Try.underlying3 rfl _ rfl ?_; refine hK _ ?_; rfl)
                 | ((with_reducible refine Any.at_qload (T := 51) ?_); refine Any.q_ldv 1000 hA (by decide) rfl rfl 2 _ Try.underlying51 rfl infoSp (by decide) rfl ?_; refine hK _ ?_; rfl)
                 | (go_big_quiet_op; first
                   | (refine hK _ ?_; rfl)
                   | (refine ⟨_, fun _ _ => rfl, ?_⟩; refine hK _ ?_; rfl)
                   | (apply Exists.intro; refine ⟨fun w1 hw1 => ?_, ?_⟩; · (first
                       | (go_at_call 27; exact Any.calls_VE (EN1.out _) hw1))
                      refine hK _ ?_; rfl))
             case hD => rfl
             simp only [Act.put, List.setIfInBounds_toArray, List.set_cons_succ, List.set_cons_zero])
          | ((with_reducible refine Any.at_ealloc ?_); refine Any.E_lay rfl rfl rfl (fun _ => rfl) ?_; intro B; simp only [Act.put, List.setIfInBounds_toArray, List.set_cons_succ, List.set_cons_zero])
          | ((with_reducible refine Any.at_estore (T := 3) ?_); refine Any.E_putc (T := 3) rfl rfl rfl rfl rfl rfl (by kernel_rfl) rfl (by simp) ?_; simp only [Act.put, List.setIfInBounds_toArray, List.set_cons_succ, List.set_cons_zero]))
        try any_goals exact undef
        refine Any.E_nil ?_
        intro w9 hE9
        replace hv : Mem w0 w9 ([(b9, #[.int .i64 hx, .slice ea en ec]), (b6, #[.int .i64 fr]), (b5, #[.slice ua un uc]), (b2, #[.int .i64 x, .slice da dn dc])] ++ (O2 ++ L)) _ := hE9.memr hv [1000, 1001, 1002, 1003] (by decide)
        clear hE9
        simp only [List.cons_append, List.nil_append] at hv
        go_wp2
        have hkb := HKB.out
        go_roundw
        case rel => exact ⟨k + 1, fr, _, O2, S ++ S2, R2 ++ R', by have := HKN.out; omega, by go_num, hv.drop, HO2, HAS2, HSK2, HEQ2, HFR⟩
        case measure => simp [intOf]; have := HKN.out; omega
    · have hki : ¬ (k : Int) < (hn : Int) := by omega
      have HTT : Hid (-1000000000000 ≤ x + (dn : Int) ∧ x + (dn : Int) ≤ 1000000000000) := Lib.hid (by have := HX.out.2.2; omega)
      have HDK : Hid (H.drop k = []) := Lib.hid (List.drop_eq_nil_of_le (by rw [HLN.out]; omega))
      have HSK3 : Hid (k = hn) := Lib.hid (by omega)
      clear hk hk2
      go_wp2_with (first
        | ((with_reducible refine at_load (T := 51) ?_); refine wl_ldv rfl b2 rfl _ (hv.vars.row (by first | exact .head _ | exact .tail _ (.head _) | exact .tail _ (.tail _ (.head _)) | exact .tail _ (.tail _ (.tail _ (.head _))) | exact .tail _ (.tail _ (.tail _ (.tail _ (.head _)))) | exact .tail _ (.tail _ (.tail _ (.tail _ (.tail _ (.head _))))) | exact .tail _ (.tail _ (.tail _ (.tail _ (.tail _ (.tail _ (.head _)))))) | exact .tail _ (.tail _ (.tail _ (.tail _ (.tail _ (.tail _ (.tail _ (.head _))))))))) 2 _ Try.underlying51 rfl infoSp (by decide) rfl ?_)
        | (go_at_call 27; (with_reducible refine (kE _).mono ?_); rintro e w1 ⟨rfl, hn1⟩; replace hv := hv.new hn1; clear hn1)
        | (go_at_call 28; (refine (add_any x fr (x + (dn : Int)) da dn dc d b6 b5 b2 (.slice va vn vc) O S w0 _ L _ hv HO.out HS5.out HDR.out HX.out.1 HX.out.2.1 HFR.out.1 HFR.out.2 HTT.out.1 HTT.out.2 HX.out.2.2).mono ?_); rintro e w7 ⟨v2, O2, S2, R2, rfl, hv1, hO2, hs2, ha2, hl2⟩; replace hv := hv1; clear hv1; obtain ⟨ua, un, uc, rfl, _⟩ := id hO2.slice; have HO2 := Lib.hid hO2; have HS2 := Lib.hid hs2; have HA2 := Lib.hid ha2; have HL2 := Lib.hid hl2; clear hO2 hs2 ha2 hl2)
        | ((with_reducible refine at_load (T := 47) ?_); refine wl_ldc rfl b5 0 rfl _ (hv.vars.row (by first | exact .head _ | exact .tail _ (.head _) | exact .tail _ (.tail _ (.head _)) | exact .tail _ (.tail _ (.tail _ (.head _))) | exact .tail _ (.tail _ (.tail _ (.tail _ (.head _)))) | exact .tail _ (.tail _ (.tail _ (.tail _ (.tail _ (.head _))))) | exact .tail _ (.tail _ (.tail _ (.tail _ (.tail _ (.tail _ (.head _)))))) | exact .tail _ (.tail _ (.tail _ (.tail _ (.tail _ (.tail _ (.tail _ (.head _))))))))) _ Try.underlying47 rfl _ rfl ?_))
      go_ret
      refine ⟨_, _, _, S ++ S2, R2 ++ R', rfl, ?_, ?_, ?_, ?_⟩
      · rw [List.append_assoc]
        exact HO2.out.yield (A := []) (B := L) (by rw [List.nil_append]; exact hv.drop.drop.drop)
      · have := HEQ.out
        rw [HDK.out] at this
        unfold fresh at this
        rw [spOf_app, HS2.out, ← HDN.out]
        exact this
      · intro p hp
        rw [List.append_assoc]
        rcases List.mem_append.1 hp with hp | hp
        · exact List.mem_append_right _ (HAS.out p hp)
        · exact HA2.out p hp
      · rw [List.length_append]
        have := HSK.out
        have := HL2.out
        have := HSK3.out
        omega
end Go.Proofs.Ytpbeemgigpaacaa
