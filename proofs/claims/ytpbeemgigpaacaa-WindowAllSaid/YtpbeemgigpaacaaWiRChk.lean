/-
  Check and Room of the reference.
-/
import Derived.Test.YtpbeemgigpaacaaWiChk
set_option linter.unusedVariables false
set_option linter.unusedSimpArgs false
namespace Go.Proofs.Ytpbeemgigpaacaa
open Go.Proofs.Wi Go.RowKit
set_option maxRecDepth 100000 in
set_option maxHeartbeats 4000000 in
theorem RCheck_any (next : Nat) (ba pa : Option Addr) (bn bc pn pc : Nat) (bs : List Nat) (l : List PcV) (w0 w : World) (L : List (Nat × Array Value)) (R : List (Nat × Value × List Value)) (hv0 : Mem w0 w L R) (hb : (1, .slice ba bn bc, cellsB bs) ∈ R) (hp : (2, .slice pa pn pc, cellsP l) ∈ R) (hal : AllP R l) (hpn : pn ≤ 1000) (hbn : bs.length ≤ 1000000) (hdl : ∀ p ∈ l, p.2.2.length ≤ 1000000) (hnx : next < 4294967296) (hsq : ∀ p ∈ l, p.1 < 4294967296) :
    Calls Try.prog 8 #[.agg #[.int .u32 (next : Nat), .slice ba bn bc, .slice pa pn pc]] w fun e w' => e = .returned (.bool (chk (stOf next bs l))) ∧ New w w' := by
  have hv := hv0.base
  have HBM := Lib.hid hb
  have HP := Lib.hid hp
  have HA := Lib.hid hal
  have HPN := Lib.hid hpn
  have HDL := Lib.hid hdl
  have hbl := len_rd1 (hv0.rd hb)
  have HLP := Lib.hid (len_rdP (hv0.rd hp))
  have hbn2 : bn ≤ 1000000 := by omega
  obtain ⟨ro, hro⟩ : ∃ ro : Int, ro = 256 - (bn : Int) := ⟨_, rfl⟩
  have qro : IntKind.i64.wrap (256 - (bn : Int)) = ro := by rw [← hro]; exact IntWalk.i64_in _ (by omega)
  have HNX := Lib.hid hnx
  have HSQ := Lib.hid hsq
  have hpn2 := hpn
  clear hv0 hb hp hal hpn hdl hnx hsq
  by_cases hr : 256 < bn
  · have e : chk (stOf next bs l) = false := by unfold chk; exact if_pos (show 256 < bs.length by omega)
    rw [e]
    have y1 : decide ((256 : Int) < (bn : Int)) = true := decide_eq_true (by omega)
    have y1n : (256 : Int) < (bn : Int) := by omega
    clear hbl hbn hro hbn2 e hr
    go_enter Try.func8, Try.ntmps8
    go_wp2_with (first
      | ((with_reducible refine at_box (T := 26) (dst := some 1) ?_); refine wl_newb rfl #[.int .u32 (next : Nat), .slice ba bn bc, .slice pa pn pc] 26 (fun _ => rfl) ?_; intro b1 w2 hm2; replace hv := hv.madeAt hm2; clear hm2)
      | ((with_reducible refine at_load (T := 23) ?_); refine wl_ldc rfl _ _ rfl _ (hv.vars.row (by first | exact .head _ | exact .tail _ (.head _) | exact .tail _ (.tail _ (.head _)) | exact .tail _ (.tail _ (.tail _ (.head _))) | exact .tail _ (.tail _ (.tail _ (.tail _ (.head _)))) | exact .tail _ (.tail _ (.tail _ (.tail _ (.tail _ (.head _))))) | exact .tail _ (.tail _ (.tail _ (.tail _ (.tail _ (.tail _ (.head _)))))) | exact .tail _ (.tail _ (.tail _ (.tail _ (.tail _ (.tail _ (.tail _ (.head _))))))))) _ Try.underlying23 rfl _ rfl ?_))
    go_ret
    exact ⟨rfl, hv.below⟩
  · have e : chk (stOf next bs l) = chkL ro 0 (spOf (spV next l)) := by
      unfold chk
      rw [if_neg (show ¬ 256 < (stOf next bs l).bytes.length from (by show ¬ 256 < bs.length; omega)), spOf_spV next bs l, hro, ← hbl]; rfl
    rw [e]
    have hro1 : ro ≤ 256 := by omega
    have hro2 : 0 ≤ ro := by omega
    have y1 : decide ((256 : Int) < (bn : Int)) = false := decide_eq_false (by omega)
    have y1n : ¬ (256 : Int) < (bn : Int) := by omega
    obtain ⟨c, hc⟩ : ∃ c, chkL ro 0 (spOf (spV next l)) = c := ⟨_, rfl⟩
    rw [hc]
    have HC := Lib.hid hc
    clear hbl hbn hro hbn2 e hc hr
    go_enter Try.func8, Try.ntmps8
    go_wp2_with (first
      | ((with_reducible refine at_box (T := 26) (dst := some 1) ?_); refine wl_newb rfl #[.int .u32 (next : Nat), .slice ba bn bc, .slice pa pn pc] 26 (fun _ => rfl) ?_; intro b1 w2 hm2; replace hv := hv.madeAt hm2; clear hm2)
      | ((with_reducible refine at_load (T := 23) ?_); refine wl_ldc rfl _ _ rfl _ (hv.vars.row (by first | exact .head _ | exact .tail _ (.head _) | exact .tail _ (.tail _ (.head _)) | exact .tail _ (.tail _ (.tail _ (.head _))) | exact .tail _ (.tail _ (.tail _ (.tail _ (.head _)))) | exact .tail _ (.tail _ (.tail _ (.tail _ (.tail _ (.head _))))) | exact .tail _ (.tail _ (.tail _ (.tail _ (.tail _ (.tail _ (.head _)))))) | exact .tail _ (.tail _ (.tail _ (.tail _ (.tail _ (.tail _ (.tail _ (.head _))))))))) _ Try.underlying23 rfl _ rfl ?_))
    go_loopw [3, 4] (fun av i wr => ∃ (k : Nat) (a : Int), k ≤ pn ∧ i = .int .i64 (k : Nat) ∧ av = .int .i64 a ∧ Hid (chkL ro a (spOf ((spV next l).drop k)) = c) ∧ 0 ≤ a ∧ a ≤ 256 ∧ Mem w wr [(b1, #[.int .u32 (next : Nat), .slice ba bn bc, .slice pa pn pc])] R) (fun _ i _ => pn - (intOf i).toNat)
    case atStart => exact ⟨0, 0, Nat.zero_le _, rfl, rfl, HC, Int.le_refl _, by omega, hv⟩
    case round =>
      clear hv
      obtain ⟨k, a, hk, rfl, rfl, HI, ha0, ha1, hv⟩ := hrel
      by_cases hk2 : k < pn
      · have hki : (k : Int) < (pn : Int) := by omega
        have hkl : k < l.length := by rw [HLP.out]; exact hk2
        obtain ⟨⟨sq, dv, d⟩, hx⟩ : ∃ x, l[k] = x := ⟨_, rfl⟩
        have hdm := HA.out l[k] (List.getElem_mem hkl)
        have HSQK : Hid (sq < 4294967296) := Lib.hid (by have := HSQ.out l[k] (List.getElem_mem hkl); rw [hx] at this; exact this)
        have hdl1 : d.length ≤ 1000000 := by have := HDL.out l[k] (List.getElem_mem hkl); rw [hx] at this; exact this
        rw [hx] at hdm
        simp only at hdm
        obtain ⟨da, dn, dc, rfl, _⟩ := id (hv.rd hdm)
        have hdn : d.length = dn := len_rd1 (hv.rd hdm)
        have HK : Hid (((cellsP l).drop (k * 2)).take 2 = [.int .u32 (sq : Nat), .slice da dn dc]) := Lib.hid (by rw [cellsP_part l k hkl, hx])
        have HD : Hid (spOf ((spV next l).drop k) = (dif sq next, d) :: spOf ((spV next l).drop (k + 1))) := Lib.hid (spOf_drop (spV next l) (k := k) (x := (dif sq next, .slice da dn dc, d)) (by rw [spV, List.length_map]; exact hkl) (by simp only [spV, List.getElem_map, hx]))
        obtain ⟨pb, po, _, _, e, _⟩ := (hv.rd HP.out).some (by rw [cellsP_len]; omega)
        cases e
        have hx1 := dif_lo sq next
        have hx2 := dif_hi sq next
        obtain ⟨x, hxx⟩ : ∃ x, dif sq next = x := ⟨_, rfl⟩
        have RDK := fun w1 => RDiff_any sq next HSQK.out HNX.out w1
        rw [hxx] at HD hx1 hx2 RDK
        have q1 : IntKind.i64.wrap (x + (dn : Int)) = x + (dn : Int) := IntWalk.i64_in _ (by omega)
        have HDD : Hid (d.length = dn) := Lib.hid hdn
        have hdn2 : dn ≤ 1000000 := by omega
        clear hx hdm hkl hdn hxx hdl1
        by_cases f1 : dn = 0
        · have hc0 : c = false := by
            have := HI.out
            rw [HD.out, chkL_bad (by simp only [HDD.out]; omega)] at this
            exact this.symm
          subst hc0
          have yf1 : ((dn : Int) == 0) = true := by rw [beq_iff_eq]; omega
          go_wp2_with (first
            | ((with_reducible refine at_load (T := 24) ?_); refine wl_ldc rfl _ _ rfl _ (hv.vars.row (by first | exact .head _ | exact .tail _ (.head _) | exact .tail _ (.tail _ (.head _)) | exact .tail _ (.tail _ (.tail _ (.head _))) | exact .tail _ (.tail _ (.tail _ (.tail _ (.head _)))) | exact .tail _ (.tail _ (.tail _ (.tail _ (.tail _ (.head _))))) | exact .tail _ (.tail _ (.tail _ (.tail _ (.tail _ (.tail _ (.head _)))))) | exact .tail _ (.tail _ (.tail _ (.tail _ (.tail _ (.tail _ (.tail _ (.head _))))))))) _ Try.underlying24 rfl _ rfl ?_)
            | ((with_reducible refine at_load (T := 45) ?_); refine wl_rdv rfl (hv.rd HP.out) (k * 2) rfl 2 _ Try.underlying45 rfl infoPc (by decide) #[.int .u32 (sq : Nat), .slice da dn dc] HK.out rfl ?_)
            | ((with_reducible refine at_alloc (T := 45) (dst := some 5) ?_); refine wl_newb rfl #[.int .u32 0, .slice none 0 0] 45 (fun _ => rfl) ?_; intro b5 w2 hm2; replace hv := hv.madeAt hm2; clear hm2)
            | ((with_reducible refine at_store (T := 45) ?_); refine wl_stv rfl b5 rfl _ rfl _ (hv.vars.row (by first | exact .head _ | exact .tail _ (.head _) | exact .tail _ (.tail _ (.head _)) | exact .tail _ (.tail _ (.tail _ (.head _))) | exact .tail _ (.tail _ (.tail _ (.tail _ (.head _)))) | exact .tail _ (.tail _ (.tail _ (.tail _ (.tail _ (.head _))))) | exact .tail _ (.tail _ (.tail _ (.tail _ (.tail _ (.tail _ (.head _)))))) | exact .tail _ (.tail _ (.tail _ (.tail _ (.tail _ (.tail _ (.tail _ (.head _))))))))) (hv.vars.sft (by first | exact .head _ | exact .tail _ (.head _) | exact .tail _ (.tail _ (.head _)) | exact .tail _ (.tail _ (.tail _ (.head _))) | exact .tail _ (.tail _ (.tail _ (.tail _ (.head _)))) | exact .tail _ (.tail _ (.tail _ (.tail _ (.tail _ (.head _))))) | exact .tail _ (.tail _ (.tail _ (.tail _ (.tail _ (.tail _ (.head _)))))) | exact .tail _ (.tail _ (.tail _ (.tail _ (.tail _ (.tail _ (.tail _ (.head _))))))))) 2 infoPc rfl rfl (by simp [Value.oneCell']) ?_; intro w2 hw2; (first | (replace hv := hv.set 0 rfl hw2) | (replace hv := hv.set 1 rfl hw2) | (replace hv := hv.set 2 rfl hw2) | (replace hv := hv.set 3 rfl hw2)); clear hw2; simp only [List.set] at hv)
            | ((with_reducible refine at_load (T := 22) ?_); refine wl_ldc rfl _ _ rfl _ (hv.vars.row (by first | exact .head _ | exact .tail _ (.head _) | exact .tail _ (.tail _ (.head _)) | exact .tail _ (.tail _ (.tail _ (.head _))) | exact .tail _ (.tail _ (.tail _ (.tail _ (.head _)))) | exact .tail _ (.tail _ (.tail _ (.tail _ (.tail _ (.head _))))) | exact .tail _ (.tail _ (.tail _ (.tail _ (.tail _ (.tail _ (.head _)))))) | exact .tail _ (.tail _ (.tail _ (.tail _ (.tail _ (.tail _ (.tail _ (.head _))))))))) _ Try.underlying22 rfl _ rfl ?_)
            | (go_at_call 19; (with_reducible refine (RDK _).mono ?_); rintro e w1 ⟨rfl, rfl⟩)
            | ((with_reducible refine at_load (T := 23) ?_); refine wl_ldc rfl _ _ rfl _ (hv.vars.row (by first | exact .head _ | exact .tail _ (.head _) | exact .tail _ (.tail _ (.head _)) | exact .tail _ (.tail _ (.tail _ (.head _))) | exact .tail _ (.tail _ (.tail _ (.tail _ (.head _)))) | exact .tail _ (.tail _ (.tail _ (.tail _ (.tail _ (.head _))))) | exact .tail _ (.tail _ (.tail _ (.tail _ (.tail _ (.tail _ (.head _)))))) | exact .tail _ (.tail _ (.tail _ (.tail _ (.tail _ (.tail _ (.tail _ (.head _))))))))) _ Try.underlying23 rfl _ rfl ?_))
          go_ret
          exact ⟨rfl, hv.below⟩
        · skip
          by_cases f2 : 256 < dn
          · have hc0 : c = false := by
              have := HI.out
              rw [HD.out, chkL_bad (by simp only [HDD.out]; omega)] at this
              exact this.symm
            subst hc0
            have yf1 : ((dn : Int) == 0) = false := by rw [beq_eq_false_iff_ne]; omega
            have yf2 : decide ((256 : Int) < (dn : Int)) = true := decide_eq_true (by omega)
            go_wp2_with (first
              | ((with_reducible refine at_load (T := 24) ?_); refine wl_ldc rfl _ _ rfl _ (hv.vars.row (by first | exact .head _ | exact .tail _ (.head _) | exact .tail _ (.tail _ (.head _)) | exact .tail _ (.tail _ (.tail _ (.head _))) | exact .tail _ (.tail _ (.tail _ (.tail _ (.head _)))) | exact .tail _ (.tail _ (.tail _ (.tail _ (.tail _ (.head _))))) | exact .tail _ (.tail _ (.tail _ (.tail _ (.tail _ (.tail _ (.head _)))))) | exact .tail _ (.tail _ (.tail _ (.tail _ (.tail _ (.tail _ (.tail _ (.head _))))))))) _ Try.underlying24 rfl _ rfl ?_)
              | ((with_reducible refine at_load (T := 45) ?_); refine wl_rdv rfl (hv.rd HP.out) (k * 2) rfl 2 _ Try.underlying45 rfl infoPc (by decide) #[.int .u32 (sq : Nat), .slice da dn dc] HK.out rfl ?_)
              | ((with_reducible refine at_alloc (T := 45) (dst := some 5) ?_); refine wl_newb rfl #[.int .u32 0, .slice none 0 0] 45 (fun _ => rfl) ?_; intro b5 w2 hm2; replace hv := hv.madeAt hm2; clear hm2)
              | ((with_reducible refine at_store (T := 45) ?_); refine wl_stv rfl b5 rfl _ rfl _ (hv.vars.row (by first | exact .head _ | exact .tail _ (.head _) | exact .tail _ (.tail _ (.head _)) | exact .tail _ (.tail _ (.tail _ (.head _))) | exact .tail _ (.tail _ (.tail _ (.tail _ (.head _)))) | exact .tail _ (.tail _ (.tail _ (.tail _ (.tail _ (.head _))))) | exact .tail _ (.tail _ (.tail _ (.tail _ (.tail _ (.tail _ (.head _)))))) | exact .tail _ (.tail _ (.tail _ (.tail _ (.tail _ (.tail _ (.tail _ (.head _))))))))) (hv.vars.sft (by first | exact .head _ | exact .tail _ (.head _) | exact .tail _ (.tail _ (.head _)) | exact .tail _ (.tail _ (.tail _ (.head _))) | exact .tail _ (.tail _ (.tail _ (.tail _ (.head _)))) | exact .tail _ (.tail _ (.tail _ (.tail _ (.tail _ (.head _))))) | exact .tail _ (.tail _ (.tail _ (.tail _ (.tail _ (.tail _ (.head _)))))) | exact .tail _ (.tail _ (.tail _ (.tail _ (.tail _ (.tail _ (.tail _ (.head _))))))))) 2 infoPc rfl rfl (by simp [Value.oneCell']) ?_; intro w2 hw2; (first | (replace hv := hv.set 0 rfl hw2) | (replace hv := hv.set 1 rfl hw2) | (replace hv := hv.set 2 rfl hw2) | (replace hv := hv.set 3 rfl hw2)); clear hw2; simp only [List.set] at hv)
              | ((with_reducible refine at_load (T := 22) ?_); refine wl_ldc rfl _ _ rfl _ (hv.vars.row (by first | exact .head _ | exact .tail _ (.head _) | exact .tail _ (.tail _ (.head _)) | exact .tail _ (.tail _ (.tail _ (.head _))) | exact .tail _ (.tail _ (.tail _ (.tail _ (.head _)))) | exact .tail _ (.tail _ (.tail _ (.tail _ (.tail _ (.head _))))) | exact .tail _ (.tail _ (.tail _ (.tail _ (.tail _ (.tail _ (.head _)))))) | exact .tail _ (.tail _ (.tail _ (.tail _ (.tail _ (.tail _ (.tail _ (.head _))))))))) _ Try.underlying22 rfl _ rfl ?_)
              | (go_at_call 19; (with_reducible refine (RDK _).mono ?_); rintro e w1 ⟨rfl, rfl⟩)
              | ((with_reducible refine at_load (T := 23) ?_); refine wl_ldc rfl _ _ rfl _ (hv.vars.row (by first | exact .head _ | exact .tail _ (.head _) | exact .tail _ (.tail _ (.head _)) | exact .tail _ (.tail _ (.tail _ (.head _))) | exact .tail _ (.tail _ (.tail _ (.tail _ (.head _)))) | exact .tail _ (.tail _ (.tail _ (.tail _ (.tail _ (.head _))))) | exact .tail _ (.tail _ (.tail _ (.tail _ (.tail _ (.tail _ (.head _)))))) | exact .tail _ (.tail _ (.tail _ (.tail _ (.tail _ (.tail _ (.tail _ (.head _))))))))) _ Try.underlying23 rfl _ rfl ?_))
            go_ret
            exact ⟨rfl, hv.below⟩
          · skip
            by_cases f3 : x ≤ a
            · have hc0 : c = false := by
                have := HI.out
                rw [HD.out, chkL_bad (by simp only [HDD.out]; omega)] at this
                exact this.symm
              subst hc0
              have yf1 : ((dn : Int) == 0) = false := by rw [beq_eq_false_iff_ne]; omega
              have yf2 : decide ((256 : Int) < (dn : Int)) = false := decide_eq_false (by omega)
              have yf3 : decide (x ≤ a) = true := decide_eq_true (by omega)
              go_wp2_with (first
                | ((with_reducible refine at_load (T := 24) ?_); refine wl_ldc rfl _ _ rfl _ (hv.vars.row (by first | exact .head _ | exact .tail _ (.head _) | exact .tail _ (.tail _ (.head _)) | exact .tail _ (.tail _ (.tail _ (.head _))) | exact .tail _ (.tail _ (.tail _ (.tail _ (.head _)))) | exact .tail _ (.tail _ (.tail _ (.tail _ (.tail _ (.head _))))) | exact .tail _ (.tail _ (.tail _ (.tail _ (.tail _ (.tail _ (.head _)))))) | exact .tail _ (.tail _ (.tail _ (.tail _ (.tail _ (.tail _ (.tail _ (.head _))))))))) _ Try.underlying24 rfl _ rfl ?_)
                | ((with_reducible refine at_load (T := 45) ?_); refine wl_rdv rfl (hv.rd HP.out) (k * 2) rfl 2 _ Try.underlying45 rfl infoPc (by decide) #[.int .u32 (sq : Nat), .slice da dn dc] HK.out rfl ?_)
                | ((with_reducible refine at_alloc (T := 45) (dst := some 5) ?_); refine wl_newb rfl #[.int .u32 0, .slice none 0 0] 45 (fun _ => rfl) ?_; intro b5 w2 hm2; replace hv := hv.madeAt hm2; clear hm2)
                | ((with_reducible refine at_store (T := 45) ?_); refine wl_stv rfl b5 rfl _ rfl _ (hv.vars.row (by first | exact .head _ | exact .tail _ (.head _) | exact .tail _ (.tail _ (.head _)) | exact .tail _ (.tail _ (.tail _ (.head _))) | exact .tail _ (.tail _ (.tail _ (.tail _ (.head _)))) | exact .tail _ (.tail _ (.tail _ (.tail _ (.tail _ (.head _))))) | exact .tail _ (.tail _ (.tail _ (.tail _ (.tail _ (.tail _ (.head _)))))) | exact .tail _ (.tail _ (.tail _ (.tail _ (.tail _ (.tail _ (.tail _ (.head _))))))))) (hv.vars.sft (by first | exact .head _ | exact .tail _ (.head _) | exact .tail _ (.tail _ (.head _)) | exact .tail _ (.tail _ (.tail _ (.head _))) | exact .tail _ (.tail _ (.tail _ (.tail _ (.head _)))) | exact .tail _ (.tail _ (.tail _ (.tail _ (.tail _ (.head _))))) | exact .tail _ (.tail _ (.tail _ (.tail _ (.tail _ (.tail _ (.head _)))))) | exact .tail _ (.tail _ (.tail _ (.tail _ (.tail _ (.tail _ (.tail _ (.head _))))))))) 2 infoPc rfl rfl (by simp [Value.oneCell']) ?_; intro w2 hw2; (first | (replace hv := hv.set 0 rfl hw2) | (replace hv := hv.set 1 rfl hw2) | (replace hv := hv.set 2 rfl hw2) | (replace hv := hv.set 3 rfl hw2)); clear hw2; simp only [List.set] at hv)
                | ((with_reducible refine at_load (T := 22) ?_); refine wl_ldc rfl _ _ rfl _ (hv.vars.row (by first | exact .head _ | exact .tail _ (.head _) | exact .tail _ (.tail _ (.head _)) | exact .tail _ (.tail _ (.tail _ (.head _))) | exact .tail _ (.tail _ (.tail _ (.tail _ (.head _)))) | exact .tail _ (.tail _ (.tail _ (.tail _ (.tail _ (.head _))))) | exact .tail _ (.tail _ (.tail _ (.tail _ (.tail _ (.tail _ (.head _)))))) | exact .tail _ (.tail _ (.tail _ (.tail _ (.tail _ (.tail _ (.tail _ (.head _))))))))) _ Try.underlying22 rfl _ rfl ?_)
                | (go_at_call 19; (with_reducible refine (RDK _).mono ?_); rintro e w1 ⟨rfl, rfl⟩)
                | ((with_reducible refine at_load (T := 23) ?_); refine wl_ldc rfl _ _ rfl _ (hv.vars.row (by first | exact .head _ | exact .tail _ (.head _) | exact .tail _ (.tail _ (.head _)) | exact .tail _ (.tail _ (.tail _ (.head _))) | exact .tail _ (.tail _ (.tail _ (.tail _ (.head _)))) | exact .tail _ (.tail _ (.tail _ (.tail _ (.tail _ (.head _))))) | exact .tail _ (.tail _ (.tail _ (.tail _ (.tail _ (.tail _ (.head _)))))) | exact .tail _ (.tail _ (.tail _ (.tail _ (.tail _ (.tail _ (.tail _ (.head _))))))))) _ Try.underlying23 rfl _ rfl ?_))
              go_ret
              exact ⟨rfl, hv.below⟩
            · skip
              by_cases f4 : (256 : Int) < x
              · have hc0 : c = false := by
                  have := HI.out
                  rw [HD.out, chkL_bad (by simp only [HDD.out]; omega)] at this
                  exact this.symm
                subst hc0
                have yf1 : ((dn : Int) == 0) = false := by rw [beq_eq_false_iff_ne]; omega
                have yf2 : decide ((256 : Int) < (dn : Int)) = false := decide_eq_false (by omega)
                have yf3 : decide (x ≤ a) = false := decide_eq_false (by omega)
                have yf4 : decide ((256 : Int) < x) = true := decide_eq_true (by omega)
                go_wp2_with (first
                  | ((with_reducible refine at_load (T := 24) ?_); refine wl_ldc rfl _ _ rfl _ (hv.vars.row (by first | exact .head _ | exact .tail _ (.head _) | exact .tail _ (.tail _ (.head _)) | exact .tail _ (.tail _ (.tail _ (.head _))) | exact .tail _ (.tail _ (.tail _ (.tail _ (.head _)))) | exact .tail _ (.tail _ (.tail _ (.tail _ (.tail _ (.head _))))) | exact .tail _ (.tail _ (.tail _ (.tail _ (.tail _ (.tail _ (.head _)))))) | exact .tail _ (.tail _ (.tail _ (.tail _ (.tail _ (.tail _ (.tail _ (.head _))))))))) _ Try.underlying24 rfl _ rfl ?_)
                  | ((with_reducible refine at_load (T := 45) ?_); refine wl_rdv rfl (hv.rd HP.out) (k * 2) rfl 2 _ Try.underlying45 rfl infoPc (by decide) #[.int .u32 (sq : Nat), .slice da dn dc] HK.out rfl ?_)
                  | ((with_reducible refine at_alloc (T := 45) (dst := some 5) ?_); refine wl_newb rfl #[.int .u32 0, .slice none 0 0] 45 (fun _ => rfl) ?_; intro b5 w2 hm2; replace hv := hv.madeAt hm2; clear hm2)
                  | ((with_reducible refine at_store (T := 45) ?_); refine wl_stv rfl b5 rfl _ rfl _ (hv.vars.row (by first | exact .head _ | exact .tail _ (.head _) | exact .tail _ (.tail _ (.head _)) | exact .tail _ (.tail _ (.tail _ (.head _))) | exact .tail _ (.tail _ (.tail _ (.tail _ (.head _)))) | exact .tail _ (.tail _ (.tail _ (.tail _ (.tail _ (.head _))))) | exact .tail _ (.tail _ (.tail _ (.tail _ (.tail _ (.tail _ (.head _)))))) | exact .tail _ (.tail _ (.tail _ (.tail _ (.tail _ (.tail _ (.tail _ (.head _))))))))) (hv.vars.sft (by first | exact .head _ | exact .tail _ (.head _) | exact .tail _ (.tail _ (.head _)) | exact .tail _ (.tail _ (.tail _ (.head _))) | exact .tail _ (.tail _ (.tail _ (.tail _ (.head _)))) | exact .tail _ (.tail _ (.tail _ (.tail _ (.tail _ (.head _))))) | exact .tail _ (.tail _ (.tail _ (.tail _ (.tail _ (.tail _ (.head _)))))) | exact .tail _ (.tail _ (.tail _ (.tail _ (.tail _ (.tail _ (.tail _ (.head _))))))))) 2 infoPc rfl rfl (by simp [Value.oneCell']) ?_; intro w2 hw2; (first | (replace hv := hv.set 0 rfl hw2) | (replace hv := hv.set 1 rfl hw2) | (replace hv := hv.set 2 rfl hw2) | (replace hv := hv.set 3 rfl hw2)); clear hw2; simp only [List.set] at hv)
                  | ((with_reducible refine at_load (T := 22) ?_); refine wl_ldc rfl _ _ rfl _ (hv.vars.row (by first | exact .head _ | exact .tail _ (.head _) | exact .tail _ (.tail _ (.head _)) | exact .tail _ (.tail _ (.tail _ (.head _))) | exact .tail _ (.tail _ (.tail _ (.tail _ (.head _)))) | exact .tail _ (.tail _ (.tail _ (.tail _ (.tail _ (.head _))))) | exact .tail _ (.tail _ (.tail _ (.tail _ (.tail _ (.tail _ (.head _)))))) | exact .tail _ (.tail _ (.tail _ (.tail _ (.tail _ (.tail _ (.tail _ (.head _))))))))) _ Try.underlying22 rfl _ rfl ?_)
                  | (go_at_call 19; (with_reducible refine (RDK _).mono ?_); rintro e w1 ⟨rfl, rfl⟩)
                  | ((with_reducible refine at_load (T := 23) ?_); refine wl_ldc rfl _ _ rfl _ (hv.vars.row (by first | exact .head _ | exact .tail _ (.head _) | exact .tail _ (.tail _ (.head _)) | exact .tail _ (.tail _ (.tail _ (.head _))) | exact .tail _ (.tail _ (.tail _ (.tail _ (.head _)))) | exact .tail _ (.tail _ (.tail _ (.tail _ (.tail _ (.head _))))) | exact .tail _ (.tail _ (.tail _ (.tail _ (.tail _ (.tail _ (.head _)))))) | exact .tail _ (.tail _ (.tail _ (.tail _ (.tail _ (.tail _ (.tail _ (.head _))))))))) _ Try.underlying23 rfl _ rfl ?_))
                go_ret
                exact ⟨rfl, hv.below⟩
              · skip
                by_cases f5 : ro < x + (dn : Int)
                · have hc0 : c = false := by
                    have := HI.out
                    rw [HD.out, chkL_bad (by simp only [HDD.out]; omega)] at this
                    exact this.symm
                  subst hc0
                  have yf1 : ((dn : Int) == 0) = false := by rw [beq_eq_false_iff_ne]; omega
                  have yf2 : decide ((256 : Int) < (dn : Int)) = false := decide_eq_false (by omega)
                  have yf3 : decide (x ≤ a) = false := decide_eq_false (by omega)
                  have yf4 : decide ((256 : Int) < x) = false := decide_eq_false (by omega)
                  have yf5 : decide (ro < x + (dn : Int)) = true := decide_eq_true (by omega)
                  go_wp2_with (first
                    | ((with_reducible refine at_load (T := 24) ?_); refine wl_ldc rfl _ _ rfl _ (hv.vars.row (by first | exact .head _ | exact .tail _ (.head _) | exact .tail _ (.tail _ (.head _)) | exact .tail _ (.tail _ (.tail _ (.head _))) | exact .tail _ (.tail _ (.tail _ (.tail _ (.head _)))) | exact .tail _ (.tail _ (.tail _ (.tail _ (.tail _ (.head _))))) | exact .tail _ (.tail _ (.tail _ (.tail _ (.tail _ (.tail _ (.head _)))))) | exact .tail _ (.tail _ (.tail _ (.tail _ (.tail _ (.tail _ (.tail _ (.head _))))))))) _ Try.underlying24 rfl _ rfl ?_)
                    | ((with_reducible refine at_load (T := 45) ?_); refine wl_rdv rfl (hv.rd HP.out) (k * 2) rfl 2 _ Try.underlying45 rfl infoPc (by decide) #[.int .u32 (sq : Nat), .slice da dn dc] HK.out rfl ?_)
                    | ((with_reducible refine at_alloc (T := 45) (dst := some 5) ?_); refine wl_newb rfl #[.int .u32 0, .slice none 0 0] 45 (fun _ => rfl) ?_; intro b5 w2 hm2; replace hv := hv.madeAt hm2; clear hm2)
                    | ((with_reducible refine at_store (T := 45) ?_); refine wl_stv rfl b5 rfl _ rfl _ (hv.vars.row (by first | exact .head _ | exact .tail _ (.head _) | exact .tail _ (.tail _ (.head _)) | exact .tail _ (.tail _ (.tail _ (.head _))) | exact .tail _ (.tail _ (.tail _ (.tail _ (.head _)))) | exact .tail _ (.tail _ (.tail _ (.tail _ (.tail _ (.head _))))) | exact .tail _ (.tail _ (.tail _ (.tail _ (.tail _ (.tail _ (.head _)))))) | exact .tail _ (.tail _ (.tail _ (.tail _ (.tail _ (.tail _ (.tail _ (.head _))))))))) (hv.vars.sft (by first | exact .head _ | exact .tail _ (.head _) | exact .tail _ (.tail _ (.head _)) | exact .tail _ (.tail _ (.tail _ (.head _))) | exact .tail _ (.tail _ (.tail _ (.tail _ (.head _)))) | exact .tail _ (.tail _ (.tail _ (.tail _ (.tail _ (.head _))))) | exact .tail _ (.tail _ (.tail _ (.tail _ (.tail _ (.tail _ (.head _)))))) | exact .tail _ (.tail _ (.tail _ (.tail _ (.tail _ (.tail _ (.tail _ (.head _))))))))) 2 infoPc rfl rfl (by simp [Value.oneCell']) ?_; intro w2 hw2; (first | (replace hv := hv.set 0 rfl hw2) | (replace hv := hv.set 1 rfl hw2) | (replace hv := hv.set 2 rfl hw2) | (replace hv := hv.set 3 rfl hw2)); clear hw2; simp only [List.set] at hv)
                    | ((with_reducible refine at_load (T := 22) ?_); refine wl_ldc rfl _ _ rfl _ (hv.vars.row (by first | exact .head _ | exact .tail _ (.head _) | exact .tail _ (.tail _ (.head _)) | exact .tail _ (.tail _ (.tail _ (.head _))) | exact .tail _ (.tail _ (.tail _ (.tail _ (.head _)))) | exact .tail _ (.tail _ (.tail _ (.tail _ (.tail _ (.head _))))) | exact .tail _ (.tail _ (.tail _ (.tail _ (.tail _ (.tail _ (.head _)))))) | exact .tail _ (.tail _ (.tail _ (.tail _ (.tail _ (.tail _ (.tail _ (.head _))))))))) _ Try.underlying22 rfl _ rfl ?_)
                    | (go_at_call 19; (with_reducible refine (RDK _).mono ?_); rintro e w1 ⟨rfl, rfl⟩)
                    | ((with_reducible refine at_load (T := 23) ?_); refine wl_ldc rfl _ _ rfl _ (hv.vars.row (by first | exact .head _ | exact .tail _ (.head _) | exact .tail _ (.tail _ (.head _)) | exact .tail _ (.tail _ (.tail _ (.head _))) | exact .tail _ (.tail _ (.tail _ (.tail _ (.head _)))) | exact .tail _ (.tail _ (.tail _ (.tail _ (.tail _ (.head _))))) | exact .tail _ (.tail _ (.tail _ (.tail _ (.tail _ (.tail _ (.head _)))))) | exact .tail _ (.tail _ (.tail _ (.tail _ (.tail _ (.tail _ (.tail _ (.head _))))))))) _ Try.underlying23 rfl _ rfl ?_))
                  go_ret
                  exact ⟨rfl, hv.below⟩
                · have HI2 : Hid (chkL ro (x + (dn : Int)) (spOf ((spV next l).drop (k + 1))) = c) := Lib.hid (by
                    have := HI.out
                    rw [HD.out, chkL_good (by simp only [HDD.out]; omega)] at this
                    simp only [HDD.out] at this
                    exact this)
                  have yf1 : ((dn : Int) == 0) = false := by rw [beq_eq_false_iff_ne]; omega
                  have yf2 : decide ((256 : Int) < (dn : Int)) = false := decide_eq_false (by omega)
                  have yf3 : decide (x ≤ a) = false := decide_eq_false (by omega)
                  have yf4 : decide ((256 : Int) < x) = false := decide_eq_false (by omega)
                  have yf5 : decide (ro < x + (dn : Int)) = false := decide_eq_false (by omega)
                  go_wp2_with (first
                    | ((with_reducible refine at_load (T := 24) ?_); refine wl_ldc rfl _ _ rfl _ (hv.vars.row (by first | exact .head _ | exact .tail _ (.head _) | exact .tail _ (.tail _ (.head _)) | exact .tail _ (.tail _ (.tail _ (.head _))) | exact .tail _ (.tail _ (.tail _ (.tail _ (.head _)))) | exact .tail _ (.tail _ (.tail _ (.tail _ (.tail _ (.head _))))) | exact .tail _ (.tail _ (.tail _ (.tail _ (.tail _ (.tail _ (.head _)))))) | exact .tail _ (.tail _ (.tail _ (.tail _ (.tail _ (.tail _ (.tail _ (.head _))))))))) _ Try.underlying24 rfl _ rfl ?_)
                    | ((with_reducible refine at_load (T := 45) ?_); refine wl_rdv rfl (hv.rd HP.out) (k * 2) rfl 2 _ Try.underlying45 rfl infoPc (by decide) #[.int .u32 (sq : Nat), .slice da dn dc] HK.out rfl ?_)
                    | ((with_reducible refine at_alloc (T := 45) (dst := some 5) ?_); refine wl_newb rfl #[.int .u32 0, .slice none 0 0] 45 (fun _ => rfl) ?_; intro b5 w2 hm2; replace hv := hv.madeAt hm2; clear hm2)
                    | ((with_reducible refine at_store (T := 45) ?_); refine wl_stv rfl b5 rfl _ rfl _ (hv.vars.row (by first | exact .head _ | exact .tail _ (.head _) | exact .tail _ (.tail _ (.head _)) | exact .tail _ (.tail _ (.tail _ (.head _))) | exact .tail _ (.tail _ (.tail _ (.tail _ (.head _)))) | exact .tail _ (.tail _ (.tail _ (.tail _ (.tail _ (.head _))))) | exact .tail _ (.tail _ (.tail _ (.tail _ (.tail _ (.tail _ (.head _)))))) | exact .tail _ (.tail _ (.tail _ (.tail _ (.tail _ (.tail _ (.tail _ (.head _))))))))) (hv.vars.sft (by first | exact .head _ | exact .tail _ (.head _) | exact .tail _ (.tail _ (.head _)) | exact .tail _ (.tail _ (.tail _ (.head _))) | exact .tail _ (.tail _ (.tail _ (.tail _ (.head _)))) | exact .tail _ (.tail _ (.tail _ (.tail _ (.tail _ (.head _))))) | exact .tail _ (.tail _ (.tail _ (.tail _ (.tail _ (.tail _ (.head _)))))) | exact .tail _ (.tail _ (.tail _ (.tail _ (.tail _ (.tail _ (.tail _ (.head _))))))))) 2 infoPc rfl rfl (by simp [Value.oneCell']) ?_; intro w2 hw2; (first | (replace hv := hv.set 0 rfl hw2) | (replace hv := hv.set 1 rfl hw2) | (replace hv := hv.set 2 rfl hw2) | (replace hv := hv.set 3 rfl hw2)); clear hw2; simp only [List.set] at hv)
                    | ((with_reducible refine at_load (T := 22) ?_); refine wl_ldc rfl _ _ rfl _ (hv.vars.row (by first | exact .head _ | exact .tail _ (.head _) | exact .tail _ (.tail _ (.head _)) | exact .tail _ (.tail _ (.tail _ (.head _))) | exact .tail _ (.tail _ (.tail _ (.tail _ (.head _)))) | exact .tail _ (.tail _ (.tail _ (.tail _ (.tail _ (.head _))))) | exact .tail _ (.tail _ (.tail _ (.tail _ (.tail _ (.tail _ (.head _)))))) | exact .tail _ (.tail _ (.tail _ (.tail _ (.tail _ (.tail _ (.tail _ (.head _))))))))) _ Try.underlying22 rfl _ rfl ?_)
                    | (go_at_call 19; (with_reducible refine (RDK _).mono ?_); rintro e w1 ⟨rfl, rfl⟩)
                    | ((with_reducible refine at_load (T := 23) ?_); refine wl_ldc rfl _ _ rfl _ (hv.vars.row (by first | exact .head _ | exact .tail _ (.head _) | exact .tail _ (.tail _ (.head _)) | exact .tail _ (.tail _ (.tail _ (.head _))) | exact .tail _ (.tail _ (.tail _ (.tail _ (.head _)))) | exact .tail _ (.tail _ (.tail _ (.tail _ (.tail _ (.head _))))) | exact .tail _ (.tail _ (.tail _ (.tail _ (.tail _ (.tail _ (.head _)))))) | exact .tail _ (.tail _ (.tail _ (.tail _ (.tail _ (.tail _ (.tail _ (.head _))))))))) _ Try.underlying23 rfl _ rfl ?_))
                  go_roundw
                  case rel => exact ⟨k + 1, x + (dn : Int), by omega, by go_num, rfl, HI2, by omega, by omega, hv.drop⟩
                  case measure => simp [intOf]; omega
      · have hki : ¬ (k : Int) < (pn : Int) := by omega
        have hc0 : c = true := by
          have := HI.out
          rw [List.drop_eq_nil_of_le (by rw [spV, List.length_map, HLP.out]; omega)] at this
          exact this.symm
        subst hc0
        go_wp2_with (first
          | ((with_reducible refine at_load (T := 24) ?_); refine wl_ldc rfl _ _ rfl _ (hv.vars.row (by first | exact .head _ | exact .tail _ (.head _) | exact .tail _ (.tail _ (.head _)) | exact .tail _ (.tail _ (.tail _ (.head _))) | exact .tail _ (.tail _ (.tail _ (.tail _ (.head _)))) | exact .tail _ (.tail _ (.tail _ (.tail _ (.tail _ (.head _))))) | exact .tail _ (.tail _ (.tail _ (.tail _ (.tail _ (.tail _ (.head _)))))) | exact .tail _ (.tail _ (.tail _ (.tail _ (.tail _ (.tail _ (.tail _ (.head _))))))))) _ Try.underlying24 rfl _ rfl ?_))
        go_ret
        exact ⟨rfl, hv.below⟩
set_option maxRecDepth 100000 in
set_option maxHeartbeats 4000000 in
theorem RRoom_any (next : Nat) (ba pa : Option Addr) (bn bc pn pc : Nat) (bs : List Nat) (l : List PcV) (w0 w : World) (L : List (Nat × Array Value)) (R : List (Nat × Value × List Value)) (hv0 : Mem w0 w L R) (hb : (1, .slice ba bn bc, cellsB bs) ∈ R) (hp : (2, .slice pa pn pc, cellsP l) ∈ R) (hal : AllP R l) (hpn : pn ≤ 1000) (hbn : bs.length ≤ 1000000) (hdl : ∀ p ∈ l, p.2.2.length ≤ 1000000) (hnx : next < 4294967296) (hsq : ∀ p ∈ l, p.1 < 4294967296) :
    Calls Try.prog 18 #[.agg #[.int .u32 (next : Nat), .slice ba bn bc, .slice pa pn pc]] w fun e w' => e = .returned (.int .i64 (room (stOf next bs l))) ∧ New w w' := by
  have hv := hv0.base
  have HBM := Lib.hid hb
  have HP := Lib.hid hp
  have HA := Lib.hid hal
  have HPN := Lib.hid hpn
  have HDL := Lib.hid hdl
  have hbl := len_rd1 (hv0.rd hb)
  have HLP := Lib.hid (len_rdP (hv0.rd hp))
  have hbn2 : bn ≤ 1000000 := by omega
  obtain ⟨ro, hro⟩ : ∃ ro : Int, ro = 256 - (bn : Int) := ⟨_, rfl⟩
  have qro : IntKind.i64.wrap (256 - (bn : Int)) = ro := by rw [← hro]; exact IntWalk.i64_in _ (by omega)
  have HBN := Lib.hid hbn
  have HNX := Lib.hid hnx
  have HSQ := Lib.hid hsq
  have e : room (stOf next bs l) = if chk (stOf next bs l) then ro else 0 := by unfold room; rw [hro, ← hbl]; rfl
  rw [e]
  have kC := fun w0' w' L' R' h1 h2 h3 h4 => RCheck_any next ba pa bn bc pn pc bs l w0' w' L' R' h1 h2 h3 h4 hpn hbn hdl hnx hsq
  generalize chk (stOf next bs l) = c at *
  clear hv0 hb hp hal hpn hdl hbl hbn hro hbn2 e hnx hsq
  cases c
  · go_enter Try.func18, Try.ntmps18
    go_wp2_with (first
      | ((with_reducible refine at_box (T := 26) (dst := some 1) ?_); refine wl_newb rfl #[.int .u32 (next : Nat), .slice ba bn bc, .slice pa pn pc] 26 (fun _ => rfl) ?_; intro b1 w2 hm2; replace hv := hv.madeAt hm2; clear hm2)
      | ((with_reducible refine at_load (T := 26) ?_); refine wl_ldv rfl b1 rfl _ (hv.vars.row (by first | exact .head _ | exact .tail _ (.head _) | exact .tail _ (.tail _ (.head _)) | exact .tail _ (.tail _ (.tail _ (.head _))) | exact .tail _ (.tail _ (.tail _ (.tail _ (.head _)))) | exact .tail _ (.tail _ (.tail _ (.tail _ (.tail _ (.head _))))) | exact .tail _ (.tail _ (.tail _ (.tail _ (.tail _ (.tail _ (.head _)))))) | exact .tail _ (.tail _ (.tail _ (.tail _ (.tail _ (.tail _ (.tail _ (.head _))))))))) 3 _ Try.underlying26 rfl infoStr (by decide) rfl ?_)
      | (go_at_call 8; (with_reducible refine (kC _ _ _ _ hv HBM.out HP.out HA.out).mono ?_); rintro e w1 ⟨rfl, hn1⟩; replace hv := hv.new hn1; clear hn1)
      | ((with_reducible refine at_load (T := 23) ?_); refine wl_ldc rfl _ _ rfl _ (hv.vars.row (by first | exact .head _ | exact .tail _ (.head _) | exact .tail _ (.tail _ (.head _)) | exact .tail _ (.tail _ (.tail _ (.head _))) | exact .tail _ (.tail _ (.tail _ (.tail _ (.head _)))) | exact .tail _ (.tail _ (.tail _ (.tail _ (.tail _ (.head _))))) | exact .tail _ (.tail _ (.tail _ (.tail _ (.tail _ (.tail _ (.head _)))))) | exact .tail _ (.tail _ (.tail _ (.tail _ (.tail _ (.tail _ (.tail _ (.head _))))))))) _ Try.underlying23 rfl _ rfl ?_))
    go_ret
    exact ⟨rfl, hv.below⟩
  · go_enter Try.func18, Try.ntmps18
    go_wp2_with (first
      | ((with_reducible refine at_box (T := 26) (dst := some 1) ?_); refine wl_newb rfl #[.int .u32 (next : Nat), .slice ba bn bc, .slice pa pn pc] 26 (fun _ => rfl) ?_; intro b1 w2 hm2; replace hv := hv.madeAt hm2; clear hm2)
      | ((with_reducible refine at_load (T := 26) ?_); refine wl_ldv rfl b1 rfl _ (hv.vars.row (by first | exact .head _ | exact .tail _ (.head _) | exact .tail _ (.tail _ (.head _)) | exact .tail _ (.tail _ (.tail _ (.head _))) | exact .tail _ (.tail _ (.tail _ (.tail _ (.head _)))) | exact .tail _ (.tail _ (.tail _ (.tail _ (.tail _ (.head _))))) | exact .tail _ (.tail _ (.tail _ (.tail _ (.tail _ (.tail _ (.head _)))))) | exact .tail _ (.tail _ (.tail _ (.tail _ (.tail _ (.tail _ (.tail _ (.head _))))))))) 3 _ Try.underlying26 rfl infoStr (by decide) rfl ?_)
      | (go_at_call 8; (with_reducible refine (kC _ _ _ _ hv HBM.out HP.out HA.out).mono ?_); rintro e w1 ⟨rfl, hn1⟩; replace hv := hv.new hn1; clear hn1)
      | ((with_reducible refine at_load (T := 23) ?_); refine wl_ldc rfl _ _ rfl _ (hv.vars.row (by first | exact .head _ | exact .tail _ (.head _) | exact .tail _ (.tail _ (.head _)) | exact .tail _ (.tail _ (.tail _ (.head _))) | exact .tail _ (.tail _ (.tail _ (.tail _ (.head _)))) | exact .tail _ (.tail _ (.tail _ (.tail _ (.tail _ (.head _))))) | exact .tail _ (.tail _ (.tail _ (.tail _ (.tail _ (.tail _ (.head _)))))) | exact .tail _ (.tail _ (.tail _ (.tail _ (.tail _ (.tail _ (.tail _ (.head _))))))))) _ Try.underlying23 rfl _ rfl ?_))
    go_ret
    exact ⟨rfl, hv.below⟩
end Go.Proofs.Ytpbeemgigpaacaa
