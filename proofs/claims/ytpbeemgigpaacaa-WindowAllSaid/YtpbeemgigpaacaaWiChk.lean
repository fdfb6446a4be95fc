/-
  Check and Room, of the program and of the reference.
-/
import Derived.Test.YtpbeemgigpaacaaWiBase
set_option linter.unusedVariables false
set_option linter.unusedSimpArgs false
namespace Go
/-- What is read alone, from here on. -/
theorem Mem.base {w0 w : World} {L : List (Nat × Array Value)} {R : List (Nat × Value × List Value)} (h : Mem w0 w L R) : Mem w w [] R :=
  ⟨Vars.nil w, fun x hx => ⟨(h.rds x hx).1, fun _ _ _ _ _ _ p hp => (List.not_mem_nil hp).elim⟩⟩
end Go
namespace Go.Proofs.Ytpbeemgigpaacaa
open Go.Proofs.Wi Go.RowKit
theorem spOf_drop (l : List SpV) {k : Nat} (hk : k < l.length) {x : SpV} (hx : l[k] = x) : spOf (l.drop k) = (x.1, x.2.2) :: spOf (l.drop (k + 1)) := by
  rw [List.drop_eq_getElem_cons hk, hx]; rfl
theorem chkL_bad {r a : Int} {x : Sp} {t : List Sp} (h : x.2.length = 0 ∨ r < x.2.length ∨ x.1 ≤ a ∨ r - x.2.length < x.1) : chkL r a (x :: t) = false := by
  unfold chkL; exact if_pos h
theorem chkL_good {r a : Int} {x : Sp} {t : List Sp} (h : ¬ (x.2.length = 0 ∨ r < x.2.length ∨ x.1 ≤ a ∨ r - x.2.length < x.1)) : chkL r a (x :: t) = chkL r (x.1 + x.2.length) t := by
  conv => lhs; unfold chkL
  exact if_neg h
set_option maxRecDepth 100000 in
set_option maxHeartbeats 4000000 in
theorem Check_any (next : Nat) (ba pa : Option Addr) (bn bc pn pc : Nat) (bs : List Nat) (l : List PcV) (w0 w : World) (L : List (Nat × Array Value)) (R : List (Nat × Value × List Value)) (hv0 : Mem w0 w L R) (hb : (1, .slice ba bn bc, cellsB bs) ∈ R) (hp : (2, .slice pa pn pc, cellsP l) ∈ R) (hal : AllP R l) (hpn : pn ≤ 1000) (hbn : bs.length ≤ 1000000) (hdl : ∀ p ∈ l, p.2.2.length ≤ 1000000) :
    Calls Try.prog 12 #[.agg #[.int .u32 (next : Nat), .slice ba bn bc, .slice pa pn pc]] w fun e w' => e = .returned (.bool (chk (stOf next bs l))) ∧ New w w' := by
  have hv := hv0.base
  have HBM := Lib.hid hb
  have HP := Lib.hid hp
  have HA := Lib.hid hal
  have HPN := Lib.hid hpn
  have HDL := Lib.hid hdl
  have hbl := len_rd1 (hv0.rd hb)
  have HLP := Lib.hid (len_rdP (hv0.rd hp))
  have hbn2 : bn ≤ 1000000 := by omega
  obtain ⟨ro, hro⟩ : ∃ ro : Int, ro = 256 - (bn : Int) := ⟨_, rfl⟩
  have qro : IntKind.i64.wrap (256 - (bn : Int)) = ro := by rw [← hro]; exact IntWalk.i64_in _ (by omega)
  clear hv0 hb hp hal hpn hdl
  by_cases hr : ro < 0
  · have e : chk (stOf next bs l) = false := by unfold chk; exact if_pos (show 256 < bs.length by omega)
    rw [e]
    clear hbl hbn hro hbn2 e
    go_enter Try.func12, Try.ntmps12
    go_wp2_with (first
      | ((with_reducible refine at_box (T := 26) (dst := some 1) ?_); refine wl_newb rfl #[.int .u32 (next : Nat), .slice ba bn bc, .slice pa pn pc] 26 (fun _ => rfl) ?_; intro b1 w2 hm2; replace hv := hv.madeAt hm2; clear hm2)
      | ((with_reducible refine at_load (T := 23) ?_); refine wl_ldc rfl _ _ rfl _ (hv.vars.row (by first | exact .head _ | exact .tail _ (.head _) | exact .tail _ (.tail _ (.head _)) | exact .tail _ (.tail _ (.tail _ (.head _))) | exact .tail _ (.tail _ (.tail _ (.tail _ (.head _)))) | exact .tail _ (.tail _ (.tail _ (.tail _ (.tail _ (.head _))))) | exact .tail _ (.tail _ (.tail _ (.tail _ (.tail _ (.tail _ (.head _)))))) | exact .tail _ (.tail _ (.tail _ (.tail _ (.tail _ (.tail _ (.tail _ (.head _))))))))) _ Try.underlying23 rfl _ rfl ?_))
    go_ret
    exact ⟨rfl, hv.below⟩
  · have e : chk (stOf next bs l) = chkL ro 0 (spOf (spV next l)) := by
      unfold chk
      rw [if_neg (show ¬ 256 < (stOf next bs l).bytes.length from (by show ¬ 256 < bs.length; omega)), spOf_spV next bs l, hro, ← hbl]; rfl
    rw [e]
    obtain ⟨l', hl'⟩ : ∃ l', spV next l = l' := ⟨_, rfl⟩
    have HL2 : Hid (l'.length = pn) := Lib.hid (by rw [← hl', spV, List.length_map]; exact HLP.out)
    have HA2 : Hid (AllS R l') := Lib.hid (by rw [← hl']; exact spV_all HA.out)
    have HX : Hid (∀ p ∈ l', -2147483648 ≤ p.1 ∧ p.1 ≤ 2147483647 ∧ p.2.2.length ≤ 1000000) := Lib.hid (fun p hp => by
      rw [← hl'] at hp
      obtain ⟨y, hy, rfl⟩ := List.mem_map.1 hp
      exact ⟨dif_lo _ _, dif_hi _ _, HDL.out y hy⟩)
    have HEQ := Lib.hid hl'
    have hro1 : ro ≤ 256 := by omega
    have hro2 : 0 ≤ ro := by omega
    rw [hl']
    obtain ⟨c, hc⟩ : ∃ c, chkL ro 0 (spOf l') = c := ⟨_, rfl⟩
    rw [hc]
    have HC := Lib.hid hc
    clear hbl hbn hro hbn2 e hl' hc hr
    go_enter Try.func12, Try.ntmps12
    go_wp2_with (first
      | ((with_reducible refine at_box (T := 26) (dst := some 1) ?_); refine wl_newb rfl #[.int .u32 (next : Nat), .slice ba bn bc, .slice pa pn pc] 26 (fun _ => rfl) ?_; intro b1 w2 hm2; replace hv := hv.madeAt hm2; clear hm2)
      | ((with_reducible refine at_load (T := 23) ?_); refine wl_ldc rfl _ _ rfl _ (hv.vars.row (by first | exact .head _ | exact .tail _ (.head _) | exact .tail _ (.tail _ (.head _)) | exact .tail _ (.tail _ (.tail _ (.head _))) | exact .tail _ (.tail _ (.tail _ (.tail _ (.head _)))) | exact .tail _ (.tail _ (.tail _ (.tail _ (.tail _ (.head _))))) | exact .tail _ (.tail _ (.tail _ (.tail _ (.tail _ (.tail _ (.head _)))))) | exact .tail _ (.tail _ (.tail _ (.tail _ (.tail _ (.tail _ (.tail _ (.head _))))))))) _ Try.underlying23 rfl _ rfl ?_)
      | ((with_reducible refine at_load (T := 26) ?_); refine wl_ldv rfl b1 rfl _ (hv.vars.row (by first | exact .head _ | exact .tail _ (.head _) | exact .tail _ (.tail _ (.head _)) | exact .tail _ (.tail _ (.tail _ (.head _))) | exact .tail _ (.tail _ (.tail _ (.tail _ (.head _)))) | exact .tail _ (.tail _ (.tail _ (.tail _ (.tail _ (.head _))))) | exact .tail _ (.tail _ (.tail _ (.tail _ (.tail _ (.tail _ (.head _)))))) | exact .tail _ (.tail _ (.tail _ (.tail _ (.tail _ (.tail _ (.tail _ (.head _))))))))) 3 _ Try.underlying26 rfl infoStr (by decide) rfl ?_)
      | (go_at_call 20; (with_reducible refine (spans_any next ba pa bn bc pn pc l _ _ _ _ hv HP.out HA.out HPN.out).mono ?_); rintro e w1 ⟨sa, sn, sc, rfl, hv1⟩; replace hv := hv1; clear hv1))
    rw [show spV next l = l' from HEQ.out] at hv
    have HSN := Lib.hid (len_rdS (hv.rd Mem.z))
    have hsn : sn ≤ 1000 := by rw [← HSN.out, HL2.out]; exact HPN.out
    go_loopw [4, 16] (fun av i wr => ∃ (k : Nat) (a : Int), k ≤ sn ∧ i = .int .i64 (k : Nat) ∧ av = .int .i64 a ∧ Hid (chkL ro a (spOf (l'.drop k)) = c) ∧ 0 ≤ a ∧ a ≤ 1000000 ∧ Mem w wr [(b1, #[.int .u32 (next : Nat), .slice ba bn bc, .slice pa pn pc])] ((2, .slice sa sn sc, cellsS l') :: R)) (fun _ i _ => sn - (intOf i).toNat)
    case atStart => exact ⟨0, 0, Nat.zero_le _, rfl, rfl, HC, Int.le_refl _, by omega, hv⟩
    case round =>
      clear hv
      obtain ⟨k, a, hk, rfl, rfl, HI, ha0, ha1, hv⟩ := hrel
      by_cases hk2 : k < sn
      · have hki : (k : Int) < (sn : Int) := by omega
        have hkl : k < l'.length := by rw [HSN.out]; exact hk2
        obtain ⟨⟨x, dv, d⟩, hx⟩ : ∃ x, l'[k] = x := ⟨_, rfl⟩
        have hdm := HA2.out l'[k] (List.getElem_mem hkl)
        have hxb := HX.out l'[k] (List.getElem_mem hkl)
        rw [hx] at hdm hxb
        simp only at hdm hxb
        obtain ⟨da, dn, dc, rfl, _⟩ := id (hv.rd (Mem.s hdm))
        have hdn : d.length = dn := len_rd1 (hv.rd (Mem.s hdm))
        have HK : Hid (((cellsS l').drop (k * 2)).take 2 = [.int .i64 x, .slice da dn dc]) := Lib.hid (by rw [cellsS_part l' k hkl, hx])
        have HD := Lib.hid (spOf_drop l' hkl hx)
        obtain ⟨sb, so, _, _, e, _⟩ := (hv.rd Mem.z).some (by rw [cellsS_len]; omega)
        cases e
        have HX1 : Hid (-4611686018427387904 ≤ x) := Lib.hid (by omega)
        have HX2 : Hid (x ≤ 4611686018427387904) := Lib.hid (by omega)
        have HDN : Hid (dn ≤ 1000000) := Lib.hid (by omega)
        have q1 : IntKind.i64.wrap (ro - (dn : Int)) = ro - (dn : Int) := IntWalk.i64_in _ (by omega)
        have q2 : IntKind.i64.wrap (x + (dn : Int)) = x + (dn : Int) := IntWalk.i64_in _ (by omega)
        have HDD : Hid (d.length = dn) := Lib.hid hdn
        have HXB := Lib.hid hxb
        clear hx hdm hkl hdn hxb
        by_cases f1 : dn = 0
        · have hc0 : c = false := by
            have := HI.out
            rw [HD.out, chkL_bad (by simp only [HDD.out]; omega)] at this
            exact this.symm
          subst hc0
          have yf1 : ((dn : Int) == 0) = true := by rw [beq_iff_eq]; omega
          go_wp2_with (first
            | ((with_reducible refine at_load (T := 51) ?_); refine wl_rdv rfl (hv.rd Mem.z) (k * 2) rfl 2 _ Try.underlying51 rfl infoSp (by decide) #[.int .i64 x, .slice da dn dc] HK.out rfl ?_)
            | ((with_reducible refine at_alloc (T := 51) (dst := some 6) ?_); refine wl_newb rfl #[.int .i64 0, .slice none 0 0] 51 (fun _ => rfl) ?_; intro b6 w2 hm2; replace hv := hv.madeAt hm2; clear hm2)
            | ((with_reducible refine at_store (T := 51) ?_); refine wl_stv rfl b6 rfl _ rfl _ (hv.vars.row (by first | exact .head _ | exact .tail _ (.head _) | exact .tail _ (.tail _ (.head _)) | exact .tail _ (.tail _ (.tail _ (.head _))) | exact .tail _ (.tail _ (.tail _ (.tail _ (.head _)))) | exact .tail _ (.tail _ (.tail _ (.tail _ (.tail _ (.head _))))) | exact .tail _ (.tail _ (.tail _ (.tail _ (.tail _ (.tail _ (.head _)))))) | exact .tail _ (.tail _ (.tail _ (.tail _ (.tail _ (.tail _ (.tail _ (.head _))))))))) (hv.vars.sft (by first | exact .head _ | exact .tail _ (.head _) | exact .tail _ (.tail _ (.head _)) | exact .tail _ (.tail _ (.tail _ (.head _))) | exact .tail _ (.tail _ (.tail _ (.tail _ (.head _)))) | exact .tail _ (.tail _ (.tail _ (.tail _ (.tail _ (.head _))))) | exact .tail _ (.tail _ (.tail _ (.tail _ (.tail _ (.tail _ (.head _)))))) | exact .tail _ (.tail _ (.tail _ (.tail _ (.tail _ (.tail _ (.tail _ (.head _))))))))) 2 infoSp rfl rfl (by simp [Value.oneCell']) ?_; intro w2 hw2; (first | (replace hv := hv.set 0 rfl hw2) | (replace hv := hv.set 1 rfl hw2) | (replace hv := hv.set 2 rfl hw2) | (replace hv := hv.set 3 rfl hw2)); clear hw2; simp only [List.set] at hv)
            | ((with_reducible refine at_load (T := 23) ?_); refine wl_ldc rfl _ _ rfl _ (hv.vars.row (by first | exact .head _ | exact .tail _ (.head _) | exact .tail _ (.tail _ (.head _)) | exact .tail _ (.tail _ (.tail _ (.head _))) | exact .tail _ (.tail _ (.tail _ (.tail _ (.head _)))) | exact .tail _ (.tail _ (.tail _ (.tail _ (.tail _ (.head _))))) | exact .tail _ (.tail _ (.tail _ (.tail _ (.tail _ (.tail _ (.head _)))))) | exact .tail _ (.tail _ (.tail _ (.tail _ (.tail _ (.tail _ (.tail _ (.head _))))))))) _ Try.underlying23 rfl _ rfl ?_)
            | ((with_reducible refine at_load (T := 3) ?_); refine wl_ldc rfl _ _ rfl _ (hv.vars.row (by first | exact .head _ | exact .tail _ (.head _) | exact .tail _ (.tail _ (.head _)) | exact .tail _ (.tail _ (.tail _ (.head _))) | exact .tail _ (.tail _ (.tail _ (.tail _ (.head _)))) | exact .tail _ (.tail _ (.tail _ (.tail _ (.tail _ (.head _))))) | exact .tail _ (.tail _ (.tail _ (.tail _ (.tail _ (.tail _ (.head _)))))) | exact .tail _ (.tail _ (.tail _ (.tail _ (.tail _ (.tail _ (.tail _ (.head _))))))))) _ Try.underlying3 rfl _ rfl ?_))
          go_ret
          exact ⟨rfl, hv.below⟩
        · skip
          by_cases f2 : ro < (dn : Int)
          · have hc0 : c = false := by
              have := HI.out
              rw [HD.out, chkL_bad (by simp only [HDD.out]; omega)] at this
              exact this.symm
            subst hc0
            have yf1 : ((dn : Int) == 0) = false := by rw [beq_eq_false_iff_ne]; omega
            have yf2 : decide (ro < (dn : Int)) = true := decide_eq_true f2
            go_wp2_with (first
              | ((with_reducible refine at_load (T := 51) ?_); refine wl_rdv rfl (hv.rd Mem.z) (k * 2) rfl 2 _ Try.underlying51 rfl infoSp (by decide) #[.int .i64 x, .slice da dn dc] HK.out rfl ?_)
              | ((with_reducible refine at_alloc (T := 51) (dst := some 6) ?_); refine wl_newb rfl #[.int .i64 0, .slice none 0 0] 51 (fun _ => rfl) ?_; intro b6 w2 hm2; replace hv := hv.madeAt hm2; clear hm2)
              | ((with_reducible refine at_store (T := 51) ?_); refine wl_stv rfl b6 rfl _ rfl _ (hv.vars.row (by first | exact .head _ | exact .tail _ (.head _) | exact .tail _ (.tail _ (.head _)) | exact .tail _ (.tail _ (.tail _ (.head _))) | exact .tail _ (.tail _ (.tail _ (.tail _ (.head _)))) | exact .tail _ (.tail _ (.tail _ (.tail _ (.tail _ (.head _))))) | exact .tail _ (.tail _ (.tail _ (.tail _ (.tail _ (.tail _ (.head _)))))) | exact .tail _ (.tail _ (.tail _ (.tail _ (.tail _ (.tail _ (.tail _ (.head _))))))))) (hv.vars.sft (by first | exact .head _ | exact .tail _ (.head _) | exact .tail _ (.tail _ (.head _)) | exact .tail _ (.tail _ (.tail _ (.head _))) | exact .tail _ (.tail _ (.tail _ (.tail _ (.head _)))) | exact .tail _ (.tail _ (.tail _ (.tail _ (.tail _ (.head _))))) | exact .tail _ (.tail _ (.tail _ (.tail _ (.tail _ (.tail _ (.head _)))))) | exact .tail _ (.tail _ (.tail _ (.tail _ (.tail _ (.tail _ (.tail _ (.head _))))))))) 2 infoSp rfl rfl (by simp [Value.oneCell']) ?_; intro w2 hw2; (first | (replace hv := hv.set 0 rfl hw2) | (replace hv := hv.set 1 rfl hw2) | (replace hv := hv.set 2 rfl hw2) | (replace hv := hv.set 3 rfl hw2)); clear hw2; simp only [List.set] at hv)
              | ((with_reducible refine at_load (T := 23) ?_); refine wl_ldc rfl _ _ rfl _ (hv.vars.row (by first | exact .head _ | exact .tail _ (.head _) | exact .tail _ (.tail _ (.head _)) | exact .tail _ (.tail _ (.tail _ (.head _))) | exact .tail _ (.tail _ (.tail _ (.tail _ (.head _)))) | exact .tail _ (.tail _ (.tail _ (.tail _ (.tail _ (.head _))))) | exact .tail _ (.tail _ (.tail _ (.tail _ (.tail _ (.tail _ (.head _)))))) | exact .tail _ (.tail _ (.tail _ (.tail _ (.tail _ (.tail _ (.tail _ (.head _))))))))) _ Try.underlying23 rfl _ rfl ?_)
              | ((with_reducible refine at_load (T := 3) ?_); refine wl_ldc rfl _ _ rfl _ (hv.vars.row (by first | exact .head _ | exact .tail _ (.head _) | exact .tail _ (.tail _ (.head _)) | exact .tail _ (.tail _ (.tail _ (.head _))) | exact .tail _ (.tail _ (.tail _ (.tail _ (.head _)))) | exact .tail _ (.tail _ (.tail _ (.tail _ (.tail _ (.head _))))) | exact .tail _ (.tail _ (.tail _ (.tail _ (.tail _ (.tail _ (.head _)))))) | exact .tail _ (.tail _ (.tail _ (.tail _ (.tail _ (.tail _ (.tail _ (.head _))))))))) _ Try.underlying3 rfl _ rfl ?_))
            go_ret
            exact ⟨rfl, hv.below⟩
          · skip
            by_cases f3 : x ≤ a
            · have hc0 : c = false := by
                have := HI.out
                rw [HD.out, chkL_bad (by simp only [HDD.out]; omega)] at this
                exact this.symm
              subst hc0
              have yf1 : ((dn : Int) == 0) = false := by rw [beq_eq_false_iff_ne]; omega
              have yf2 : decide (ro < (dn : Int)) = false := decide_eq_false f2
              have yf3 : decide (x ≤ a) = true := decide_eq_true f3
              go_wp2_with (first
                | ((with_reducible refine at_load (T := 51) ?_); refine wl_rdv rfl (hv.rd Mem.z) (k * 2) rfl 2 _ Try.underlying51 rfl infoSp (by decide) #[.int .i64 x, .slice da dn dc] HK.out rfl ?_)
                | ((with_reducible refine at_alloc (T := 51) (dst := some 6) ?_); refine wl_newb rfl #[.int .i64 0, .slice none 0 0] 51 (fun _ => rfl) ?_; intro b6 w2 hm2; replace hv := hv.madeAt hm2; clear hm2)
                | ((with_reducible refine at_store (T := 51) ?_); refine wl_stv rfl b6 rfl _ rfl _ (hv.vars.row (by first | exact .head _ | exact .tail _ (.head _) | exact .tail _ (.tail _ (.head _)) | exact .tail _ (.tail _ (.tail _ (.head _))) | exact .tail _ (.tail _ (.tail _ (.tail _ (.head _)))) | exact .tail _ (.tail _ (.tail _ (.tail _ (.tail _ (.head _))))) | exact .tail _ (.tail _ (.tail _ (.tail _ (.tail _ (.tail _ (.head _)))))) | exact .tail _ (.tail _ (.tail _ (.tail _ (.tail _ (.tail _ (.tail _ (.head _))))))))) (hv.vars.sft (by first | exact .head _ | exact .tail _ (.head _) | exact .tail _ (.tail _ (.head _)) | exact .tail _ (.tail _ (.tail _ (.head _))) | exact .tail _ (.tail _ (.tail _ (.tail _ (.head _)))) | exact .tail _ (.tail _ (.tail _ (.tail _ (.tail _ (.head _))))) | exact .tail _ (.tail _ (.tail _ (.tail _ (.tail _ (.tail _ (.head _)))))) | exact .tail _ (.tail _ (.tail _ (.tail _ (.tail _ (.tail _ (.tail _ (.head _))))))))) 2 infoSp rfl rfl (by simp [Value.oneCell']) ?_; intro w2 hw2; (first | (replace hv := hv.set 0 rfl hw2) | (replace hv := hv.set 1 rfl hw2) | (replace hv := hv.set 2 rfl hw2) | (replace hv := hv.set 3 rfl hw2)); clear hw2; simp only [List.set] at hv)
                | ((with_reducible refine at_load (T := 23) ?_); refine wl_ldc rfl _ _ rfl _ (hv.vars.row (by first | exact .head _ | exact .tail _ (.head _) | exact .tail _ (.tail _ (.head _)) | exact .tail _ (.tail _ (.tail _ (.head _))) | exact .tail _ (.tail _ (.tail _ (.tail _ (.head _)))) | exact .tail _ (.tail _ (.tail _ (.tail _ (.tail _ (.head _))))) | exact .tail _ (.tail _ (.tail _ (.tail _ (.tail _ (.tail _ (.head _)))))) | exact .tail _ (.tail _ (.tail _ (.tail _ (.tail _ (.tail _ (.tail _ (.head _))))))))) _ Try.underlying23 rfl _ rfl ?_)
                | ((with_reducible refine at_load (T := 3) ?_); refine wl_ldc rfl _ _ rfl _ (hv.vars.row (by first | exact .head _ | exact .tail _ (.head _) | exact .tail _ (.tail _ (.head _)) | exact .tail _ (.tail _ (.tail _ (.head _))) | exact .tail _ (.tail _ (.tail _ (.tail _ (.head _)))) | exact .tail _ (.tail _ (.tail _ (.tail _ (.tail _ (.head _))))) | exact .tail _ (.tail _ (.tail _ (.tail _ (.tail _ (.tail _ (.head _)))))) | exact .tail _ (.tail _ (.tail _ (.tail _ (.tail _ (.tail _ (.tail _ (.head _))))))))) _ Try.underlying3 rfl _ rfl ?_))
              go_ret
              exact ⟨rfl, hv.below⟩
            · skip
              by_cases f4 : ro - (dn : Int) < x
              · have hc0 : c = false := by
                  have := HI.out
                  rw [HD.out, chkL_bad (by simp only [HDD.out]; omega)] at this
                  exact this.symm
                subst hc0
                have yf1 : ((dn : Int) == 0) = false := by rw [beq_eq_false_iff_ne]; omega
                have yf2 : decide (ro < (dn : Int)) = false := decide_eq_false f2
                have yf3 : decide (x ≤ a) = false := decide_eq_false f3
                have yf4 : decide (ro - (dn : Int) < x) = true := decide_eq_true f4
                go_wp2_with (first
                  | ((with_reducible refine at_load (T := 51) ?_); refine wl_rdv rfl (hv.rd Mem.z) (k * 2) rfl 2 _ Try.underlying51 rfl infoSp (by decide) #[.int .i64 x, .slice da dn dc] HK.out rfl ?_)
                  | ((with_reducible refine at_alloc (T := 51) (dst := some 6) ?_); refine wl_newb rfl #[.int .i64 0, .slice none 0 0] 51 (fun _ => rfl) ?_; intro b6 w2 hm2; replace hv := hv.madeAt hm2; clear hm2)
                  | ((with_reducible refine at_store (T := 51) ?_); refine wl_stv rfl b6 rfl _ rfl _ (hv.vars.row (by first | exact .head _ | exact .tail _ (.head _) | exact .tail _ (.tail _ (.head _)) | exact .tail _ (.tail _ (.tail _ (.head _))) | exact .tail _ (.tail _ (.tail _ (.tail _ (.head _)))) | exact .tail _ (.tail _ (.tail _ (.tail _ (.tail _ (.head _))))) | exact .tail _ (.tail _ (.tail _ (.tail _ (.tail _ (.tail _ (.head _)))))) | exact .tail _ (.tail _ (.tail _ (.tail _ (.tail _ (.tail _ (.tail _ (.head _))))))))) (hv.vars.sft (by first | exact .head _ | exact .tail _ (.head _) | exact .tail _ (.tail _ (.head _)) | exact .tail _ (.tail _ (.tail _ (.head _))) | exact .tail _ (.tail _ (.tail _ (.tail _ (.head _)))) | exact .tail _ (.tail _ (.tail _ (.tail _ (.tail _ (.head _))))) | exact .tail _ (.tail _ (.tail _ (.tail _ (.tail _ (.tail _ (.head _)))))) | exact .tail _ (.tail _ (.tail _ (.tail _ (.tail _ (.tail _ (.tail _ (.head _))))))))) 2 infoSp rfl rfl (by simp [Value.oneCell']) ?_; intro w2 hw2; (first | (replace hv := hv.set 0 rfl hw2) | (replace hv := hv.set 1 rfl hw2) | (replace hv := hv.set 2 rfl hw2) | (replace hv := hv.set 3 rfl hw2)); clear hw2; simp only [List.set] at hv)
                  | ((with_reducible refine at_load (T := 23) ?_); refine wl_ldc rfl _ _ rfl _ (hv.vars.row (by first | exact .head _ | exact .tail _ (.head _) | exact .tail _ (.tail _ (.head _)) | exact .tail _ (.tail _ (.tail _ (.head _))) | exact .tail _ (.tail _ (.tail _ (.tail _ (.head _)))) | exact .tail _ (.tail _ (.tail _ (.tail _ (.tail _ (.head _))))) | exact .tail _ (.tail _ (.tail _ (.tail _ (.tail _ (.tail _ (.head _)))))) | exact .tail _ (.tail _ (.tail _ (.tail _ (.tail _ (.tail _ (.tail _ (.head _))))))))) _ Try.underlying23 rfl _ rfl ?_)
                  | ((with_reducible refine at_load (T := 3) ?_); refine wl_ldc rfl _ _ rfl _ (hv.vars.row (by first | exact .head _ | exact .tail _ (.head _) | exact .tail _ (.tail _ (.head _)) | exact .tail _ (.tail _ (.tail _ (.head _))) | exact .tail _ (.tail _ (.tail _ (.tail _ (.head _)))) | exact .tail _ (.tail _ (.tail _ (.tail _ (.tail _ (.head _))))) | exact .tail _ (.tail _ (.tail _ (.tail _ (.tail _ (.tail _ (.head _)))))) | exact .tail _ (.tail _ (.tail _ (.tail _ (.tail _ (.tail _ (.tail _ (.head _))))))))) _ Try.underlying3 rfl _ rfl ?_))
                go_ret
                exact ⟨rfl, hv.below⟩
              · have HI2 : Hid (chkL ro (x + (dn : Int)) (spOf (l'.drop (k + 1))) = c) := Lib.hid (by
                  have := HI.out
                  rw [HD.out, chkL_good (by simp only [HDD.out]; omega)] at this
                  simp only [HDD.out] at this
                  exact this)
                have yf1 : ((dn : Int) == 0) = false := by rw [beq_eq_false_iff_ne]; omega
                have yf2 : decide (ro < (dn : Int)) = false := decide_eq_false f2
                have yf3 : decide (x ≤ a) = false := decide_eq_false f3
                have yf4 : decide (ro - (dn : Int) < x) = false := decide_eq_false f4
                go_wp2_with (first
                  | ((with_reducible refine at_load (T := 51) ?_); refine wl_rdv rfl (hv.rd Mem.z) (k * 2) rfl 2 _ Try.underlying51 rfl infoSp (by decide) #[.int .i64 x, .slice da dn dc] HK.out rfl ?_)
                  | ((with_reducible refine at_alloc (T := 51) (dst := some 6) ?_); refine wl_newb rfl #[.int .i64 0, .slice none 0 0] 51 (fun _ => rfl) ?_; intro b6 w2 hm2; replace hv := hv.madeAt hm2; clear hm2)
                  | ((with_reducible refine at_store (T := 51) ?_); refine wl_stv rfl b6 rfl _ rfl _ (hv.vars.row (by first | exact .head _ | exact .tail _ (.head _) | exact .tail _ (.tail _ (.head _)) | exact .tail _ (.tail _ (.tail _ (.head _))) | exact .tail _ (.tail _ (.tail _ (.tail _ (.head _)))) | exact .tail _ (.tail _ (.tail _ (.tail _ (.tail _ (.head _))))) | exact .tail _ (.tail _ (.tail _ (.tail _ (.tail _ (.tail _ (.head _)))))) | exact .tail _ (.tail _ (.tail _ (.tail _ (.tail _ (.tail _ (.tail _ (.head _))))))))) (hv.vars.sft (by first | exact .head _ | exact .tail _ (.head _) | exact .tail _ (.tail _ (.head _)) | exact .tail _ (.tail _ (.tail _ (.head _))) | exact .tail _ (.tail _ (.tail _ (.tail _ (.head _)))) | exact .tail _ (.tail _ (.tail _ (.tail _ (.tail _ (.head _))))) | exact .tail _ (.tail _ (.tail _ (.tail _ (.tail _ (.tail _ (.head _)))))) | exact .tail _ (.tail _ (.tail _ (.tail _ (.tail _ (.tail _ (.tail _ (.head _))))))))) 2 infoSp rfl rfl (by simp [Value.oneCell']) ?_; intro w2 hw2; (first | (replace hv := hv.set 0 rfl hw2) | (replace hv := hv.set 1 rfl hw2) | (replace hv := hv.set 2 rfl hw2) | (replace hv := hv.set 3 rfl hw2)); clear hw2; simp only [List.set] at hv)
                  | ((with_reducible refine at_load (T := 51) ?_); refine wl_ldv rfl b6 rfl _ (hv.vars.row (by first | exact .head _ | exact .tail _ (.head _) | exact .tail _ (.tail _ (.head _)) | exact .tail _ (.tail _ (.tail _ (.head _))) | exact .tail _ (.tail _ (.tail _ (.tail _ (.head _)))) | exact .tail _ (.tail _ (.tail _ (.tail _ (.tail _ (.head _))))) | exact .tail _ (.tail _ (.tail _ (.tail _ (.tail _ (.tail _ (.head _)))))) | exact .tail _ (.tail _ (.tail _ (.tail _ (.tail _ (.tail _ (.tail _ (.head _))))))))) 2 _ Try.underlying51 rfl infoSp (by decide) rfl ?_)
                  | (go_at_call 27; (with_reducible refine (end_any _ _ _ _ HX1.out HX2.out HDN.out _).mono ?_); rintro e w1 ⟨rfl, hn1⟩; replace hv := hv.new hn1; clear hn1)
                  | ((with_reducible refine at_load (T := 23) ?_); refine wl_ldc rfl _ _ rfl _ (hv.vars.row (by first | exact .head _ | exact .tail _ (.head _) | exact .tail _ (.tail _ (.head _)) | exact .tail _ (.tail _ (.tail _ (.head _))) | exact .tail _ (.tail _ (.tail _ (.tail _ (.head _)))) | exact .tail _ (.tail _ (.tail _ (.tail _ (.tail _ (.head _))))) | exact .tail _ (.tail _ (.tail _ (.tail _ (.tail _ (.tail _ (.head _)))))) | exact .tail _ (.tail _ (.tail _ (.tail _ (.tail _ (.tail _ (.tail _ (.head _))))))))) _ Try.underlying23 rfl _ rfl ?_)
                  | ((with_reducible refine at_load (T := 3) ?_); refine wl_ldc rfl _ _ rfl _ (hv.vars.row (by first | exact .head _ | exact .tail _ (.head _) | exact .tail _ (.tail _ (.head _)) | exact .tail _ (.tail _ (.tail _ (.head _))) | exact .tail _ (.tail _ (.tail _ (.tail _ (.head _)))) | exact .tail _ (.tail _ (.tail _ (.tail _ (.tail _ (.head _))))) | exact .tail _ (.tail _ (.tail _ (.tail _ (.tail _ (.tail _ (.head _)))))) | exact .tail _ (.tail _ (.tail _ (.tail _ (.tail _ (.tail _ (.tail _ (.head _))))))))) _ Try.underlying3 rfl _ rfl ?_))
                go_roundw
                case rel => exact ⟨k + 1, x + (dn : Int), by omega, by go_num, rfl, HI2, by have := HXB.out; omega, by omega, hv.drop⟩
                case measure => simp [intOf]; omega
      · have hki : ¬ (k : Int) < (sn : Int) := by omega
        have hc0 : c = true := by
          have := HI.out
          rw [List.drop_eq_nil_of_le (by rw [HSN.out]; omega)] at this
          exact this.symm
        subst hc0
        go_wp2
        go_ret
        exact ⟨rfl, hv.below⟩
set_option maxRecDepth 100000 in
set_option maxHeartbeats 4000000 in
theorem Room_any (next : Nat) (ba pa : Option Addr) (bn bc pn pc : Nat) (bs : List Nat) (l : List PcV) (w0 w : World) (L : List (Nat × Array Value)) (R : List (Nat × Value × List Value)) (hv0 : Mem w0 w L R) (hb : (1, .slice ba bn bc, cellsB bs) ∈ R) (hp : (2, .slice pa pn pc, cellsP l) ∈ R) (hal : AllP R l) (hpn : pn ≤ 1000) (hbn : bs.length ≤ 1000000) (hdl : ∀ p ∈ l, p.2.2.length ≤ 1000000) :
    Calls Try.prog 17 #[.agg #[.int .u32 (next : Nat), .slice ba bn bc, .slice pa pn pc]] w fun e w' => e = .returned (.int .i64 (room (stOf next bs l))) ∧ New w w' := by
  have hv := hv0.base
  have HBM := Lib.hid hb
  have HP := Lib.hid hp
  have HA := Lib.hid hal
  have HPN := Lib.hid hpn
  have HDL := Lib.hid hdl
  have hbl := len_rd1 (hv0.rd hb)
  have HLP := Lib.hid (len_rdP (hv0.rd hp))
  have hbn2 : bn ≤ 1000000 := by omega
  obtain ⟨ro, hro⟩ : ∃ ro : Int, ro = 256 - (bn : Int) := ⟨_, rfl⟩
  have qro : IntKind.i64.wrap (256 - (bn : Int)) = ro := by rw [← hro]; exact IntWalk.i64_in _ (by omega)
  have HBN := Lib.hid hbn
  have e : room (stOf next bs l) = if chk (stOf next bs l) then ro else 0 := by unfold room; rw [hro, ← hbl]; rfl
  rw [e]
  have kC := fun w0' w' L' R' h1 h2 h3 h4 => Check_any next ba pa bn bc pn pc bs l w0' w' L' R' h1 h2 h3 h4 hpn hbn hdl
  generalize chk (stOf next bs l) = c at *
  clear hv0 hb hp hal hpn hdl hbl hbn hro hbn2 e
  cases c
  · go_enter Try.func17, Try.ntmps17
    go_wp2_with (first
      | ((with_reducible refine at_box (T := 26) (dst := some 1) ?_); refine wl_newb rfl #[.int .u32 (next : Nat), .slice ba bn bc, .slice pa pn pc] 26 (fun _ => rfl) ?_; intro b1 w2 hm2; replace hv := hv.madeAt hm2; clear hm2)
      | ((with_reducible refine at_load (T := 26) ?_); refine wl_ldv rfl b1 rfl _ (hv.vars.row (by first | exact .head _ | exact .tail _ (.head _) | exact .tail _ (.tail _ (.head _)) | exact .tail _ (.tail _ (.tail _ (.head _))) | exact .tail _ (.tail _ (.tail _ (.tail _ (.head _)))) | exact .tail _ (.tail _ (.tail _ (.tail _ (.tail _ (.head _))))) | exact .tail _ (.tail _ (.tail _ (.tail _ (.tail _ (.tail _ (.head _)))))) | exact .tail _ (.tail _ (.tail _ (.tail _ (.tail _ (.tail _ (.tail _ (.head _))))))))) 3 _ Try.underlying26 rfl infoStr (by decide) rfl ?_)
      | (go_at_call 12; (with_reducible refine (kC _ _ _ _ hv HBM.out HP.out HA.out).mono ?_); rintro e w1 ⟨rfl, hn1⟩; replace hv := hv.new hn1; clear hn1)
      | ((with_reducible refine at_load (T := 23) ?_); refine wl_ldc rfl _ _ rfl _ (hv.vars.row (by first | exact .head _ | exact .tail _ (.head _) | exact .tail _ (.tail _ (.head _)) | exact .tail _ (.tail _ (.tail _ (.head _))) | exact .tail _ (.tail _ (.tail _ (.tail _ (.head _)))) | exact .tail _ (.tail _ (.tail _ (.tail _ (.tail _ (.head _))))) | exact .tail _ (.tail _ (.tail _ (.tail _ (.tail _ (.tail _ (.head _)))))) | exact .tail _ (.tail _ (.tail _ (.tail _ (.tail _ (.tail _ (.tail _ (.head _))))))))) _ Try.underlying23 rfl _ rfl ?_))
    go_ret
    exact ⟨rfl, hv.below⟩
  · go_enter Try.func17, Try.ntmps17
    go_wp2_with (first
      | ((with_reducible refine at_box (T := 26) (dst := some 1) ?_); refine wl_newb rfl #[.int .u32 (next : Nat), .slice ba bn bc, .slice pa pn pc] 26 (fun _ => rfl) ?_; intro b1 w2 hm2; replace hv := hv.madeAt hm2; clear hm2)
      | ((with_reducible refine at_load (T := 26) ?_); refine wl_ldv rfl b1 rfl _ (hv.vars.row (by first | exact .head _ | exact .tail _ (.head _) | exact .tail _ (.tail _ (.head _)) | exact .tail _ (.tail _ (.tail _ (.head _))) | exact .tail _ (.tail _ (.tail _ (.tail _ (.head _)))) | exact .tail _ (.tail _ (.tail _ (.tail _ (.tail _ (.head _))))) | exact .tail _ (.tail _ (.tail _ (.tail _ (.tail _ (.tail _ (.head _)))))) | exact .tail _ (.tail _ (.tail _ (.tail _ (.tail _ (.tail _ (.tail _ (.head _))))))))) 3 _ Try.underlying26 rfl infoStr (by decide) rfl ?_)
      | (go_at_call 12; (with_reducible refine (kC _ _ _ _ hv HBM.out HP.out HA.out).mono ?_); rintro e w1 ⟨rfl, hn1⟩; replace hv := hv.new hn1; clear hn1)
      | ((with_reducible refine at_load (T := 23) ?_); refine wl_ldc rfl _ _ rfl _ (hv.vars.row (by first | exact .head _ | exact .tail _ (.head _) | exact .tail _ (.tail _ (.head _)) | exact .tail _ (.tail _ (.tail _ (.head _))) | exact .tail _ (.tail _ (.tail _ (.tail _ (.head _)))) | exact .tail _ (.tail _ (.tail _ (.tail _ (.tail _ (.head _))))) | exact .tail _ (.tail _ (.tail _ (.tail _ (.tail _ (.tail _ (.head _)))))) | exact .tail _ (.tail _ (.tail _ (.tail _ (.tail _ (.tail _ (.tail _ (.head _))))))))) _ Try.underlying23 rfl _ rfl ?_))
    go_ret
    exact ⟨rfl, hv.below⟩
end Go.Proofs.Ytpbeemgigpaacaa
