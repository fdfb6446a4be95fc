/-
  Streams that are alike, held against each other.
-/
import Derived.Test.YtpbeemgigpaacaaWiStr
set_option linter.unusedVariables false
set_option linter.unusedSimpArgs false
namespace Go.Proofs.Ytpbeemgigpaacaa
open Go.Proofs.Wi Go.RowKit
theorem cellsP_get (l : List PcV) {k : Nat} (hk : k < l.length) : (cellsP l)[k * 2]? = some (.int .u32 (l[k].1 : Nat)) ∧ (cellsP l)[k * 2 + 1]? = some l[k].2.1 := by
  have h := cellsP_part l k hk
  have h0 := congrArg (fun x : List Value => x[0]?) h
  have h1 := congrArg (fun x : List Value => x[1]?) h
  simp only [List.getElem?_take, List.getElem?_drop] at h0 h1
  exact ⟨by simpa using h0, by simpa using h1⟩
set_option maxRecDepth 100000 in
set_option maxHeartbeats 4000000 in
theorem Same_alike (next : Nat) (ba pa : Option Addr) (bn bc pn pc : Nat) (ca qa : Option Addr) (cn cc qc : Nat) (bs : List Nat) (l m : List PcV) (w0 w : World) (L : List (Nat × Array Value)) (R : List (Nat × Value × List Value)) (hv0 : Mem w0 w L R) (hba : (1, .slice ba bn bc, cellsB bs) ∈ R) (hbb : (1, .slice ca cn cc, cellsB bs) ∈ R) (hpa : (2, .slice pa pn pc, cellsP l) ∈ R) (hpb : (2, .slice qa pn qc, cellsP m) ∈ R) (hla : AllP R l) (hlb : AllP R m)
    (hlm : l.map (fun p => (p.1, p.2.2)) = m.map (fun p => (p.1, p.2.2))) (hpn : pn ≤ 1000) (hgb : goodB bs) (hgl : ∀ p ∈ l, goodB p.2.2) : Calls Try.prog 11 #[.agg #[.int .u32 (next : Nat), .slice ba bn bc, .slice pa pn pc], .agg #[.int .u32 (next : Nat), .slice ca cn cc, .slice qa pn qc]] w fun e w' => e = .returned (.bool true) ∧ New w w' := by
  have hv := hv0.base
  have HBA := Lib.hid hba
  have HBB := Lib.hid hbb
  have HPA := Lib.hid hpa
  have HPB := Lib.hid hpb
  have HLA := Lib.hid hla
  have HLB := Lib.hid hlb
  have HLM := Lib.hid hlm
  have HGL := Lib.hid hgl
  have HNA := Lib.hid (len_rdP (hv0.rd hpa))
  have HNB := Lib.hid (len_rdP (hv0.rd hpb))
  have kB : ∀ w', Rd w' 1 (.slice ba bn bc) (cellsB bs) → Rd w' 1 (.slice ca cn cc) (cellsB bs) → Calls Try.prog 16 #[.slice ba bn bc, .slice ca cn cc] w' fun e w2 => e = .returned (.bool true) ∧ w' = w2 := fun w' h1 h2 => by
    have := Bytes_any _ _ bs bs w' h1 h2 hgb hgb
    simpa using this
  have e1 : ((next : Int) != (next : Int)) = false := by simp
  have e2 : ((pn : Int) != (pn : Int)) = false := by simp
  clear hv0 hba hbb hpa hpb hla hlb hlm hgb hgl
  go_enter Try.func11, Try.ntmps11
  go_wp2_with (first
    | ((with_reducible refine at_box (T := 26) (dst := some 2) ?_); refine wl_newb rfl #[.int .u32 (next : Nat), .slice ba bn bc, .slice pa pn pc] 26 (fun _ => rfl) ?_; intro b2 w2 hm2; replace hv := hv.madeAt hm2; clear hm2)
    | ((with_reducible refine at_box (T := 26) (dst := some 3) ?_); refine wl_newb rfl #[.int .u32 (next : Nat), .slice ca cn cc, .slice qa pn qc] 26 (fun _ => rfl) ?_; intro b3 w2 hm2; replace hv := hv.madeAt hm2; clear hm2)
    | ((with_reducible refine at_load (T := 22) ?_); refine wl_ldc rfl _ _ rfl _ (hv.vars.row (by first | exact .head _ | exact .tail _ (.head _) | exact .tail _ (.tail _ (.head _)) | exact .tail _ (.tail _ (.tail _ (.head _))) | exact .tail _ (.tail _ (.tail _ (.tail _ (.head _)))) | exact .tail _ (.tail _ (.tail _ (.tail _ (.tail _ (.head _))))) | exact .tail _ (.tail _ (.tail _ (.tail _ (.tail _ (.tail _ (.head _)))))) | exact .tail _ (.tail _ (.tail _ (.tail _ (.tail _ (.tail _ (.tail _ (.head _))))))))) _ Try.underlying22 rfl _ rfl ?_)
    | ((with_reducible refine at_load (T := 23) ?_); refine wl_ldc rfl _ _ rfl _ (hv.vars.row (by first | exact .head _ | exact .tail _ (.head _) | exact .tail _ (.tail _ (.head _)) | exact .tail _ (.tail _ (.tail _ (.head _))) | exact .tail _ (.tail _ (.tail _ (.tail _ (.head _)))) | exact .tail _ (.tail _ (.tail _ (.tail _ (.tail _ (.head _))))) | exact .tail _ (.tail _ (.tail _ (.tail _ (.tail _ (.tail _ (.head _)))))) | exact .tail _ (.tail _ (.tail _ (.tail _ (.tail _ (.tail _ (.tail _ (.head _))))))))) _ Try.underlying23 rfl _ rfl ?_)
    | ((with_reducible refine at_load (T := 24) ?_); refine wl_ldc rfl _ _ rfl _ (hv.vars.row (by first | exact .head _ | exact .tail _ (.head _) | exact .tail _ (.tail _ (.head _)) | exact .tail _ (.tail _ (.tail _ (.head _))) | exact .tail _ (.tail _ (.tail _ (.tail _ (.head _)))) | exact .tail _ (.tail _ (.tail _ (.tail _ (.tail _ (.head _))))) | exact .tail _ (.tail _ (.tail _ (.tail _ (.tail _ (.tail _ (.head _)))))) | exact .tail _ (.tail _ (.tail _ (.tail _ (.tail _ (.tail _ (.tail _ (.head _))))))))) _ Try.underlying24 rfl _ rfl ?_)
    | (go_at_call 16; (with_reducible refine (kB _ (hv.rd HBA.out) (hv.rd HBB.out)).mono ?_); rintro e w1 ⟨rfl, rfl⟩))
  go_loopw [5] (fun i wr => ∃ k : Nat, k ≤ pn ∧ i = .int .i64 (k : Nat) ∧ Mem w wr [(b3, #[.int .u32 (next : Nat), .slice ca cn cc, .slice qa pn qc]), (b2, #[.int .u32 (next : Nat), .slice ba bn bc, .slice pa pn pc])] R) (fun i _ => pn - (intOf i).toNat)
  case atStart => exact ⟨0, Nat.zero_le _, rfl, hv⟩
  case round =>
    clear hv
    obtain ⟨k, hk, rfl, hv⟩ := hrel
    by_cases hk2 : k < pn
    · have hki : (k : Int) < (pn : Int) := by omega
      have hkb : (k : Int) ≤ 1000 := by omega
      have hkl : k < l.length := by rw [HNA.out]; exact hk2
      have hkm : k < m.length := by rw [HNB.out]; exact hk2
      obtain ⟨⟨sq, dv, d⟩, hx⟩ : ∃ x, l[k] = x := ⟨_, rfl⟩
      obtain ⟨⟨sq', ev, d'⟩, hy⟩ : ∃ x, m[k] = x := ⟨_, rfl⟩
      have hxy : (sq, d) = (sq', d') := by
        have h := congrArg (fun z => z[k]?) HLM.out
        simp only [List.getElem?_map, List.getElem?_eq_getElem hkl, List.getElem?_eq_getElem hkm, hx, hy, Option.map_some, Option.some.injEq] at h
        exact h
      cases hxy
      have hdm := HLA.out l[k] (List.getElem_mem hkl)
      have hem := HLB.out m[k] (List.getElem_mem hkm)
      have hgd := HGL.out l[k] (List.getElem_mem hkl)
      have hga := cellsP_get l hkl
      have hgb := cellsP_get m hkm
      rw [hx] at hdm hgd hga
      rw [hy] at hem hgb
      simp only at hdm hem hgd hga hgb
      obtain ⟨da, dn, dc, rfl, _⟩ := id (hv.rd hdm)
      obtain ⟨ea, en, ec, rfl, _⟩ := id (hv.rd hem)
      have HA0 := Lib.hid hga.1
      have HA1 := Lib.hid hga.2
      have HB0 := Lib.hid hgb.1
      have HB1 := Lib.hid hgb.2
      have kD : Hid (∀ w', Rd w' 1 (.slice da dn dc) (cellsB d) → Rd w' 1 (.slice ea en ec) (cellsB d) → Calls Try.prog 16 #[.slice da dn dc, .slice ea en ec] w' fun e w2 => e = .returned (.bool true) ∧ w' = w2) := Lib.hid (fun w' h1 h2 => by
        have := Bytes_any _ _ d d w' h1 h2 hgd hgd
        simpa using this)
      have HDMa := Lib.hid hdm
      have HDMb := Lib.hid hem
      obtain ⟨pb, po, _, _, e, _⟩ := (hv.rd HPA.out).some (by rw [cellsP_len]; omega)
      cases e
      obtain ⟨qb, qo, _, _, e, _⟩ := (hv.rd HPB.out).some (by rw [cellsP_len]; omega)
      cases e
      have e3 : ((sq : Int) != (sq : Int)) = false := by simp
      clear hx hy hdm hem hgd hga hgb hkl hkm
      go_wp2_with (first
        | ((with_reducible refine at_load (T := 24) ?_); refine wl_ldc rfl _ _ rfl _ (hv.vars.row (by first | exact .head _ | exact .tail _ (.head _) | exact .tail _ (.tail _ (.head _)) | exact .tail _ (.tail _ (.tail _ (.head _))) | exact .tail _ (.tail _ (.tail _ (.tail _ (.head _)))) | exact .tail _ (.tail _ (.tail _ (.tail _ (.tail _ (.head _))))) | exact .tail _ (.tail _ (.tail _ (.tail _ (.tail _ (.tail _ (.head _)))))) | exact .tail _ (.tail _ (.tail _ (.tail _ (.tail _ (.tail _ (.tail _ (.head _))))))))) _ Try.underlying24 rfl _ rfl ?_))
      have HPAr := Lib.hid (Any.rd_start hv HPA.out)
      have HPBr := Lib.hid (Any.rd_start hv HPB.out)
      have HDA := Lib.hid (Any.rd_start hv HDMa.out)
      have HDB := Lib.hid (Any.rd_start hv HDMb.out)
      refine Any.wp_region_walk [⟨[], none⟩, ⟨[1001], none⟩, ⟨[], none⟩, ⟨[], none⟩, ⟨[], none⟩, ⟨[], none⟩, ⟨[], none⟩, ⟨[1000], none⟩, ⟨[], none⟩, ⟨[], none⟩, ⟨[], none⟩, ⟨[], none⟩, ⟨[], none⟩, ⟨[], none⟩, ⟨[], none⟩, ⟨[1001], none⟩, ⟨[], none⟩, ⟨[], none⟩, ⟨[], none⟩, ⟨[], none⟩, ⟨[], none⟩, ⟨[1000], none⟩, ⟨[], none⟩, ⟨[], none⟩, ⟨[], none⟩, ⟨[], none⟩, ⟨[], none⟩, ⟨[], none⟩, ⟨[], none⟩] [.val, .val, .val, .val, .val, .val, .val, .val, .val, .val, .val, .val, .val, .val, .val, .val, .val, .val, .val, .val, .val, .val, .val, .val, .val, .val, .val, .val, .val] (by kernel_rfl) (by kernel_rfl) hv.vars ?_
      simp only [List.length_cons, List.length_nil, Nat.zero_add, Any.someVals]
      iterate 29 apply Exists.intro
      repeat (first
        | (refine Any.E_off rfl ?_; simp only [Act.put, List.setIfInBounds_toArray, List.set_cons_succ, List.set_cons_zero])
        | (apply Any.E_pureq rfl rfl rfl
           case h => intro K hK; go_big_quiet_op; (refine hK _ ?_; rfl)
           case hr => exact fun _ => rfl
           simp only [Act.put, List.setIfInBounds_toArray, List.set_cons_succ, List.set_cons_zero])
        | (apply Any.E_val rfl rfl rfl rfl
           case h =>
             intro E' hA K hK
             first
               | ((with_reducible refine Any.at_qload (T := 24) ?_); refine Any.q_ldc 1001 hA (by decide) rfl rfl _ Try.underlying24 rfl _ rfl ?_; refine hK _ ?_; rfl)
               | ((with_reducible refine Any.at_qload (T := 24) ?_); refine Any.q_ldc 1000 hA (by decide) rfl rfl _ Try.underlying24 rfl _ rfl ?_; refine hK _ ?_; rfl)
               | ((with_reducible refine Any.at_qload (T := 22) ?_); refine Any.q_rd HPAr.out (k * 2) rfl _ Try.underlying22 rfl (.int .u32 (sq : Nat)) HA0.out ?_; refine hK _ ?_; rfl)
               | ((with_reducible refine Any.at_qload (T := 22) ?_); refine Any.q_rd HPBr.out (k * 2) rfl _ Try.underlying22 rfl (.int .u32 (sq : Nat)) HB0.out ?_; refine hK _ ?_; rfl)
               | ((with_reducible refine Any.at_qload (T := 23) ?_); refine Any.q_rd HPAr.out (k * 2 + 1) rfl _ Try.underlying23 rfl (.slice da dn dc) HA1.out ?_; refine hK _ ?_; rfl)
               | ((with_reducible refine Any.at_qload (T := 23) ?_); refine Any.q_rd HPBr.out (k * 2 + 1) rfl _ Try.underlying23 rfl (.slice ea en ec) HB1.out ?_; refine hK _ ?_; rfl)
               | (go_big_quiet_op; first
                 | (refine hK _ ?_; rfl)
                 | (refine ⟨_, fun _ _ => rfl, ?_⟩; refine hK _ ?_; rfl)
                 | (apply Exists.intro; refine ⟨fun w1 hw1 => ?_, ?_⟩; · (first
                     | (go_at_call 16; exact Any.calls_VEq (kD.out _ (hw1.rdold HDA.out.1 HDA.out.2) (hw1.rdold HDB.out.1 HDB.out.2)) hw1))
                    refine hK _ ?_; rfl))
           case hD => rfl
           simp only [Act.put, List.setIfInBounds_toArray, List.set_cons_succ, List.set_cons_zero])
        | ((with_reducible refine Any.at_ealloc ?_); refine Any.E_lay rfl rfl rfl (fun _ => rfl) ?_; intro B; simp only [Act.put, List.setIfInBounds_toArray, List.set_cons_succ, List.set_cons_zero]))
      try any_goals exact undef
      refine Any.E_nil ?_
      intro w9 hE9
      replace hv : Mem w w9 [(b3, #[.int .u32 (next : Nat), .slice ca cn cc, .slice (some ⟨qb, qo, none⟩) pn qc]), (b2, #[.int .u32 (next : Nat), .slice ba bn bc, .slice (some ⟨pb, po, none⟩) pn pc])] R := hE9.mem hv [1000, 1001] (by decide)
      clear hE9
      go_wp2
      go_roundw
      case rel => exact ⟨k + 1, by omega, by go_num, hv⟩
      case measure => simp [intOf]; omega
    · have hki : ¬ (k : Int) < (pn : Int) := by omega
      go_wp2_with (first
        | ((with_reducible refine at_load (T := 24) ?_); refine wl_ldc rfl _ _ rfl _ (hv.vars.row (by first | exact .head _ | exact .tail _ (.head _) | exact .tail _ (.tail _ (.head _)) | exact .tail _ (.tail _ (.tail _ (.head _))) | exact .tail _ (.tail _ (.tail _ (.tail _ (.head _)))) | exact .tail _ (.tail _ (.tail _ (.tail _ (.tail _ (.head _))))) | exact .tail _ (.tail _ (.tail _ (.tail _ (.tail _ (.tail _ (.head _)))))) | exact .tail _ (.tail _ (.tail _ (.tail _ (.tail _ (.tail _ (.tail _ (.head _))))))))) _ Try.underlying24 rfl _ rfl ?_))
      go_ret
      exact ⟨rfl, hv.below⟩
end Go.Proofs.Ytpbeemgigpaacaa
