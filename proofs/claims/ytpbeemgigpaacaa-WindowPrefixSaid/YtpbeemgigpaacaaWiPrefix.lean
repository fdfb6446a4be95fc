/-
  The walk of the law WindowPrefix.
-/
import Derived.Test.YtpbeemgigpaacaaWiAll
import Derived.Test.YtpbeemgigpaacaaAnyD
set_option linter.unusedVariables false
set_option linter.unusedSimpArgs false
namespace Go.Proofs.Wi
open Go Go.RowKit
theorem cellsT_len (l : List PtV) : (cellsT l).length = l.length * 3 := len_flat (en := encT) (fun _ => rfl) l
theorem cellsT_get (l : List PtV) {k : Nat} (hk : k < l.length) : (cellsT l)[k * 3]? = some (.int .i64 l[k].1) ∧ (cellsT l)[k * 3 + 1]? = some (.int .i64 l[k].2.1) ∧ (cellsT l)[k * 3 + 2]? = some (.bool l[k].2.2) := by
  have h := fun j (hj : j < 3) => get_flat (en := encT) (fun _ => rfl) l k j hj
  refine ⟨?_, ?_, ?_⟩
  · have := h 0 (by omega)
    rw [Nat.add_zero, List.getElem?_eq_getElem hk] at this
    exact this
  · have := h 1 (by omega)
    rw [List.getElem?_eq_getElem hk] at this
    exact this
  · have := h 2 (by omega)
    rw [List.getElem?_eq_getElem hk] at this
    exact this
theorem and_rng (x : Int) (m : Int) (k : Nat) (hm : m = (k : Int)) (hk : k < 4611686018427387904) : ∃ f : Nat, f ≤ k ∧ bits .and .i64 x m = (f : Int) := by
  refine ⟨(BitVec.ofInt IntKind.i64.bits x &&& BitVec.ofInt IntKind.i64.bits m).toNat, ?_, ?_⟩
  · rw [BitVec.toNat_and]
    refine Nat.le_trans Nat.and_le_right ?_
    subst hm
    rw [BitVec.ofInt_natCast, BitVec.toNat_ofNat]
    exact Nat.mod_le _ _
  · have hb : (BitVec.ofInt IntKind.i64.bits x &&& BitVec.ofInt IntKind.i64.bits m).toNat ≤ k := by
      rw [BitVec.toNat_and]
      refine Nat.le_trans Nat.and_le_right ?_
      subst hm
      rw [BitVec.ofInt_natCast, BitVec.toNat_ofNat]
      exact Nat.mod_le _ _
    show IntKind.i64.wrap (((BitVec.ofInt IntKind.i64.bits x &&& BitVec.ofInt IntKind.i64.bits m).toNat : Nat) : Int) = _
    exact IntWalk.i64_in _ (by omega)
theorem AppRow.zero (B : Nat) : AppRow (.slice (some ⟨B, 0, none⟩) 0 0) 1 [] (B, #[]) := ⟨0, 0, rfl, rfl, Nat.le_refl _, Nat.zero_le _, rfl, rfl⟩
end Go.Proofs.Wi
namespace Go.Proofs.Ytpbeemgigpaacaa
open Go.Proofs.Wi Go.RowKit
def TakeN (w0 : World) (L : List (Nat × Array Value)) (R : List (Nat × Value × List Value)) (s : St) (seq : Nat) (data : List Nat) (e : Ending) (w' : World) : Prop :=
  ∃ (nx : Nat) (ba : Option Addr) (bn bc : Nat) (pa : Option Addr) (pn pc : Nat) (l : List PcV) (R' : List (Nat × Value × List Value)) (b : List Nat) (rest : List Sp) (qn : Nat),
    e = .returned (.tuple #[.agg #[.int .u32 (nx : Nat), .slice ba bn bc, .slice pa pn pc], .int .i64 (qn : Nat)]) ∧ Mem w0 w' L R' ∧ InS R' nx (.slice ba bn bc) (.slice pa pn pc) (outS s b rest) l ∧ Took (gF s seq data) b rest ∧ b.length = qn ∧ ∀ x ∈ R, x ∈ R'
theorem TakeS.n {w0 : World} {L : List (Nat × Array Value)} {R : List (Nat × Value × List Value)} {s : St} {seq : Nat} {data : List Nat} {e : Ending} {w' : World} (h : TakeS w0 L R s seq data e w') : TakeN w0 L R s seq data e w' := by
  obtain ⟨nx, ba, bn, bc, pa, pn, pc, l, R', b, rest, h1, h2, h3, h4⟩ := h
  exact ⟨nx, ba, bn, bc, pa, pn, pc, l, R' ++ R, b, rest, b.length, h1, h2, h3, h4, rfl, fun x hx => List.mem_append_right _ hx⟩
set_option maxRecDepth 100000 in
set_option maxHeartbeats 4000000 in
theorem Pre_c1 (aa la : Option Addr) (an ac ln lc next : Nat) (all : List Nat) (pl : List PtV) (w : World) (R : List (Nat × Value × List Value)) (hv : Mem w w [] R) (ha : (1, .slice aa an ac, cellsB all) ∈ R) (hl : (3, .slice la ln lc, cellsT pl) ∈ R) (h0 : 1000 < an) : Calls Try.prog 5 #[.slice aa an ac, .int .u32 (next : Nat), .slice la ln lc] w (fun e w' => e = .returned (.bool true) ∧ New w w') := by
  have y0 : decide ((1000 : Int) < (an : Int)) = true := decide_eq_true (by omega)
  have z0 : (1000 : Int) < (an : Int) := by omega
  go_enter Try.func5, Try.ntmps5
  go_wp2_with (first
    | (go_at_call 9; (with_reducible refine (heads25 _).mono ?_); rintro e w1 ⟨rfl, hn1⟩; replace hv := hv.new hn1; clear hn1))
  go_ret
  exact ⟨rfl, hv.below⟩
set_option maxRecDepth 100000 in
set_option maxHeartbeats 4000000 in
theorem Pre_c2 (aa la : Option Addr) (an ac ln lc next : Nat) (all : List Nat) (pl : List PtV) (w : World) (R : List (Nat × Value × List Value)) (hv : Mem w w [] R) (ha : (1, .slice aa an ac, cellsB all) ∈ R) (hl : (3, .slice la ln lc, cellsT pl) ∈ R) (h0 : an ≤ 1000) (h1 : 80 < ln) : Calls Try.prog 5 #[.slice aa an ac, .int .u32 (next : Nat), .slice la ln lc] w (fun e w' => e = .returned (.bool true) ∧ New w w') := by
  have y0 : decide ((1000 : Int) < (an : Int)) = false := decide_eq_false (by omega)
  have z0 : ¬ (1000 : Int) < (an : Int) := by omega
  have y1 : decide ((80 : Int) < (ln : Int)) = true := decide_eq_true (by omega)
  have z1 : (80 : Int) < (ln : Int) := by omega
  go_enter Try.func5, Try.ntmps5
  go_wp2_with (first
    | (go_at_call 9; (with_reducible refine (heads25 _).mono ?_); rintro e w1 ⟨rfl, hn1⟩; replace hv := hv.new hn1; clear hn1))
  go_ret
  exact ⟨rfl, hv.below⟩
set_option maxRecDepth 100000 in
set_option maxHeartbeats 16000000 in
theorem Pre_yes (aa la : Option Addr) (an ac ln lc next : Nat) (all : List Nat) (pl : List PtV) (w : World) (R : List (Nat × Value × List Value)) (hv : Mem w w [] R) (ha : (1, .slice aa an ac, cellsB all) ∈ R) (hl : (3, .slice la ln lc, cellsT pl) ∈ R) (hga : goodB all) (hnxt : next < 4294967296) (h0 : an ≤ 1000) (h1 : ln ≤ 80) : Calls Try.prog 5 #[.slice aa an ac, .int .u32 (next : Nat), .slice la ln lc] w (fun e w' => e = .returned (.bool true) ∧ New w w') := by
  have hla := len_rd1 (hv.rd ha)
  have HLA := Lib.hid hla
  have HA := Lib.hid ha
  have HL := Lib.hid hl
  have HGA := Lib.hid hga
  have HALL : Hid (all.length ≤ 1000) := Lib.hid (by omega)
  have HAN := Lib.hid h0
  have HAC : Hid (an ≤ ac) := Lib.hid (by
    obtain ⟨_, _, _, e, _, g, _⟩ := hv.rd ha
    cases e; exact g)
  have HPL : Hid (pl.length = ln) := Lib.hid (by
    obtain ⟨_, _, _, e, g, _⟩ := hv.rd hl
    cases e
    rw [cellsT_len] at g; omega)
  have y0 : decide ((1000 : Int) < (an : Int)) = false := decide_eq_false (by omega)
  have z0 : ¬ (1000 : Int) < (an : Int) := by omega
  have y1 : decide ((80 : Int) < (ln : Int)) = false := decide_eq_false (by omega)
  have z1 : ¬ (80 : Int) < (ln : Int) := by omega
  have HL80 := Lib.hid h1
  have HNT := Lib.hid hnxt
  clear ha hl hga hla h0 h1 hnxt
  replace hv := (hv.old (Rd.nil w 2)).old (Rd.nil w 1)
  go_enter Try.func5, Try.ntmps5
  go_wp2_with (first
    | ((with_reducible refine at_build (T := 26) ?_); refine wl_build rfl _ rfl (built_strn _) ?_)
    | ((with_reducible refine at_alloc (T := 26) (dst := some 7) ?_); refine wl_newb rfl #[.int .u32 0, .slice none 0 0, .slice none 0 0] 26 (fun _ => rfl) ?_; intro b7 w2 hm2; replace hv := hv.madeAt hm2; clear hm2)
    | ((with_reducible refine at_store (T := 26) ?_); refine wl_stv rfl b7 rfl _ rfl _ (hv.vars.row (by first | exact .head _ | exact .tail _ (.head _) | exact .tail _ (.tail _ (.head _)) | exact .tail _ (.tail _ (.tail _ (.head _))) | exact .tail _ (.tail _ (.tail _ (.tail _ (.head _)))) | exact .tail _ (.tail _ (.tail _ (.tail _ (.tail _ (.head _))))) | exact .tail _ (.tail _ (.tail _ (.tail _ (.tail _ (.tail _ (.head _)))))) | exact .tail _ (.tail _ (.tail _ (.tail _ (.tail _ (.tail _ (.tail _ (.head _))))))))) (hv.vars.sft (by first | exact .head _ | exact .tail _ (.head _) | exact .tail _ (.tail _ (.head _)) | exact .tail _ (.tail _ (.tail _ (.head _))) | exact .tail _ (.tail _ (.tail _ (.tail _ (.head _)))) | exact .tail _ (.tail _ (.tail _ (.tail _ (.tail _ (.head _))))) | exact .tail _ (.tail _ (.tail _ (.tail _ (.tail _ (.tail _ (.head _)))))) | exact .tail _ (.tail _ (.tail _ (.tail _ (.tail _ (.tail _ (.tail _ (.head _))))))))) 3 infoStr rfl rfl (by simp [Value.oneCell']) ?_; intro w2 hw2; (first | (replace hv := hv.set 0 rfl hw2) | (replace hv := hv.set 1 rfl hw2) | (replace hv := hv.set 2 rfl hw2) | (replace hv := hv.set 3 rfl hw2) | (replace hv := hv.set 4 rfl hw2) | (replace hv := hv.set 5 rfl hw2) | (replace hv := hv.set 6 rfl hw2) | (replace hv := hv.set 7 rfl hw2)); clear hw2; simp only [List.set] at hv))
  go_loopw [8, 9] (fun ov iv wr => ∃ (i p nx bn bc pn pc : Nat) (ba pa : Option Addr) (s : St) (l : List PcV) (R1 : List (Nat × Value × List Value)) (outl : List Nat) (O : List (Nat × Array Value)), i ≤ ln ∧ iv = .int .i64 (i : Nat) ∧ Mem w wr ((b7, #[.int .u32 (nx : Nat), .slice ba bn bc, .slice pa pn pc]) :: O) R1 ∧ Hid (OwnL 1 ov (cellsB outl) O) ∧ Hid (∀ x ∈ R, x ∈ R1) ∧ Hid (InS R1 nx (.slice ba bn bc) (.slice pa pn pc) s l) ∧ Hid (Agr all next s p) ∧ Hid (outl ++ s.bytes = all.take p)) (fun _ iv _ => ln - (intOf iv).toNat)
  case atStart => exact ⟨0, 0, next, 0, 0, 0, 0, none, none, ⟨next, [], []⟩, [], _, [], [], Nat.zero_le _, rfl, hv, Lib.hid (OwnL.nil 1), Lib.hid (fun x hx => Mem.s (Mem.s hx)), Lib.hid ⟨Mem.z, Mem.s Mem.z, fun p hp => (List.not_mem_nil hp).elim, rfl⟩, Lib.hid (Agr.start all next HNT.out), Lib.hid (by rw [List.take_zero]; rfl)⟩
  case round =>
    clear hv
    obtain ⟨i, p, nx, bn, bc, pn, pc, ba, pa, s, l, R1, outl, O, hi0, rfl, hv, HOU, HRS, HIN, HAG, HBY⟩ := hrel
    obtain ⟨oa, on, oc, rfl, hon⟩ := id HOU.out.slice
    have HON : Hid (outl.length ≤ 1000) := Lib.hid (by
      have := congrArg List.length HBY.out
      rw [List.length_append, List.length_take] at this
      have := HALL.out
      omega)
    have HBN := Lib.hid (len_rd1 (hv.rd HIN.out.b))
    by_cases hi2 : i < ln
    · have hki : (i : Int) < (ln : Int) := by omega
      have hib : (i : Int) ≤ 5000 := by have := HL80.out; omega
      have HIK := Lib.hid hi2
      have hil : i < pl.length := by rw [HPL.out]; exact hi2
      obtain ⟨⟨x, y, rd⟩, hx⟩ : ∃ z, pl[i] = z := ⟨_, rfl⟩
      obtain ⟨g1, g2, g3⟩ := cellsT_get pl hil
      rw [hx] at g1 g2 g3
      have HX1 := Lib.hid g1
      have HX2 := Lib.hid g2
      have HX3 := Lib.hid g3
      obtain ⟨lb, lo, _, _, e, _⟩ := (hv.rd (HRS.out _ HL.out)).some (by rw [cellsT_len, HPL.out]; omega)
      cases e
      have HPR := Lib.hid (Any.rd_start (hv.keep (List.sublist_append_left [(b7, #[.int .u32 (nx : Nat), .slice ba bn bc, .slice pa pn pc])] O)) (HRS.out _ HL.out))
      obtain ⟨fr, hfr, m1⟩ := and_rng x 1023 1023 rfl (by omega)
      obtain ⟨nn, hnn, m2⟩ := and_rng y 255 255 rfl (by omega)
      clear hx hil g1 g2 g3 hi0
      go_wp2
      refine Any.wp_region_walk [⟨[], none⟩, ⟨[], none⟩, ⟨[], none⟩, ⟨[], none⟩, ⟨[], none⟩, ⟨[], none⟩, ⟨[], none⟩, ⟨[], none⟩, ⟨[], none⟩, ⟨[], none⟩, ⟨[], none⟩, ⟨[], none⟩, ⟨[], none⟩, ⟨[], none⟩] [.val, .val, .val, .val, .val, .val, .val, .val, .val, .val, .val, .val, .val, .val] (by kernel_rfl) (by kernel_rfl) (hv.vars.keep (List.sublist_append_left [(b7, #[.int .u32 (nx : Nat), .slice ba bn bc, .slice pa pn pc])] O)) ?_
      simp only [List.length_cons, List.length_nil, Nat.zero_add, Any.someVals]
      iterate 14 apply Exists.intro
      repeat (first
        | (refine Any.E_off rfl ?_; simp only [Act.put, List.setIfInBounds_toArray, List.set_cons_succ, List.set_cons_zero])
        | (apply Any.E_pureq rfl rfl rfl
           case h => intro K hK; go_big_quiet_op; (refine hK _ ?_; rfl)
           case hr => exact fun _ => rfl
           simp only [Act.put, List.setIfInBounds_toArray, List.set_cons_succ, List.set_cons_zero])
        | (apply Any.E_val rfl rfl rfl rfl
           case h =>
             intro E' hA K hK
             first
               | ((with_reducible refine Any.at_qload (T := 3) ?_); refine Any.q_rd HPR.out (i * 3) rfl _ Try.underlying3 rfl (.int .i64 x) HX1.out ?_; refine hK _ ?_; rfl)
               | ((with_reducible refine Any.at_qload (T := 3) ?_); refine Any.q_rd HPR.out (i * 3 + 1) rfl _ Try.underlying3 rfl (.int .i64 y) HX2.out ?_; refine hK _ ?_; rfl)
               | (go_big_quiet_op; first
                 | (refine hK _ ?_; rfl)
                 | (refine ⟨_, fun _ _ => rfl, ?_⟩; refine hK _ ?_; rfl)
                 | (apply Exists.intro; refine ⟨fun w1 hw1 => ?_, ?_⟩; · (first
                     | fail)
                    refine hK _ ?_; rfl))
           case hD => rfl
           simp only [Act.put, List.setIfInBounds_toArray, List.set_cons_succ, List.set_cons_zero])
        | ((with_reducible refine Any.at_ealloc ?_); refine Any.E_lay rfl rfl rfl (fun _ => rfl) ?_; intro B; simp only [Act.put, List.setIfInBounds_toArray, List.set_cons_succ, List.set_cons_zero]))
      try any_goals exact undef
      refine Any.E_nil ?_
      intro w9 hE9
      replace hv : Mem w w9 ([(b7, #[.int .u32 (nx : Nat), .slice ba bn bc, .slice pa pn pc])] ++ O) R1 := hE9.memr hv [1000] (by decide)
      clear hE9
      simp only [List.cons_append, List.nil_append] at hv
      cases rd with
      | true =>
        go_wp2_with (first
          | ((with_reducible refine at_load (T := 4) ?_); refine wl_rd rfl (c := cellsT pl) (hv.rd (HRS.out _ HL.out)) (i * 3 + 2) rfl _ Try.underlying4 rfl (.bool true) HX3.out ?_)
          | ((with_reducible refine at_load (T := 26) ?_); refine wl_ldv rfl _ rfl _ (hv.vars.row (by first | exact .head _ | exact .tail _ (.head _) | exact .tail _ (.tail _ (.head _)) | exact .tail _ (.tail _ (.tail _ (.head _))) | exact .tail _ (.tail _ (.tail _ (.tail _ (.head _)))) | exact .tail _ (.tail _ (.tail _ (.tail _ (.tail _ (.head _))))) | exact .tail _ (.tail _ (.tail _ (.tail _ (.tail _ (.tail _ (.head _)))))) | exact .tail _ (.tail _ (.tail _ (.tail _ (.tail _ (.tail _ (.tail _ (.head _))))))))) 3 _ Try.underlying26 rfl infoStr (by decide) rfl ?_)
          | (go_at_call 14; (with_reducible refine (Read_S hv HIN.out HAG.out.ok (nn : Int)).mono ?_); rintro e w1 ⟨ba2, bn2, bc2, ga, gn, gc, R2, rfl, hv1, hI2, hG2⟩; replace hv := hv1; clear hv1; have HI2 := Lib.hid hI2; have HG2 := Lib.hid hG2; clear hI2 hG2)
          | ((with_reducible refine at_alloc (T := 26) (dst := some 12) ?_); refine wl_newb rfl #[.int .u32 0, .slice none 0 0, .slice none 0 0] 26 (fun _ => rfl) ?_; intro b12 w2 hm2; replace hv := hv.madeAt hm2; clear hm2)
          | ((with_reducible refine at_store (T := 26) ?_); refine wl_stv rfl b12 rfl _ rfl _ (hv.vars.row (by first | exact .head _ | exact .tail _ (.head _) | exact .tail _ (.tail _ (.head _)) | exact .tail _ (.tail _ (.tail _ (.head _))) | exact .tail _ (.tail _ (.tail _ (.tail _ (.head _)))) | exact .tail _ (.tail _ (.tail _ (.tail _ (.tail _ (.head _))))) | exact .tail _ (.tail _ (.tail _ (.tail _ (.tail _ (.tail _ (.head _)))))) | exact .tail _ (.tail _ (.tail _ (.tail _ (.tail _ (.tail _ (.tail _ (.head _))))))))) (hv.vars.sft (by first | exact .head _ | exact .tail _ (.head _) | exact .tail _ (.tail _ (.head _)) | exact .tail _ (.tail _ (.tail _ (.head _))) | exact .tail _ (.tail _ (.tail _ (.tail _ (.head _)))) | exact .tail _ (.tail _ (.tail _ (.tail _ (.tail _ (.head _))))) | exact .tail _ (.tail _ (.tail _ (.tail _ (.tail _ (.tail _ (.head _)))))) | exact .tail _ (.tail _ (.tail _ (.tail _ (.tail _ (.tail _ (.tail _ (.head _))))))))) 3 infoStr rfl rfl (by simp [Value.oneCell']) ?_; intro w2 hw2; (first | (replace hv := hv.set 0 rfl hw2) | (replace hv := hv.set 1 rfl hw2) | (replace hv := hv.set 2 rfl hw2) | (replace hv := hv.set 3 rfl hw2) | (replace hv := hv.set 4 rfl hw2) | (replace hv := hv.set 5 rfl hw2) | (replace hv := hv.set 6 rfl hw2) | (replace hv := hv.set 7 rfl hw2)); clear hw2; simp only [List.set] at hv))
        rcases HOU.out with ⟨e1, e2, e3⟩ | ⟨x0, hrw, e3⟩
        · cases e1
          subst e3
          have HGD0 := Any.rd_start hv HG2.out
          by_cases hne : cellsB (s.bytes.take (clampN (nn : Int) s.bytes.length)) = []
          · rw [hne] at HGD0
            have HGD := Lib.hid HGD0.1
            refine Any.wp_region_walk [⟨[1000], none⟩, ⟨[], none⟩, ⟨[], none⟩, ⟨[], none⟩, ⟨[1001], some 1001⟩, ⟨[], none⟩] [.val, .val, .val, .val, .put, .val] (by kernel_rfl) (by kernel_rfl) hv.vars ?_
            simp only [List.length_cons, List.length_nil, Nat.zero_add, Any.someVals]
            iterate 6 apply Exists.intro
            repeat (first
              | (refine Any.E_off rfl ?_; simp only [Act.put, List.setIfInBounds_toArray, List.set_cons_succ, List.set_cons_zero])
              | (apply Any.E_pureq rfl rfl rfl
                 case h => intro K hK; go_big_quiet_op; (refine hK _ ?_; rfl)
                 case hr => exact fun _ => rfl
                 simp only [Act.put, List.setIfInBounds_toArray, List.set_cons_succ, List.set_cons_zero])
              | (apply Any.E_val rfl rfl rfl rfl
                 case h =>
                   intro E' hA K hK
                   first
                     | ((with_reducible refine Any.at_qload (T := 26) ?_); refine Any.q_ldv 1000 hA (by decide) rfl rfl 3 _ Try.underlying26 rfl infoStr (by decide) rfl ?_; refine hK _ ?_; rfl)
                     | (refine Any.q_appnil0 rfl rfl HGD.out Try.underlying23 (by kernel_rfl) (by decide) ?_; refine hK _ ?_; rfl)
                     | (go_big_quiet_op; first
                       | (refine hK _ ?_; rfl)
                       | (refine ⟨_, fun _ _ => rfl, ?_⟩; refine hK _ ?_; rfl)
                       | (apply Exists.intro; refine ⟨fun w1 hw1 => ?_, ?_⟩; · (first
                           | fail)
                          refine hK _ ?_; rfl))
                 case hD => rfl
                 simp only [Act.put, List.setIfInBounds_toArray, List.set_cons_succ, List.set_cons_zero])
              | ((with_reducible refine Any.at_ealloc ?_); refine Any.E_lay rfl rfl rfl (fun _ => rfl) ?_; intro B; simp only [Act.put, List.setIfInBounds_toArray, List.set_cons_succ, List.set_cons_zero])
              | ((with_reducible refine Any.at_estore (T := 26) ?_); refine Any.E_putv (T := 26) rfl rfl rfl rfl rfl rfl 3 infoStr rfl rfl (by simp [Value.oneCell']) ?_; simp only [Act.put, List.setIfInBounds_toArray, List.set_cons_succ, List.set_cons_zero]))
            try any_goals exact undef
            refine Any.E_nil ?_
            intro w9 hE9
            replace hv : Mem w w9 [(b12, #[.int .u32 (nx : Nat), .slice ba2 bn2 bc2, .slice pa pn pc]), (b7, #[.int .u32 (nx : Nat), .slice ba2 bn2 bc2, .slice pa pn pc])] _ := hE9.mem hv [1000, 1001] (by decide)
            clear hE9
            go_wp2
            have hik := HIK.out
            try rw [Exit.noGoto_ret]
            go_roundw
            case rel => exact ⟨i + 1, p, nx, bn2, bc2, pn, pc, ba2, pa, _, l, _, outl ++ s.bytes.take (clampN (nn : Int) s.bytes.length), [], by omega, by go_num, hv.drop, Lib.hid (by rw [cellsB_app, e2, hne]; exact OwnL.nil 1), Lib.hid (fun x hx => List.mem_append_right _ (HRS.out x hx)), HI2, Lib.hid (HAG.out.read _), Lib.hid (by
              show outl ++ s.bytes.take _ ++ s.bytes.drop _ = _
              rw [List.append_assoc, List.take_append_drop]
              exact HBY.out)⟩
            case measure => simp [intOf]; omega
          · have HGD := Lib.hid HGD0
            have HNE := Lib.hid hne
            have HB1 : Hid ((cellsB (s.bytes.take (clampN (nn : Int) s.bytes.length))).length / 1 ≤ maxLen) := Lib.hid (by
              have := (room_nn HAG.out.ok).2.2
              rw [cellsB_len, List.length_take]; unfold maxLen; omega)
            have HB2 : Hid ((cellsB (s.bytes.take (clampN (nn : Int) s.bytes.length))).length / 1 * 1 ≤ 140737488355328) := Lib.hid (by
              have := (room_nn HAG.out.ok).2.2
              rw [cellsB_len, List.length_take]; omega)
            refine Any.wp_region_walk [⟨[1000], none⟩, ⟨[], none⟩, ⟨[], none⟩, ⟨[], some 6⟩, ⟨[1001], some 1001⟩, ⟨[], none⟩] [.val, .val, .val, .own (AppRow · 1 (cellsB (s.bytes.take (clampN (nn : Int) s.bytes.length)))), .put, .pure] (by kernel_rfl) (by kernel_rfl) hv.vars ?_
            simp only [List.length_cons, List.length_nil, Nat.zero_add, Any.someVals]
            iterate 6 apply Exists.intro
            repeat (first
              | (refine Any.E_off rfl ?_; simp only [Act.put, List.setIfInBounds_toArray, List.set_cons_succ, List.set_cons_zero])
              | (apply Any.E_pureq rfl rfl rfl
                 case h => intro K hK; go_big_quiet_op; (refine hK _ ?_; rfl)
                 case hr => exact fun _ => rfl
                 simp only [Act.put, List.setIfInBounds_toArray, List.set_cons_succ, List.set_cons_zero])
              | (apply Any.E_val rfl rfl rfl rfl
                 case h =>
                   intro E' hA K hK
                   first
                     | ((with_reducible refine Any.at_qload (T := 26) ?_); refine Any.q_ldv 1000 hA (by decide) rfl rfl 3 _ Try.underlying26 rfl infoStr (by decide) rfl ?_; refine hK _ ?_; rfl)
                     | (go_big_quiet_op; first
                       | (refine hK _ ?_; rfl)
                       | (refine ⟨_, fun _ _ => rfl, ?_⟩; refine hK _ ?_; rfl)
                       | (apply Exists.intro; refine ⟨fun w1 hw1 => ?_, ?_⟩; · (first
                           | fail)
                          refine hK _ ?_; rfl))
                 case hD => rfl
                 simp only [Act.put, List.setIfInBounds_toArray, List.set_cons_succ, List.set_cons_zero])
              | ((with_reducible refine Any.at_ealloc ?_); refine Any.E_lay rfl rfl rfl (fun _ => rfl) ?_; intro B; simp only [Act.put, List.setIfInBounds_toArray, List.set_cons_succ, List.set_cons_zero])
              | ((with_reducible refine Any.at_eapp (t := 23) ?_); refine Any.E_appnilR rfl rfl rfl rfl rfl HGD.out HNE.out (.int .u8 0) 1 Try.underlying23 info8z rfl (by decide) (cellsB_one _) HB1.out HB2.out ?_; intro v9 x9 hW9; obtain ⟨n9, c9, rfl, g9⟩ := id hW9; replace g9 := Lib.hid g9; replace hW9 := Lib.hid hW9; simp only [Act.put, List.setIfInBounds_toArray, List.set_cons_succ, List.set_cons_zero])
              | ((with_reducible refine Any.at_estore (T := 26) ?_); refine Any.E_putv (T := 26) rfl rfl rfl rfl rfl rfl 3 infoStr rfl rfl (by simp [Value.oneCell']) ?_; simp only [Act.put, List.setIfInBounds_toArray, List.set_cons_succ, List.set_cons_zero]))
            try any_goals exact undef
            refine Any.E_nil ?_
            intro w9 hE9
            replace hv : Mem w w9 [(b12, #[.int .u32 (nx : Nat), .slice ba2 bn2 bc2, .slice pa pn pc]), (b7, #[.int .u32 (nx : Nat), .slice ba2 bn2 bc2, .slice pa pn pc]), x9] _ := hE9.mem hv [1000, 1001, 6] (by decide)
            clear hE9
            go_wp2
            have hik := HIK.out
            try rw [Exit.noGoto_ret]
            go_roundw
            case rel => exact ⟨i + 1, p, nx, bn2, bc2, pn, pc, ba2, pa, _, l, _, outl ++ s.bytes.take (clampN (nn : Int) s.bytes.length), [x9], by omega, by go_num, hv.drop, Lib.hid (by rw [cellsB_app, e2, List.nil_append]; exact OwnL.row hW9.out), Lib.hid (fun x hx => List.mem_append_right _ (HRS.out x hx)), HI2, Lib.hid (HAG.out.read _), Lib.hid (by
              show outl ++ s.bytes.take _ ++ s.bytes.drop _ = _
              rw [List.append_assoc, List.take_append_drop]
              exact HBY.out)⟩
            case measure => simp [intOf]; omega
        · subst e3
          have hrow := Lib.hid hrw
          have HGD := Lib.hid (Any.rd_start hv HG2.out)
          have HB1 : Hid (((cellsB outl).length + (cellsB (s.bytes.take (clampN (nn : Int) s.bytes.length))).length) / 1 ≤ maxLen) := Lib.hid (by
            have := (room_nn HAG.out.ok).2.2
            have := HON.out
            rw [cellsB_len, cellsB_len, List.length_take]; unfold maxLen; omega)
          have HB2 : Hid (((cellsB outl).length + (cellsB (s.bytes.take (clampN (nn : Int) s.bytes.length))).length) / 1 * 1 ≤ 140737488355328) := Lib.hid (by
            have := (room_nn HAG.out.ok).2.2
            have := HON.out
            rw [cellsB_len, cellsB_len, List.length_take]; omega)
          refine Any.wp_region_walk [⟨[1000], none⟩, ⟨[], none⟩, ⟨[], none⟩, ⟨[], some 1002⟩, ⟨[1001], some 1001⟩, ⟨[], none⟩] [.val, .val, .val, .own (AppRow · 1 (cellsB outl ++ cellsB (s.bytes.take (clampN (nn : Int) s.bytes.length)))), .put, .pure] (by kernel_rfl) (by kernel_rfl) hv.vars ?_
          simp only [List.length_cons, List.length_nil, Nat.zero_add, Any.someVals]
          iterate 6 apply Exists.intro
          repeat (first
            | (refine Any.E_off rfl ?_; simp only [Act.put, List.setIfInBounds_toArray, List.set_cons_succ, List.set_cons_zero])
            | (apply Any.E_pureq rfl rfl rfl
               case h => intro K hK; go_big_quiet_op; (refine hK _ ?_; rfl)
               case hr => exact fun _ => rfl
               simp only [Act.put, List.setIfInBounds_toArray, List.set_cons_succ, List.set_cons_zero])
            | (apply Any.E_val rfl rfl rfl rfl
               case h =>
                 intro E' hA K hK
                 first
                   | ((with_reducible refine Any.at_qload (T := 26) ?_); refine Any.q_ldv 1000 hA (by decide) rfl rfl 3 _ Try.underlying26 rfl infoStr (by decide) rfl ?_; refine hK _ ?_; rfl)
                   | (go_big_quiet_op; first
                     | (refine hK _ ?_; rfl)
                     | (refine ⟨_, fun _ _ => rfl, ?_⟩; refine hK _ ?_; rfl)
                     | (apply Exists.intro; refine ⟨fun w1 hw1 => ?_, ?_⟩; · (first
                         | fail)
                        refine hK _ ?_; rfl))
               case hD => rfl
               simp only [Act.put, List.setIfInBounds_toArray, List.set_cons_succ, List.set_cons_zero])
            | ((with_reducible refine Any.at_ealloc ?_); refine Any.E_lay rfl rfl rfl (fun _ => rfl) ?_; intro B; simp only [Act.put, List.setIfInBounds_toArray, List.set_cons_succ, List.set_cons_zero])
            | ((with_reducible refine Any.at_eapp (t := 23) ?_); refine Any.E_appR rfl rfl rfl rfl rfl hrow.out rfl HGD.out (.int .u8 0) 1 Try.underlying23 info8z rfl (by decide) (cellsB_one _) HB1.out HB2.out ?_; intro v9 x9 hW9; obtain ⟨n9, c9, rfl, g9⟩ := id hW9; replace g9 := Lib.hid g9; replace hW9 := Lib.hid hW9; simp only [Act.put, List.setIfInBounds_toArray, List.set_cons_succ, List.set_cons_zero])
            | ((with_reducible refine Any.at_estore (T := 26) ?_); refine Any.E_putv (T := 26) rfl rfl rfl rfl rfl rfl 3 infoStr rfl rfl (by simp [Value.oneCell']) ?_; simp only [Act.put, List.setIfInBounds_toArray, List.set_cons_succ, List.set_cons_zero]))
          try any_goals exact undef
          refine Any.E_nil ?_
          intro w9 hE9
          replace hv : Mem w w9 [(b12, #[.int .u32 (nx : Nat), .slice ba2 bn2 bc2, .slice pa pn pc]), (b7, #[.int .u32 (nx : Nat), .slice ba2 bn2 bc2, .slice pa pn pc]), x9] _ := hE9.mem hv [1000, 1001, 1002] (by decide)
          clear hE9
          go_wp2
          have hik := HIK.out
          try rw [Exit.noGoto_ret]
          go_roundw
          case rel => exact ⟨i + 1, p, nx, bn2, bc2, pn, pc, ba2, pa, _, l, _, outl ++ s.bytes.take (clampN (nn : Int) s.bytes.length), [x9], by omega, by go_num, hv.drop, Lib.hid (by rw [cellsB_app]; exact OwnL.row hW9.out), Lib.hid (fun x hx => List.mem_append_right _ (HRS.out x hx)), HI2, Lib.hid (HAG.out.read _), Lib.hid (by
            show outl ++ s.bytes.take _ ++ s.bytes.drop _ = _
            rw [List.append_assoc, List.take_append_drop]
            exact HBY.out)⟩
          case measure => simp [intOf]; omega
      | false =>
        obtain ⟨f, hf⟩ : ∃ f, min fr an = f := ⟨_, rfl⟩
        obtain ⟨d, hd⟩ : ∃ d, an - f = d := ⟨_, rfl⟩
        obtain ⟨n2, hn2⟩ : ∃ n2, min nn d = n2 := ⟨_, rfl⟩
        obtain ⟨en, hen⟩ : ∃ en, f + n2 = en := ⟨_, rfl⟩
        obtain ⟨sq, hsq⟩ : ∃ sq, (next + f) % 4294967296 = sq := ⟨_, rfl⟩
        have hfa : f ≤ an := by omega
        have m3 : min (fr : Int) (an : Int) = (f : Int) := by omega
        have m4 : IntKind.i64.wrap ((an : Int) - (f : Int)) = (d : Int) := by rw [show (an : Int) - (f : Int) = (d : Int) from by omega]; exact IntWalk.i64_in _ (by have := HAN.out; omega)
        have m5 : min (nn : Int) (d : Int) = (n2 : Int) := by omega
        have m5' : min (nn : Int) ((an : Int) - (f : Int)) = (n2 : Int) := by omega
        have m6 : IntKind.i64.wrap ((f : Int) + (n2 : Int)) = (en : Int) := by rw [show (f : Int) + (n2 : Int) = (en : Int) from by omega]; exact IntWalk.i64_in _ (by have := HAN.out; omega)
        have m7 : IntKind.u32.wrap (f : Int) = (f : Int) := u32_nat (by have := HAN.out; omega)
        have m8 : IntKind.u32.wrap ((next : Int) + (f : Int)) = (sq : Int) := by rw [u32_add, hsq]
        have HLH : Hid (f ≤ en) := Lib.hid (by omega)
        have HHA : Hid (en ≤ an) := Lib.hid (by omega)
        have HHC : Hid (en ≤ ac) := Lib.hid (by have := HAC.out; omega)
        have HSQ := Lib.hid hsq
        have HFN : Hid (f + n2 ≤ all.length) := Lib.hid (by have := HLA.out; omega)
        obtain ⟨da, hsl⟩ : ∃ da, sliced aa f en ac 1 = .slice da (en - f) (ac - f) := sliced_len
        obtain ⟨dc, hdc⟩ : ∃ dc, ac - f = dc := ⟨_, rfl⟩
        have hn3 : en - f = n2 := by omega
        rw [hn3, hdc] at hsl
        have HSL := Lib.hid hsl
        have HDN : Hid (n2 ≤ 4096) := Lib.hid (by omega)
        have HNX : Hid (nx < 4294967296) := Lib.hid (by rw [HIN.out.nx, HAG.out.nxt]; exact Nat.mod_lt _ (by decide))
        replace hv := hv.sliced (HRS.out _ HA.out) (l := f) (h := en) (m := ac) HLH.out HHA.out HHC.out (Nat.le_refl _)
        rw [hsl, show ((cellsB all).drop (f * 1)).take ((en - f) * 1) = cellsB ((all.drop f).take n2) from by rw [Nat.mul_one, Nat.mul_one, hn3]; simp only [cellsB, List.map_take, List.map_drop]] at hv
        clear hf hd hn2 hen hsq hsl hdc hn3 hfa
        go_wp2_with (first
          | ((with_reducible refine at_load (T := 4) ?_); refine wl_rd rfl (c := cellsT pl) (hv.rd (Mem.s (HRS.out _ HL.out))) (i * 3 + 2) rfl _ Try.underlying4 rfl (.bool false) HX3.out ?_))
        have hv0 := hv
        clear hv
        have hv : Mem w _ ([(b7, #[.int .u32 (nx : Nat), .slice ba bn bc, .slice pa pn pc])] ++ O) _ := hv0
        clear hv0
        refine Any.wp_region_cut2 11 15 [⟨[1000], none⟩, ⟨[], none⟩, ⟨[], none⟩, ⟨[], none⟩, ⟨[], none⟩, ⟨[], none⟩, ⟨[], none⟩, ⟨[], none⟩, ⟨[], none⟩, ⟨[], none⟩, ⟨[], none⟩, ⟨[], none⟩, ⟨[], none⟩, ⟨[], none⟩, ⟨[], none⟩, ⟨[], none⟩, ⟨[], none⟩, ⟨[], none⟩] [.val, .val, .val, .val, .val, .val, .val, .val, .val, .val, .val] ⟨[], some 5⟩ #[.int .u32 0, .slice none 0 0, .slice none 0 0] (by kernel_rfl) (by kernel_rfl) (by decide) (by decide) (hv.vars.keep (List.sublist_append_left [(b7, #[.int .u32 (nx : Nat), .slice ba bn bc, .slice pa pn pc])] O)) ?_
        simp only [Any.someVals, List.take_succ_cons, List.take_zero]
        iterate 11 apply Exists.intro
        repeat (first
          | (refine Any.E_off rfl ?_; simp only [Act.put, List.setIfInBounds_toArray, List.set_cons_succ, List.set_cons_zero])
          | (apply Any.E_pureq rfl rfl rfl
             case h => intro K hK; go_big_quiet_op; (refine hK _ ?_; rfl)
             case hr => exact fun _ => rfl
             simp only [Act.put, List.setIfInBounds_toArray, List.set_cons_succ, List.set_cons_zero])
          | (apply Any.E_val rfl rfl rfl rfl
             case h =>
               intro E' hA K hK
               first
                 | ((with_reducible refine Any.at_qload (T := 26) ?_); refine Any.q_ldv 1000 hA (by decide) rfl rfl 3 _ Try.underlying26 rfl infoStr (by decide) rfl ?_; refine hK _ ?_; rfl)
                 | ((with_reducible refine Any.at_qslice (T := 23) ?_); refine Any.q_slice rfl Try.underlying23 infoB1 (some (.int .i64 (f : Nat))) (some (.int .i64 (en : Nat))) none rfl rfl rfl f en ac (fun w => bounds_lh HLH.out HHC.out) HSL.out ?_; refine hK _ ?_; rfl)
                 | (go_big_quiet_op; first
                   | (refine hK _ ?_; rfl)
                   | (refine ⟨_, fun _ _ => rfl, ?_⟩; refine hK _ ?_; rfl)
                   | (apply Exists.intro; refine ⟨fun w1 hw1 => ?_, ?_⟩; · (first
                       | fail)
                      refine hK _ ?_; rfl))
             case hD => rfl
             simp only [Act.put, List.setIfInBounds_toArray, List.set_cons_succ, List.set_cons_zero])
          | ((with_reducible refine Any.at_ealloc ?_); refine Any.E_lay rfl rfl rfl (fun _ => rfl) ?_; intro B; simp only [Act.put, List.setIfInBounds_toArray, List.set_cons_succ, List.set_cons_zero])
          | ((with_reducible refine Any.at_estore (T := 26) ?_); refine Any.E_putv (T := 26) rfl rfl rfl rfl rfl rfl 3 infoStr rfl rfl (by simp [Value.oneCell']) ?_; simp only [Act.put, List.setIfInBounds_toArray, List.set_cons_succ, List.set_cons_zero]))
        try any_goals exact undef
        refine Any.E_nil ?_
        refine ⟨?_, ?_⟩
        · intro w9 hE9
          replace hv : Mem w w9 ([(b7, #[.int .u32 (nx : Nat), .slice ba bn bc, .slice pa pn pc])] ++ O) _ := hE9.memr hv [1000] (by decide)
          clear hE9
          refine Any.wpOp_callv rfl rfl (Go.Proofs.enters_of Try.func10 (by kernel_rfl) rfl) rfl [.agg #[.int .u32 (nx : Nat), .slice ba bn bc, .slice pa pn pc], .int .u32 (sq : Nat), .slice da n2 dc] rfl ?_
          refine ((Take_S hv (HIN.out.con _) HAG.out.ok HNX.out sq Mem.z HDN.out).mono (fun e w' h => h.n)).mono ?_
          rintro e w1 ⟨nx1, ba1, bn1, bc1, pa1, pn1, pc1, l1, R2, q1, rest1, qn, rfl, hv1, hI1, hT1, hq1, hR2⟩
          replace hv := hv1
          clear hv1
          have HI1 := Lib.hid hI1
          have HT1 := Lib.hid hT1
          have HQ1 := Lib.hid hq1
          have HR2 := Lib.hid hR2
          clear hI1 hT1 hq1 hR2
          refine ⟨_, rfl, ?_⟩
          refine Any.wpAny_rest 12 [⟨[], none⟩, ⟨[], none⟩, ⟨[], none⟩, ⟨[], some 5⟩, ⟨[5], some 5⟩, ⟨[], none⟩] [.val, .val, .val, .lay #[.int .u32 0, .slice none 0 0, .slice none 0 0], .put, .val] (by kernel_rfl) (hv.vars.keep (List.sublist_append_left [(b7, #[.int .u32 (nx : Nat), .slice ba bn bc, .slice pa pn pc])] O)) ?_
          simp only [List.length_cons, List.length_nil, Nat.zero_add, Nat.reduceAdd, Nat.reduceSub, Any.someVals, List.drop_succ_cons, List.drop_zero, List.take_succ_cons, List.take_zero, List.cons_append, List.nil_append]
          simp only [Act.put, List.setIfInBounds_toArray, List.set_cons_succ, List.set_cons_zero]
          iterate 6 apply Exists.intro
          repeat (first
            | (refine Any.E_off rfl ?_; simp only [Act.put, List.setIfInBounds_toArray, List.set_cons_succ, List.set_cons_zero])
            | (apply Any.E_pureq rfl rfl rfl
               case h => intro K hK; go_big_quiet_op; (refine hK _ ?_; rfl)
               case hr => exact fun _ => rfl
               simp only [Act.put, List.setIfInBounds_toArray, List.set_cons_succ, List.set_cons_zero])
            | (apply Any.E_val rfl rfl rfl rfl
               case h =>
                 intro E' hA K hK
                 first
                   | (go_big_quiet_op; first
                     | (refine hK _ ?_; rfl)
                     | (refine ⟨_, fun _ _ => rfl, ?_⟩; refine hK _ ?_; rfl)
                     | (apply Exists.intro; refine ⟨fun w1 hw1 => ?_, ?_⟩; · (first
                         | fail)
                        refine hK _ ?_; rfl))
               case hD => rfl
               simp only [Act.put, List.setIfInBounds_toArray, List.set_cons_succ, List.set_cons_zero])
            | ((with_reducible refine Any.at_ealloc ?_); refine Any.E_lay rfl rfl rfl (fun _ => rfl) ?_; intro b14; simp only [Act.put, List.setIfInBounds_toArray, List.set_cons_succ, List.set_cons_zero])
            | ((with_reducible refine Any.at_estore (T := 26) ?_); refine Any.E_putv (T := 26) rfl rfl rfl rfl rfl rfl 3 infoStr rfl rfl (by simp [Value.oneCell']) ?_; simp only [Act.put, List.setIfInBounds_toArray, List.set_cons_succ, List.set_cons_zero]))
          try any_goals exact undef
          refine Any.E_nil ?_
          intro w9 hE9
          replace hv : Mem w w9 ([(b14, #[.int .u32 (nx1 : Nat), .slice ba1 bn1 bc1, .slice pa1 pn1 pc1]), (b7, #[.int .u32 (nx : Nat), .slice ba bn bc, .slice pa pn pc])] ++ O) _ := hE9.memr0 hv [5, 1000] (by decide)
          clear hE9
          simp only [List.cons_append, List.nil_append] at hv
          have AG := HAG.out.take HALL.out (fr := f) (n := n2) HFN.out (by rw [HSQ.out]; exact HT1.out)
          have HCK1 := Lib.hid (out_ok HAG.out.ok HT1.out).1
          have hb1 := len_rd1 (hv.rd HI1.out.b)
          have hb0 := HBN.out
          have hb2 : bn1 = bn + qn := by
            rw [← hb1, ← hb0, ← HQ1.out]
            show (s.bytes ++ q1).length = _
            rw [List.length_append]
          have hb3 : bn ≤ 256 := by rw [← hb0]; exact (room_nn HAG.out.ok).2.2
          have hb4 : bn1 ≤ 256 := by rw [← hb1]; exact (room_nn HCK1.out).2.2
          have k1 : ¬ ((qn : Int) < 0) := by omega
          have k2 : decide ((qn : Int) < 0) = false := decide_eq_false k1
          have k3 : IntKind.i64.wrap ((bn : Int) + (qn : Int)) = (bn1 : Int) := by rw [show (bn : Int) + (qn : Int) = (bn1 : Int) from by omega]; exact IntWalk.i64_in _ (by omega)
          have k4 : (bn : Int) + (qn : Int) = (bn1 : Int) := by omega
          have k5 : wrap64 (bn1 : Int) = (bn1 : Int) := by unfold wrap64; omega
          have k6 : ((bn1 : Int) != wrap64 (bn1 : Int)) = false := by rw [k5]; simp
          have HAG2 := Lib.hid AG
          clear AG hb1 hb0 hb2 hb3 hb4
          go_wp2_with (first
            | ((with_reducible refine at_load (T := 26) ?_); refine wl_ldv rfl _ rfl _ (hv.vars.row (by first | exact .head _ | exact .tail _ (.head _) | exact .tail _ (.tail _ (.head _)) | exact .tail _ (.tail _ (.tail _ (.head _))) | exact .tail _ (.tail _ (.tail _ (.tail _ (.head _)))) | exact .tail _ (.tail _ (.tail _ (.tail _ (.tail _ (.head _))))) | exact .tail _ (.tail _ (.tail _ (.tail _ (.tail _ (.tail _ (.head _)))))) | exact .tail _ (.tail _ (.tail _ (.tail _ (.tail _ (.tail _ (.tail _ (.head _))))))))) 3 _ Try.underlying26 rfl infoStr (by decide) rfl ?_)
            | ((with_reducible refine at_load (T := 23) ?_); refine wl_ldc rfl _ _ rfl _ (hv.vars.row (by first | exact .head _ | exact .tail _ (.head _) | exact .tail _ (.tail _ (.head _)) | exact .tail _ (.tail _ (.tail _ (.head _))) | exact .tail _ (.tail _ (.tail _ (.tail _ (.head _)))) | exact .tail _ (.tail _ (.tail _ (.tail _ (.tail _ (.head _))))) | exact .tail _ (.tail _ (.tail _ (.tail _ (.tail _ (.tail _ (.head _)))))) | exact .tail _ (.tail _ (.tail _ (.tail _ (.tail _ (.tail _ (.tail _ (.head _))))))))) _ Try.underlying23 rfl _ rfl ?_)
            | (go_at_call 12; (with_reducible refine (Check_S hv HI1.out HCK1.out).mono ?_); rintro e w1 ⟨rfl, hn1⟩; replace hv := hv.new hn1; clear hn1)
            | ((with_reducible refine at_store (T := 26) ?_); refine wl_stv rfl b7 rfl _ rfl _ (hv.vars.row (by first | exact .head _ | exact .tail _ (.head _) | exact .tail _ (.tail _ (.head _)) | exact .tail _ (.tail _ (.tail _ (.head _))) | exact .tail _ (.tail _ (.tail _ (.tail _ (.head _)))) | exact .tail _ (.tail _ (.tail _ (.tail _ (.tail _ (.head _))))) | exact .tail _ (.tail _ (.tail _ (.tail _ (.tail _ (.tail _ (.head _)))))) | exact .tail _ (.tail _ (.tail _ (.tail _ (.tail _ (.tail _ (.tail _ (.head _))))))))) (hv.vars.sft (by first | exact .head _ | exact .tail _ (.head _) | exact .tail _ (.tail _ (.head _)) | exact .tail _ (.tail _ (.tail _ (.head _))) | exact .tail _ (.tail _ (.tail _ (.tail _ (.head _)))) | exact .tail _ (.tail _ (.tail _ (.tail _ (.tail _ (.head _))))) | exact .tail _ (.tail _ (.tail _ (.tail _ (.tail _ (.tail _ (.head _)))))) | exact .tail _ (.tail _ (.tail _ (.tail _ (.tail _ (.tail _ (.tail _ (.head _))))))))) 3 infoStr rfl rfl (by simp [Value.oneCell']) ?_; intro w2 hw2; (first | (replace hv := hv.set 0 rfl hw2) | (replace hv := hv.set 1 rfl hw2) | (replace hv := hv.set 2 rfl hw2) | (replace hv := hv.set 3 rfl hw2) | (replace hv := hv.set 4 rfl hw2) | (replace hv := hv.set 5 rfl hw2) | (replace hv := hv.set 6 rfl hw2) | (replace hv := hv.set 7 rfl hw2)); clear hw2; simp only [List.set] at hv))
          have hik := HIK.out
          go_roundw
          case rel => exact ⟨i + 1, p + q1.length, nx1, bn1, bc1, pn1, pc1, ba1, pa1, outS s q1 rest1, l1, R2, outl, O, by omega, by go_num, hv.drop, HOU, Lib.hid (fun x hx => HR2.out x (Mem.s (HRS.out x hx))), HI1, Lib.hid HAG2.out.1, Lib.hid (by
            show outl ++ (s.bytes ++ q1) = _
            rw [← List.append_assoc, HBY.out, HAG2.out.2.1, List.length_take, List.length_drop]
            have := HAG2.out.1.pos
            rw [show min q1.length (all.length - p) = q1.length from by omega, List.take_add])⟩
          case measure => simp [intOf]; omega
        · simp only [List.drop_succ_cons, List.drop_zero, List.take_succ_cons, List.take_zero]
          refine Any.E_lay rfl rfl rfl (fun _ => rfl) ?_
          intro b14
          simp only [Act.put, List.setIfInBounds_toArray, List.set_cons_succ, List.set_cons_zero]
          refine Any.E_nil ?_
          intro w9 hE9
          replace hv : Mem w w9 ([(b14, #[.int .u32 0, .slice none 0 0, .slice none 0 0]), (b7, #[.int .u32 (nx : Nat), .slice ba bn bc, .slice pa pn pc])] ++ O) _ := hE9.memr hv [5, 1000] (by decide)
          clear hE9
          refine Any.wpOp_callv rfl rfl (Go.Proofs.enters_of Try.func10 (by kernel_rfl) rfl) rfl [.agg #[.int .u32 (nx : Nat), .slice ba bn bc, .slice pa pn pc], .int .u32 (sq : Nat), .slice da n2 dc] rfl ?_
          refine ((Take_S hv (HIN.out.con _) HAG.out.ok HNX.out sq Mem.z HDN.out).mono (fun e w' h => h.n)).mono ?_
          rintro e w1 ⟨nx1, ba1, bn1, bc1, pa1, pn1, pc1, l1, R2, q1, rest1, qn, rfl, hv1, hI1, hT1, hq1, hR2⟩
          replace hv := hv1
          clear hv1
          have HI1 := Lib.hid hI1
          have HT1 := Lib.hid hT1
          have HQ1 := Lib.hid hq1
          have HR2 := Lib.hid hR2
          clear hI1 hT1 hq1 hR2
          refine ⟨_, rfl, ?_⟩
          refine Any.wpAny_skip 11 15 [⟨[], none⟩, ⟨[], none⟩, ⟨[], none⟩, ⟨[1000], some 1000⟩, ⟨[], none⟩] [.val, .val, .val, .put, .val] (by decide) (by decide) (by kernel_rfl) (hv.vars.keep (List.sublist_append_left [(b14, #[.int .u32 0, .slice none 0 0, .slice none 0 0]), (b7, #[.int .u32 (nx : Nat), .slice ba bn bc, .slice pa pn pc])] O)) ?_
          simp only [List.length_cons, List.length_nil, Nat.zero_add, Nat.reduceAdd, Nat.reduceSub, Any.someVals, List.drop_succ_cons, List.drop_zero, List.take_succ_cons, List.take_zero, List.cons_append, List.nil_append]
          simp only [Act.put, List.setIfInBounds_toArray, List.set_cons_succ, List.set_cons_zero]
          iterate 5 apply Exists.intro
          repeat (first
            | (refine Any.E_off rfl ?_; simp only [Act.put, List.setIfInBounds_toArray, List.set_cons_succ, List.set_cons_zero])
            | (apply Any.E_pureq rfl rfl rfl
               case h => intro K hK; go_big_quiet_op; (refine hK _ ?_; rfl)
               case hr => exact fun _ => rfl
               simp only [Act.put, List.setIfInBounds_toArray, List.set_cons_succ, List.set_cons_zero])
            | (apply Any.E_val rfl rfl rfl rfl
               case h =>
                 intro E' hA K hK
                 first
                   | (go_big_quiet_op; first
                     | (refine hK _ ?_; rfl)
                     | (refine ⟨_, fun _ _ => rfl, ?_⟩; refine hK _ ?_; rfl)
                     | (apply Exists.intro; refine ⟨fun w1 hw1 => ?_, ?_⟩; · (first
                         | fail)
                        refine hK _ ?_; rfl))
               case hD => rfl
               simp only [Act.put, List.setIfInBounds_toArray, List.set_cons_succ, List.set_cons_zero])
            | ((with_reducible refine Any.at_ealloc ?_); refine Any.E_lay rfl rfl rfl (fun _ => rfl) ?_; intro B; simp only [Act.put, List.setIfInBounds_toArray, List.set_cons_succ, List.set_cons_zero])
            | ((with_reducible refine Any.at_estore (T := 26) ?_); refine Any.E_putv (T := 26) rfl rfl rfl rfl rfl rfl 3 infoStr rfl rfl (by simp [Value.oneCell']) ?_; simp only [Act.put, List.setIfInBounds_toArray, List.set_cons_succ, List.set_cons_zero]))
          try any_goals exact undef
          refine Any.E_nil ?_
          intro w9 hE9
          replace hv : Mem w w9 ([(b14, #[.int .u32 (nx1 : Nat), .slice ba1 bn1 bc1, .slice pa1 pn1 pc1]), (b7, #[.int .u32 (nx : Nat), .slice ba bn bc, .slice pa pn pc])] ++ O) _ := hE9.memr0 hv [1000, 1001] (by decide)
          clear hE9
          simp only [List.cons_append, List.nil_append] at hv
          have AG := HAG.out.take HALL.out (fr := f) (n := n2) HFN.out (by rw [HSQ.out]; exact HT1.out)
          have HCK1 := Lib.hid (out_ok HAG.out.ok HT1.out).1
          have hb1 := len_rd1 (hv.rd HI1.out.b)
          have hb0 := HBN.out
          have hb2 : bn1 = bn + qn := by
            rw [← hb1, ← hb0, ← HQ1.out]
            show (s.bytes ++ q1).length = _
            rw [List.length_append]
          have hb3 : bn ≤ 256 := by rw [← hb0]; exact (room_nn HAG.out.ok).2.2
          have hb4 : bn1 ≤ 256 := by rw [← hb1]; exact (room_nn HCK1.out).2.2
          have k1 : ¬ ((qn : Int) < 0) := by omega
          have k2 : decide ((qn : Int) < 0) = false := decide_eq_false k1
          have k3 : IntKind.i64.wrap ((bn : Int) + (qn : Int)) = (bn1 : Int) := by rw [show (bn : Int) + (qn : Int) = (bn1 : Int) from by omega]; exact IntWalk.i64_in _ (by omega)
          have k4 : (bn : Int) + (qn : Int) = (bn1 : Int) := by omega
          have k5 : wrap64 (bn1 : Int) = (bn1 : Int) := by unfold wrap64; omega
          have k6 : ((bn1 : Int) != wrap64 (bn1 : Int)) = false := by rw [k5]; simp
          have HAG2 := Lib.hid AG
          clear AG hb1 hb0 hb2 hb3 hb4
          go_wp2_with (first
            | ((with_reducible refine at_load (T := 26) ?_); refine wl_ldv rfl _ rfl _ (hv.vars.row (by first | exact .head _ | exact .tail _ (.head _) | exact .tail _ (.tail _ (.head _)) | exact .tail _ (.tail _ (.tail _ (.head _))) | exact .tail _ (.tail _ (.tail _ (.tail _ (.head _)))) | exact .tail _ (.tail _ (.tail _ (.tail _ (.tail _ (.head _))))) | exact .tail _ (.tail _ (.tail _ (.tail _ (.tail _ (.tail _ (.head _)))))) | exact .tail _ (.tail _ (.tail _ (.tail _ (.tail _ (.tail _ (.tail _ (.head _))))))))) 3 _ Try.underlying26 rfl infoStr (by decide) rfl ?_)
            | ((with_reducible refine at_load (T := 23) ?_); refine wl_ldc rfl _ _ rfl _ (hv.vars.row (by first | exact .head _ | exact .tail _ (.head _) | exact .tail _ (.tail _ (.head _)) | exact .tail _ (.tail _ (.tail _ (.head _))) | exact .tail _ (.tail _ (.tail _ (.tail _ (.head _)))) | exact .tail _ (.tail _ (.tail _ (.tail _ (.tail _ (.head _))))) | exact .tail _ (.tail _ (.tail _ (.tail _ (.tail _ (.tail _ (.head _)))))) | exact .tail _ (.tail _ (.tail _ (.tail _ (.tail _ (.tail _ (.tail _ (.head _))))))))) _ Try.underlying23 rfl _ rfl ?_)
            | (go_at_call 12; (with_reducible refine (Check_S hv HI1.out HCK1.out).mono ?_); rintro e w1 ⟨rfl, hn1⟩; replace hv := hv.new hn1; clear hn1)
            | ((with_reducible refine at_store (T := 26) ?_); refine wl_stv rfl b7 rfl _ rfl _ (hv.vars.row (by first | exact .head _ | exact .tail _ (.head _) | exact .tail _ (.tail _ (.head _)) | exact .tail _ (.tail _ (.tail _ (.head _))) | exact .tail _ (.tail _ (.tail _ (.tail _ (.head _)))) | exact .tail _ (.tail _ (.tail _ (.tail _ (.tail _ (.head _))))) | exact .tail _ (.tail _ (.tail _ (.tail _ (.tail _ (.tail _ (.head _)))))) | exact .tail _ (.tail _ (.tail _ (.tail _ (.tail _ (.tail _ (.tail _ (.head _))))))))) (hv.vars.sft (by first | exact .head _ | exact .tail _ (.head _) | exact .tail _ (.tail _ (.head _)) | exact .tail _ (.tail _ (.tail _ (.head _))) | exact .tail _ (.tail _ (.tail _ (.tail _ (.head _)))) | exact .tail _ (.tail _ (.tail _ (.tail _ (.tail _ (.head _))))) | exact .tail _ (.tail _ (.tail _ (.tail _ (.tail _ (.tail _ (.head _)))))) | exact .tail _ (.tail _ (.tail _ (.tail _ (.tail _ (.tail _ (.tail _ (.head _))))))))) 3 infoStr rfl rfl (by simp [Value.oneCell']) ?_; intro w2 hw2; (first | (replace hv := hv.set 0 rfl hw2) | (replace hv := hv.set 1 rfl hw2) | (replace hv := hv.set 2 rfl hw2) | (replace hv := hv.set 3 rfl hw2) | (replace hv := hv.set 4 rfl hw2) | (replace hv := hv.set 5 rfl hw2) | (replace hv := hv.set 6 rfl hw2) | (replace hv := hv.set 7 rfl hw2)); clear hw2; simp only [List.set] at hv))
          have hik := HIK.out
          go_roundw
          case rel => exact ⟨i + 1, p + q1.length, nx1, bn1, bc1, pn1, pc1, ba1, pa1, outS s q1 rest1, l1, R2, outl, O, by omega, by go_num, hv.drop, HOU, Lib.hid (fun x hx => HR2.out x (Mem.s (HRS.out x hx))), HI1, Lib.hid HAG2.out.1, Lib.hid (by
            show outl ++ (s.bytes ++ q1) = _
            rw [← List.append_assoc, HBY.out, HAG2.out.2.1, List.length_take, List.length_drop]
            have := HAG2.out.1.pos
            rw [show min q1.length (all.length - p) = q1.length from by omega, List.take_add])⟩
          case measure => simp [intOf]; omega
    · have hki : ¬ (i : Int) < (ln : Int) := by omega
      have hO2 := HOU.out.yield (A := [(b7, #[.int .u32 (nx : Nat), .slice ba bn bc, .slice pa pn pc])]) (B := []) (by rw [List.append_nil]; exact hv)
      rw [List.append_nil] at hO2
      clear hv
      have hv := hO2
      clear hO2
      have HO1 := Lib.hid (Any.rd_start hv Mem.z)
      have HO2 := Lib.hid (Any.rd_start hv (Mem.s HIN.out.b))
      have hbb := (room_nn HAG.out.ok).2.2
      have HF1 : Hid ((([] : List Value).length + (cellsB outl).length) / 1 ≤ maxLen) := Lib.hid (by have := HON.out; rw [cellsB_len, List.length_nil]; unfold maxLen; omega)
      have HF2 : Hid ((([] : List Value).length + (cellsB outl).length) / 1 * 1 ≤ 140737488355328) := Lib.hid (by have := HON.out; rw [cellsB_len, List.length_nil]; omega)
      have HG1 : Hid (((([] : List Value) ++ cellsB outl).length + (cellsB s.bytes).length) / 1 ≤ maxLen) := Lib.hid (by have := HON.out; rw [List.nil_append, cellsB_len, cellsB_len]; unfold maxLen; omega)
      have HG2 : Hid (((([] : List Value) ++ cellsB outl).length + (cellsB s.bytes).length) / 1 * 1 ≤ 140737488355328) := Lib.hid (by have := HON.out; rw [List.nil_append, cellsB_len, cellsB_len]; omega)
      clear hbb hi0 hi2
      go_wp2
      refine Any.wp_region_walk [⟨[], some 6⟩, ⟨[], none⟩, ⟨[], some 6⟩, ⟨[], none⟩, ⟨[1000], none⟩, ⟨[], some 6⟩, ⟨[], none⟩] [.bsl 0 #[], .val, .own (AppRow · 1 ([] ++ cellsB outl)), .val, .val, .own (AppRow · 1 ([] ++ cellsB outl ++ cellsB s.bytes)), .pure] (by kernel_rfl) (by kernel_rfl) hv.vars ?_
      simp only [List.length_cons, List.length_nil, Nat.zero_add, Any.someVals]
      iterate 7 apply Exists.intro
      repeat (first
        | (refine Any.E_off rfl ?_; simp only [Act.put, List.setIfInBounds_toArray, List.set_cons_succ, List.set_cons_zero])
        | (apply Any.E_pureq rfl rfl rfl
           case h => intro K hK; go_big_quiet_op; (refine hK _ ?_; rfl)
           case hr => exact fun _ => rfl
           simp only [Act.put, List.setIfInBounds_toArray, List.set_cons_succ, List.set_cons_zero])
        | (apply Any.E_val rfl rfl rfl rfl
           case h =>
             intro E' hA K hK
             first
               | ((with_reducible refine Any.at_qload (T := 23) ?_); refine Any.q_ldc 1000 hA (by decide) rfl rfl _ Try.underlying23 rfl _ rfl ?_; refine hK _ ?_; rfl)
               | (go_big_quiet_op; first
                 | (refine hK _ ?_; rfl)
                 | (refine ⟨_, fun _ _ => rfl, ?_⟩; refine hK _ ?_; rfl)
                 | (apply Exists.intro; refine ⟨fun w1 hw1 => ?_, ?_⟩; · (first
                     | fail)
                    refine hK _ ?_; rfl))
           case hD => rfl
           simp only [Act.put, List.setIfInBounds_toArray, List.set_cons_succ, List.set_cons_zero])
        | ((with_reducible refine Any.at_ealloc ?_); refine Any.E_lay rfl rfl rfl (fun _ => rfl) ?_; intro B; simp only [Act.put, List.setIfInBounds_toArray, List.set_cons_succ, List.set_cons_zero])
        | ((with_reducible refine Any.at_eapp (t := 23) ?_); refine Any.E_appR rfl rfl rfl rfl rfl (AppRow.zero B) rfl HO1.out (.int .u8 0) 1 Try.underlying23 info8z rfl (by decide) (cellsB_one _) HF1.out HF2.out ?_; intro v8 x8 hW8; obtain ⟨n8, c8, rfl, g8⟩ := id hW8; replace g8 := Lib.hid g8; replace hW8 := Lib.hid hW8; simp only [Act.put, List.setIfInBounds_toArray, List.set_cons_succ, List.set_cons_zero])
        | ((with_reducible refine Any.at_eapp (t := 23) ?_); refine Any.E_appR rfl rfl rfl rfl rfl hW8.out rfl HO2.out (.int .u8 0) 1 Try.underlying23 info8z rfl (by decide) (cellsB_one _) HG1.out HG2.out ?_; intro v9 x9 hW9; obtain ⟨n9, c9, rfl, g9⟩ := id hW9; replace g9 := Lib.hid g9; replace hW9 := Lib.hid hW9; simp only [Act.put, List.setIfInBounds_toArray, List.set_cons_succ, List.set_cons_zero])
        | ((with_reducible refine Any.at_ebsl ?_); refine Any.E_bsl (t := 5) rfl rfl rfl (fun w' => (by unfold execOp; go_simp)) ?_; intro B; simp only [Act.put, List.setIfInBounds_toArray, List.set_cons_succ, List.set_cons_zero]))
      try any_goals exact undef
      refine Any.E_nil ?_
      intro w9 hE9
      replace hv : Mem w w9 [x9, (b7, #[.int .u32 (nx : Nat), .slice ba bn bc, .slice pa pn pc])] _ := hE9.mem hv [6, 1000] (by decide)
      clear hE9
      replace hv := Mem.yield (L1 := []) hv hW9.out
      have hgot : ([] : List Value) ++ cellsB outl ++ cellsB s.bytes = cellsB (all.take p) := by rw [List.nil_append, ← cellsB_app, HBY.out]
      rw [hgot] at hv
      simp only [List.nil_append] at hv
      have hn9 := len_rd1 (hv.rd Mem.z)
      have hpp := HAG.out.pos
      rw [List.length_take] at hn9
      obtain rfl : p = n9 := by omega
      have HGM : Hid ((1, Value.slice (some ⟨x9.1, 0, none⟩) p c9, cellsB (all.take p)) ∈ (1, Value.slice (some ⟨x9.1, 0, none⟩) p c9, cellsB (all.take p)) :: (1, Value.slice oa on oc, cellsB outl) :: R1) := Lib.hid Mem.z
      have HAM : Hid ((1, Value.slice aa an ac, cellsB all) ∈ (1, Value.slice (some ⟨x9.1, 0, none⟩) p c9, cellsB (all.take p)) :: (1, Value.slice oa on oc, cellsB outl) :: R1) := Lib.hid (Mem.s (Mem.s (HRS.out _ HA.out)))
      have HN9 : Hid (p ≤ an) := Lib.hid (by have := HLA.out; omega)
      have HGT : Hid (goodB (all.take p)) := Lib.hid (fun z hz => HGA.out z (List.mem_of_mem_take hz))
      have HTK : Hid ((cellsB all).take (p * 1) = cellsB (all.take p)) := Lib.hid (by rw [Nat.mul_one]; simp only [cellsB, List.map_take])
      have u1 : (p : Int) ≤ (an : Int) := by have := HN9.out; omega
      have u1' : decide ((p : Int) ≤ (an : Int)) = true := decide_eq_true u1
      have u1'' : p ≤ an := by omega
      have u2 : IntKind.u32.wrap (p : Int) = (p : Int) := u32_nat (by have := HN9.out; have := HAN.out; omega)
      have u3 : IntKind.u32.wrap ((next : Int) + (p : Int)) = (nx : Int) := by rw [u32_add, HIN.out.nx, HAG.out.nxt]
      clear hgot hn9 hpp
      go_wp2_with (first
        | ((with_reducible refine at_load (T := 22) ?_); refine wl_ldc rfl _ _ rfl _ (hv.vars.row (by first | exact .head _ | exact .tail _ (.head _) | exact .tail _ (.tail _ (.head _)) | exact .tail _ (.tail _ (.tail _ (.head _))) | exact .tail _ (.tail _ (.tail _ (.tail _ (.head _)))) | exact .tail _ (.tail _ (.tail _ (.tail _ (.tail _ (.head _))))) | exact .tail _ (.tail _ (.tail _ (.tail _ (.tail _ (.tail _ (.head _)))))) | exact .tail _ (.tail _ (.tail _ (.tail _ (.tail _ (.tail _ (.tail _ (.head _))))))))) _ Try.underlying22 rfl _ rfl ?_)
        | ((with_reducible refine at_slice (T := 23) ?_); refine wl_slice_h rfl rfl hv HAM.out Try.underlying23 infoB1 p rfl HN9.out ?_; intro ao1 hv1; replace hv := hv1; clear hv1)
        | (go_at_call 16; (refine (Bytes_same _ _ (all.take p) _ (hv.rd (Mem.s HGM.out)) (by have := hv.rd Mem.z; rwa [HTK.out] at this) HGT.out).mono ?_); rintro e w1 ⟨rfl, rfl⟩)
        | (go_at_call 9; (with_reducible refine (heads25 _).mono ?_); rintro e w1 ⟨rfl, hn1⟩; replace hv := hv.new hn1; clear hn1))
      go_ret
      exact ⟨rfl, hv.below⟩
theorem WindowPrefix_any (av lv : Value) (all : List Nat) (next : Nat) (pl : List PtV) (W : World) (ha : Rd W 1 av (cellsB all)) (hga : goodB all) (hnx : next < 4294967296) (hl : Rd W 3 lv (cellsT pl)) :
    Calls Try.prog 5 #[av, .int .u32 (next : Nat), lv] W fun e w' => e = .returned (.bool true) ∧ New W w' := by
  obtain ⟨aa, an, ac, rfl, _⟩ := id ha
  obtain ⟨la, ln, lc, rfl, _⟩ := id hl
  have hv := ((Mem.nil W).old hl).old ha
  by_cases h0 : 1000 < an
  · exact Pre_c1 aa la an ac ln lc next all pl W _ hv Mem.z (Mem.s Mem.z) h0
  · by_cases h1 : 80 < ln
    · exact Pre_c2 aa la an ac ln lc next all pl W _ hv Mem.z (Mem.s Mem.z) (by omega) h1
    · exact Pre_yes aa la an ac ln lc next all pl W _ hv Mem.z (Mem.s Mem.z) hga hnx (by omega) (by omega)
end Go.Proofs.Ytpbeemgigpaacaa
