/-
  Rings: what writes one.
-/
import Derived.Test.YtcelehhaggoijaaQuRing2
import Derived.Test.YtcelehhaggoijaaEq
set_option linter.unusedVariables false
set_option linter.unusedSimpArgs false
namespace Go.Proofs.Qu
open Go Go.RowKit Go.Proofs.Nm
/-- A descriptor set at a place. -/
def setD (M : List Nat) (p a l f x : Nat) : List Nat := putB (putB (putB (putB M p (leB a 8)) (p + 8) (leB l 4)) (p + 8 + 4) (leB f 2)) (p + 8 + 4 + 2) (leB x 2)
theorem leB_fromTo : ∀ (k : Nat) {l : List Nat}, goodB l → l.length = k → leB (fromTo l k) k = l := by
  intro k l hg hl
  apply List.ext_getElem?
  intro i
  unfold leB
  rw [List.getElem?_map]
  by_cases hi : i < k
  · rw [List.getElem?_range hi, Option.map_some, List.getElem?_eq_getElem (by omega)]
    congr 1
    -- the i-th byte
    have key : ∀ (k : Nat), i < k → k ≤ l.length → fromTo l k / 256 ^ i % 256 = l.getD i 0 := by
      intro k
      induction k with
      | zero => intro h; omega
      | succ k ih =>
        intro h1 h2
        have hlt := fromTo_lt hg k
        have hb := goodB_at hg k
        show (fromTo l k + l.getD k 0 * 256 ^ k) / 256 ^ i % 256 = _
        rcases Nat.lt_or_ge i k with h | h
        · have e : l.getD k 0 * 256 ^ k = (l.getD k 0 * 256 ^ (k - i - 1) * 256) * 256 ^ i := by
            rw [Nat.mul_assoc, Nat.mul_assoc, ← Nat.pow_succ', ← Nat.pow_add]
            congr 2; omega
          rw [e, Nat.add_mul_div_right _ _ (Nat.pow_pos (by decide)), Nat.add_mul_mod_self_right]
          exact ih h (by omega)
        · obtain rfl : i = k := by omega
          rw [Nat.add_mul_div_right _ _ (Nat.pow_pos (by decide)), Nat.div_eq_of_lt hlt, Nat.zero_add, Nat.mod_eq_of_lt hb]
    rw [key k hi (by omega)]
    simp [List.getD, List.getElem?_eq_getElem (show i < l.length by omega)]
  · rw [List.getElem?_eq_none (by simp; omega), List.getElem?_eq_none (by omega)]; rfl
theorem leB_fromB {k : Nat} {l : List Nat} (hg : goodB l) (hl : l.length = k) (hk : k ≤ 8) : leB (fromB l) k = l := by
  unfold fromB
  rw [hl, Nat.min_eq_right hk]
  exact leB_fromTo k hg hl
theorem putB_getB (M : List Nat) (p k : Nat) (h : p + k ≤ M.length) : putB M p (getB M p k) = M := by
  unfold putB
  rw [getB_len h]
  unfold getB
  rw [List.append_assoc, show M.drop (p + k) = (M.drop p).drop k from by rw [List.drop_drop], List.take_append_drop, List.take_append_drop]
theorem put_same {M : List Nat} {p k a : Nat} (hg : goodB M) (hk : k ≤ 8) (h : p + k ≤ M.length) (ha : getN M p k = a) : putB M p (leB a k) = M := by
  rw [← ha]
  unfold getN
  rw [leB_fromB (getB_good hg) (getB_len h) hk, putB_getB M p k h]
theorem setD_same {M : List Nat} {p a l f x : Nat} (hg : goodB M) (h : p + 16 ≤ M.length) (h1 : getN M p 8 = a) (h2 : getN M (p + 8) 4 = l) (h3 : getN M (p + 8 + 4) 2 = f) (h4 : getN M (p + 8 + 4 + 2) 2 = x) : setD M p a l f x = M := by
  unfold setD
  rw [put_same hg (by decide) (by omega) h1, put_same hg (by decide) (by omega) h2, put_same hg (by decide) (by omega) h3, put_same hg (by decide) (by omega) h4]
theorem perm_sd {α : Type} (f b12 b10 b9 b5 : α) (L : List α) : (f :: b12 :: b10 :: b9 :: b5 :: L).Perm (f :: b5 :: b9 :: b12 :: b10 :: L) := .cons _ (((List.perm_append_comm (l₁ := [b12, b10]) (l₂ := [b9, b5])).trans (.append_right _ (List.Perm.swap b5 b9 []))).append_right L)
end Go.Proofs.Qu
namespace Go.Proofs.Ytcelehhaggoijaa
open Go.Proofs.Qu Go.Proofs.Nm Go.RowKit Go.Proofs
set_option maxRecDepth 100000 in
set_option maxHeartbeats 4000000 in
theorem SetDC {bM bD : Nat} {v0 : Value} {a l f x : Nat} {w0 w : World} {L : List (Nat × Array Value)} {R : List (Nat × Value × List Value)} {bF mb mo mn mc p : Nat} {M : List Nat} (hv : Mem w0 w ((bF, #[(.slice (some ⟨mb, mo, none⟩) mn mc), .int .i64 (p : Nat)]) :: (bM, #[v0]) :: (bD, #[.int .u64 (a : Nat), .int .u32 (l : Nat), .int .u16 (f : Nat), .int .u16 (x : Nat)]) :: L) R) (hm : InM R mb mo mn mc M) (ha : a < 18446744073709551616) (hl : l < 4294967296) (hf : f < 65536) (hx : x < 65536) (h : p + 16 ≤ mn) :
    Calls Try.prog 71 #[.pointer (some ⟨bF, 0, none⟩), .pointer (some ⟨bD, 0, none⟩), .pointer (some ⟨bM, 0, none⟩)] w fun e w' => e = .returned (.tuple #[]) ∧ ∃ b c R', Mem w0 w' ((bM, #[.slice (some ⟨b, 0, none⟩) mn c]) :: (bD, #[.int .u64 (a : Nat), .int .u32 (l : Nat), .int .u16 (f : Nat), .int .u16 (x : Nat)]) :: L) R' ∧ InM R' b 0 mn c (setD M p a l f x) ∧ ∀ x ∈ R, x ∈ R' := by
  have HM := Lib.hid hm
  have HSUB : Hid (∀ x ∈ R, x ∈ R) := Lib.hid (fun x hx => hx)
  have P1 : Hid (p + 8 ≤ mn) := Lib.hid (by omega)
  have P2 : Hid (p + 8 + 4 ≤ mn) := Lib.hid (by omega)
  have P3 : Hid (p + 8 + 4 + 2 ≤ mn) := Lib.hid (by omega)
  have P4 : Hid (p + 8 + 4 + 2 + 2 ≤ mn) := Lib.hid (by omega)
  have A1 := Lib.hid ha
  have A2 : Hid (l < 18446744073709551616) := Lib.hid (by omega)
  have A3 : Hid (f < 18446744073709551616) := Lib.hid (by omega)
  have A4 : Hid (x < 18446744073709551616) := Lib.hid (by omega)
  have q2 : IntKind.u64.wrap (l : Int) = (l : Int) := wrap_u64 (by omega)
  have q3 : IntKind.u64.wrap (f : Int) = (f : Int) := wrap_u64 (by omega)
  have q4 : IntKind.u64.wrap (x : Int) = (x : Int) := wrap_u64 (by omega)
  clear ha hl hf hx h hm
  go_enter Try.func71, Try.ntmps71
  go_wp2_with (first
    | (go_at_call 58; (with_reducible refine (put_8 hv HM.out a A1.out P1.out).mono ?_); rintro e w1 ⟨rfl, vb, vc, R1, hv1, hi1, hs1⟩; replace hv := hv1; replace HM := Lib.hid hi1; replace HSUB := Lib.hid (fun x hx => hs1 x (HSUB.out x hx)); clear hv1 hi1 hs1)
    | (go_at_call 58; (with_reducible refine (put_4 hv HM.out l A2.out P2.out).mono ?_); rintro e w1 ⟨rfl, vb, vc, R1, hv1, hi1, hs1⟩; replace hv := hv1; replace HM := Lib.hid hi1; replace HSUB := Lib.hid (fun x hx => hs1 x (HSUB.out x hx)); clear hv1 hi1 hs1)
    | (go_at_call 58; (with_reducible refine (put_2 hv HM.out f A3.out P3.out).mono ?_); rintro e w1 ⟨rfl, vb, vc, R1, hv1, hi1, hs1⟩; replace hv := hv1; replace HM := Lib.hid hi1; replace HSUB := Lib.hid (fun x hx => hs1 x (HSUB.out x hx)); clear hv1 hi1 hs1)
    | (go_at_call 58; (with_reducible refine (put_2 hv HM.out x A4.out P4.out).mono ?_); rintro e w1 ⟨rfl, vb, vc, R1, hv1, hi1, hs1⟩; replace hv := hv1; replace HM := Lib.hid hi1; replace HSUB := Lib.hid (fun x hx => hs1 x (HSUB.out x hx)); clear hv1 hi1 hs1)
    | ((with_reducible refine at_load (T := 93) ?_); refine wl_ldc rfl bD 0 rfl _ (hv.vars.row (by first | exact .head _ | exact .tail _ (.head _) | exact .tail _ (.tail _ (.head _)) | exact .tail _ (.tail _ (.tail _ (.head _))) | exact .tail _ (.tail _ (.tail _ (.tail _ (.head _)))) | exact .tail _ (.tail _ (.tail _ (.tail _ (.tail _ (.head _))))) | exact .tail _ (.tail _ (.tail _ (.tail _ (.tail _ (.tail _ (.head _)))))) | exact .tail _ (.tail _ (.tail _ (.tail _ (.tail _ (.tail _ (.tail _ (.head _))))))))) _ Try.underlying93 rfl (.int .u64 (a : Nat)) rfl ?_)
    | ((with_reducible refine at_load (T := 94) ?_); refine wl_ldc rfl bD 1 rfl _ (hv.vars.row (by first | exact .head _ | exact .tail _ (.head _) | exact .tail _ (.tail _ (.head _)) | exact .tail _ (.tail _ (.tail _ (.head _))) | exact .tail _ (.tail _ (.tail _ (.tail _ (.head _)))) | exact .tail _ (.tail _ (.tail _ (.tail _ (.tail _ (.head _))))) | exact .tail _ (.tail _ (.tail _ (.tail _ (.tail _ (.tail _ (.head _)))))) | exact .tail _ (.tail _ (.tail _ (.tail _ (.tail _ (.tail _ (.tail _ (.head _))))))))) _ Try.underlying94 rfl (.int .u32 (l : Nat)) rfl ?_)
    | ((with_reducible refine at_load (T := 27) ?_); refine wl_ldc rfl bD 2 rfl _ (hv.vars.row (by first | exact .head _ | exact .tail _ (.head _) | exact .tail _ (.tail _ (.head _)) | exact .tail _ (.tail _ (.tail _ (.head _))) | exact .tail _ (.tail _ (.tail _ (.tail _ (.head _)))) | exact .tail _ (.tail _ (.tail _ (.tail _ (.tail _ (.head _))))) | exact .tail _ (.tail _ (.tail _ (.tail _ (.tail _ (.tail _ (.head _)))))) | exact .tail _ (.tail _ (.tail _ (.tail _ (.tail _ (.tail _ (.tail _ (.head _))))))))) _ Try.underlying27 rfl (.int .u16 (f : Nat)) rfl ?_)
    | ((with_reducible refine at_load (T := 27) ?_); refine wl_ldc rfl bD 3 rfl _ (hv.vars.row (by first | exact .head _ | exact .tail _ (.head _) | exact .tail _ (.tail _ (.head _)) | exact .tail _ (.tail _ (.tail _ (.head _))) | exact .tail _ (.tail _ (.tail _ (.tail _ (.head _)))) | exact .tail _ (.tail _ (.tail _ (.tail _ (.tail _ (.head _))))) | exact .tail _ (.tail _ (.tail _ (.tail _ (.tail _ (.tail _ (.head _)))))) | exact .tail _ (.tail _ (.tail _ (.tail _ (.tail _ (.tail _ (.tail _ (.head _))))))))) _ Try.underlying27 rfl (.int .u16 (x : Nat)) rfl ?_)
    | ((with_reducible refine at_load (T := 25) ?_); refine wl_ldp rfl bF 0 rfl _ (hv.vars.row (by first | exact .head _ | exact .tail _ (.head _) | exact .tail _ (.tail _ (.head _)) | exact .tail _ (.tail _ (.tail _ (.head _))) | exact .tail _ (.tail _ (.tail _ (.tail _ (.head _)))) | exact .tail _ (.tail _ (.tail _ (.tail _ (.tail _ (.head _))))) | exact .tail _ (.tail _ (.tail _ (.tail _ (.tail _ (.tail _ (.head _)))))) | exact .tail _ (.tail _ (.tail _ (.tail _ (.tail _ (.tail _ (.tail _ (.head _))))))))) 1 _ Try.underlying25 rfl infoM (by decide) (by show 0 + 1 ≤ 2; decide) #[.slice (some ⟨vb, 0, none⟩) mn vc] rfl ?_)
    | ((with_reducible refine at_store (T := 25) ?_); refine wl_stv rfl bM rfl _ rfl _ (hv.vars.row (by first | exact .head _ | exact .tail _ (.head _) | exact .tail _ (.tail _ (.head _)) | exact .tail _ (.tail _ (.tail _ (.head _))) | exact .tail _ (.tail _ (.tail _ (.tail _ (.head _)))) | exact .tail _ (.tail _ (.tail _ (.tail _ (.tail _ (.head _))))) | exact .tail _ (.tail _ (.tail _ (.tail _ (.tail _ (.tail _ (.head _)))))) | exact .tail _ (.tail _ (.tail _ (.tail _ (.tail _ (.tail _ (.tail _ (.head _))))))))) (hv.vars.sft (by first | exact .head _ | exact .tail _ (.head _) | exact .tail _ (.tail _ (.head _)) | exact .tail _ (.tail _ (.tail _ (.head _))) | exact .tail _ (.tail _ (.tail _ (.tail _ (.head _)))) | exact .tail _ (.tail _ (.tail _ (.tail _ (.tail _ (.head _))))) | exact .tail _ (.tail _ (.tail _ (.tail _ (.tail _ (.tail _ (.head _)))))) | exact .tail _ (.tail _ (.tail _ (.tail _ (.tail _ (.tail _ (.tail _ (.head _))))))))) 1 infoM rfl rfl (by simp [Value.oneCell']) ?_; intro w2 hw2; (first | (replace hv := hv.set 0 rfl hw2) | (replace hv := hv.set 1 rfl hw2) | (replace hv := hv.set 2 rfl hw2) | (replace hv := hv.set 3 rfl hw2) | (replace hv := hv.set 4 rfl hw2) | (replace hv := hv.set 5 rfl hw2) | (replace hv := hv.set 6 rfl hw2) | (replace hv := hv.set 7 rfl hw2)); clear hw2; simp only [List.set] at hv))
  go_end0
  exact ⟨rfl, vb, vc, R1, hv.drop, HM.out, HSUB.out⟩
theorem fieldsD : Try.prog.underlying 96 = some (.struct (Try.prog.fieldsOf 96)) := by kernel_rfl
theorem equalIn_D0 (w : World) (d : Nat) (a0 l0 f0 x0 a l f x : Nat) : (Op.equalIn (d + 2) 96 (.agg #[.int .u64 (a0 : Nat), .int .u32 (l0 : Nat), .int .u16 (f0 : Nat), .int .u16 (x0 : Nat)]) (.agg #[.int .u64 (a : Nat), .int .u32 (l : Nat), .int .u16 (f : Nat), .int .u16 (x : Nat)])).run Try.prog w = .ok (decide (a0 = a ∧ l0 = l ∧ f0 = f ∧ x0 = x)) w := by
  have h := run_eqStruct (P := Try.prog) w (d + 1) 96 #[.int .u64 (a0 : Nat), .int .u32 (l0 : Nat), .int .u16 (f0 : Nat), .int .u16 (x0 : Nat)] #[.int .u64 (a : Nat), .int .u32 (l : Nat), .int .u16 (f : Nat), .int .u16 (x : Nat)] [(93, 0), (94, 1), (27, 2), (27, 3)] [(a0 : Int) == (a : Int), (l0 : Int) == (l : Int), (f0 : Int) == (f : Int), (x0 : Int) == (x : Int)] fieldsD (by kernel_rfl) (by kernel_rfl) rfl (fun i hi hc => by
    match i, hi with
    | 0, _ => exact ⟨_, _, run_part_cell w _ _ _ _ _ Try.underlying93 rfl rfl, run_part_cell w _ _ _ _ _ Try.underlying93 rfl rfl, run_equalIn_int w d _ _ _ _ _ Try.underlying93⟩
    | 1, _ => exact ⟨_, _, run_part_cell w _ _ _ _ _ Try.underlying94 rfl rfl, run_part_cell w _ _ _ _ _ Try.underlying94 rfl rfl, run_equalIn_int w d _ _ _ _ _ Try.underlying94⟩
    | 2, _ => exact ⟨_, _, run_part_cell w _ _ _ _ _ Try.underlying27 rfl rfl, run_part_cell w _ _ _ _ _ Try.underlying27 rfl rfl, run_equalIn_int w d _ _ _ _ _ Try.underlying27⟩
    | 3, _ => exact ⟨_, _, run_part_cell w _ _ _ _ _ Try.underlying27 rfl rfl, run_part_cell w _ _ _ _ _ Try.underlying27 rfl rfl, run_equalIn_int w d _ _ _ _ _ Try.underlying27⟩)
  have e : ([(a0 : Int) == (a : Int), (l0 : Int) == (l : Int), (f0 : Int) == (f : Int), (x0 : Int) == (x : Int)].all id) = decide (a0 = a ∧ l0 = l ∧ f0 = f ∧ x0 = x) := by
    rw [Bool.eq_iff_iff]
    simp [Int.ofNat_inj]
  rw [h, e]
theorem equalIn_D (w : World) (a0 l0 f0 x0 a l f x : Nat) : (Op.equalIn 10000 96 (.agg #[.int .u64 (a0 : Nat), .int .u32 (l0 : Nat), .int .u16 (f0 : Nat), .int .u16 (x0 : Nat)]) (.agg #[.int .u64 (a : Nat), .int .u32 (l : Nat), .int .u16 (f : Nat), .int .u16 (x : Nat)])).run Try.prog w = .ok (decide (a0 = a ∧ l0 = l ∧ f0 = f ∧ x0 = x)) w := equalIn_D0 w 9998 a0 l0 f0 x0 a l f x
set_option maxRecDepth 100000 in
set_option maxHeartbeats 4000000 in
theorem SetDesc_M {w0 w : World} {L : List (Nat × Array Value)} {R : List (Nat × Value × List Value)} {mb mo mn mc : Nat} {M : List Nat} (hv : Mem w0 w L R) (hm : InM R mb mo mn mc M) (base n i : Nat) (hn : okN n) (hb : base + sizeN n ≤ mn) (hi : i < n) {a l f x : Nat} (ha : a < 18446744073709551616) (hl : l < 4294967296) (hf : f < 65536) (hx : x < 65536) :
    Calls Try.prog 53 #[(.agg #[(.slice (some ⟨mb, mo, none⟩) mn mc)]), .int .i64 (base : Nat), .int .i64 (n : Nat), .int .i64 (i : Nat), .agg #[.int .u64 (a : Nat), .int .u32 (l : Nat), .int .u16 (f : Nat), .int .u16 (x : Nat)]] w fun e w' => ∃ b o c R', e = .returned (.tuple #[.agg #[.slice (some ⟨b, o, none⟩) mn c], .int .i64 0]) ∧ Mem w0 w' L R' ∧ InM R' b o mn c (setD M (base + 16 * i) a l f x) ∧ ∀ x ∈ R, x ∈ R' := by
  have HM := Lib.hid hm
  have HN := Lib.hid hn
  have HB := Lib.hid hb
  have HI := Lib.hid hi
  have HA1 := Lib.hid ha
  have HA2 := Lib.hid hl
  have HA3 := Lib.hid hf
  have HA4 := Lib.hid hx
  have hm8 := hm.most
  have hsz := hn.size
  have hle := hn.le
  have HM8 := Lib.hid hm8
  have HP : Hid (base + 16 * i ≤ 100000) := Lib.hid (by omega)
  have HH : Hid (base + 16 * i + 16 ≤ mn) := Lib.hid (by omega)
  have y1 : decide ((i : Int) < 0) = false := decide_eq_false (by omega)
  have y2 : decide ((n : Int) ≤ (i : Int)) = false := decide_eq_false (by omega)
  have z2 : decide (n ≤ i) = false := decide_eq_false (by omega)
  have q1 : IntKind.i64.wrap (16 * (i : Int)) = ((16 * i : Nat) : Int) := by rw [IntWalk.i64_in _ (by omega)]; omega
  obtain ⟨a0, h1⟩ : ∃ y, getN M (base + 16 * i) 8 = y := ⟨_, rfl⟩
  obtain ⟨l0, h2⟩ : ∃ y, getN M (base + 16 * i + 8) 4 = y := ⟨_, rfl⟩
  obtain ⟨f0, h3⟩ : ∃ y, getN M (base + 16 * i + 8 + 4) 2 = y := ⟨_, rfl⟩
  obtain ⟨x0, h4⟩ : ∃ y, getN M (base + 16 * i + 8 + 4 + 2) 2 = y := ⟨_, rfl⟩
  have H1 := Lib.hid h1
  have H2 := Lib.hid h2
  have H3 := Lib.hid h3
  have H4 := Lib.hid h4
  have HQ : ∀ w : World, (Op.equalIn 10000 96 (.agg #[.int .u64 (a0 : Nat), .int .u32 (l0 : Nat), .int .u16 (f0 : Nat), .int .u16 (x0 : Nat)]) (.agg #[.int .u64 (a : Nat), .int .u32 (l : Nat), .int .u16 (f : Nat), .int .u16 (x : Nat)])).run Try.prog w = .ok (decide (a0 = a ∧ l0 = l ∧ f0 = f ∧ x0 = x)) w := fun w => equalIn_D w a0 l0 f0 x0 a l f x
  generalize hq : decide (a0 = a ∧ l0 = l ∧ f0 = f ∧ x0 = x) = q at *
  have HQ2 := Lib.hid hq
  clear hn hb hi ha hl hf hx hm8 hsz hle h1 h2 h3 h4 hm hq
  cases q
  · go_enter Try.func53, Try.ntmps53
    go_wp2_with (first
      | ((with_reducible refine at_box (T := 25) (dst := some 5) ?_); refine wl_newb rfl #[(.slice (some ⟨mb, mo, none⟩) mn mc)] 25 (fun _ => rfl) ?_; intro b5 w2 hm2; replace hv := hv.madeAt hm2; clear hm2)
      | ((with_reducible refine at_box (T := 96) (dst := some 9) ?_); refine wl_newb rfl #[.int .u64 (a : Nat), .int .u32 (l : Nat), .int .u16 (f : Nat), .int .u16 (x : Nat)] 96 (fun _ => rfl) ?_; intro b9 w2 hm2; replace hv := hv.madeAt hm2; clear hm2)
      | ((with_reducible refine at_alloc (T := 25) (dst := some 10) ?_); refine wl_newb rfl #[.slice none 0 0] 25 (fun _ => rfl) ?_; intro b10 w2 hm2; replace hv := hv.madeAt hm2; clear hm2)
      | ((with_reducible refine at_load (T := 25) ?_); refine wl_ldv rfl b5 rfl _ (hv.vars.row (by first | exact .head _ | exact .tail _ (.head _) | exact .tail _ (.tail _ (.head _)) | exact .tail _ (.tail _ (.tail _ (.head _))) | exact .tail _ (.tail _ (.tail _ (.tail _ (.head _)))) | exact .tail _ (.tail _ (.tail _ (.tail _ (.tail _ (.head _))))) | exact .tail _ (.tail _ (.tail _ (.tail _ (.tail _ (.tail _ (.head _)))))) | exact .tail _ (.tail _ (.tail _ (.tail _ (.tail _ (.tail _ (.tail _ (.head _))))))))) 1 _ Try.underlying25 rfl infoM (by decide) rfl ?_)
      | (go_at_call 22; (with_reducible refine (RingCheck_ok _ _ _ _ _ _ HN.out HB.out HM8.out _).mono ?_); rintro e w1 ⟨rfl, hn1⟩; replace hv := hv.new hn1; clear hn1)
      | (go_at_call 63; (with_reducible refine (Desc_w HM.out.ok base n i HN.out HB.out HI.out H1.out H2.out H3.out H4.out _ (hv.rd HM.out.rd)).mono ?_); rintro e w1 ⟨rfl, hn1⟩; replace hv := hv.new hn1; clear hn1)
      | ((with_reducible refine at_alloc (T := 96) (dst := some 12) ?_); refine wl_newb rfl #[.int .u64 0, .int .u32 0, .int .u16 0, .int .u16 0] 96 (fun _ => rfl) ?_; intro b12 w2 hm2; replace hv := hv.madeAt hm2; clear hm2)
      | ((with_reducible refine at_store (T := 96) ?_); refine wl_stv rfl b12 rfl _ rfl _ (hv.vars.row (by first | exact .head _ | exact .tail _ (.head _) | exact .tail _ (.tail _ (.head _)) | exact .tail _ (.tail _ (.tail _ (.head _))) | exact .tail _ (.tail _ (.tail _ (.tail _ (.head _)))) | exact .tail _ (.tail _ (.tail _ (.tail _ (.tail _ (.head _))))) | exact .tail _ (.tail _ (.tail _ (.tail _ (.tail _ (.tail _ (.head _)))))) | exact .tail _ (.tail _ (.tail _ (.tail _ (.tail _ (.tail _ (.tail _ (.head _))))))))) (hv.vars.sft (by first | exact .head _ | exact .tail _ (.head _) | exact .tail _ (.tail _ (.head _)) | exact .tail _ (.tail _ (.tail _ (.head _))) | exact .tail _ (.tail _ (.tail _ (.tail _ (.head _)))) | exact .tail _ (.tail _ (.tail _ (.tail _ (.tail _ (.head _))))) | exact .tail _ (.tail _ (.tail _ (.tail _ (.tail _ (.tail _ (.head _)))))) | exact .tail _ (.tail _ (.tail _ (.tail _ (.tail _ (.tail _ (.tail _ (.head _))))))))) 4 infoD rfl rfl (by simp [Value.oneCell']) ?_; intro w2 hw2; (first | (replace hv := hv.set 0 rfl hw2) | (replace hv := hv.set 1 rfl hw2) | (replace hv := hv.set 2 rfl hw2) | (replace hv := hv.set 3 rfl hw2) | (replace hv := hv.set 4 rfl hw2) | (replace hv := hv.set 5 rfl hw2) | (replace hv := hv.set 6 rfl hw2) | (replace hv := hv.set 7 rfl hw2)); clear hw2; simp only [List.set] at hv)
      | ((with_reducible refine at_load (T := 96) ?_); refine wl_ldv rfl b12 rfl _ (hv.vars.row (by first | exact .head _ | exact .tail _ (.head _) | exact .tail _ (.tail _ (.head _)) | exact .tail _ (.tail _ (.tail _ (.head _))) | exact .tail _ (.tail _ (.tail _ (.tail _ (.head _)))) | exact .tail _ (.tail _ (.tail _ (.tail _ (.tail _ (.head _))))) | exact .tail _ (.tail _ (.tail _ (.tail _ (.tail _ (.tail _ (.head _)))))) | exact .tail _ (.tail _ (.tail _ (.tail _ (.tail _ (.tail _ (.tail _ (.head _))))))))) 4 _ Try.underlying96 rfl infoD (by decide) rfl ?_)
      | ((with_reducible refine at_load (T := 96) ?_); refine wl_ldv rfl b9 rfl _ (hv.vars.row (by first | exact .head _ | exact .tail _ (.head _) | exact .tail _ (.tail _ (.head _)) | exact .tail _ (.tail _ (.tail _ (.head _))) | exact .tail _ (.tail _ (.tail _ (.tail _ (.head _)))) | exact .tail _ (.tail _ (.tail _ (.tail _ (.tail _ (.head _))))) | exact .tail _ (.tail _ (.tail _ (.tail _ (.tail _ (.tail _ (.head _)))))) | exact .tail _ (.tail _ (.tail _ (.tail _ (.tail _ (.tail _ (.tail _ (.head _))))))))) 4 _ Try.underlying96 rfl infoD (by decide) rfl ?_)
      | (go_at_call 54; (refine (reading_M hv HM.out base n (16 * i) HN.out HB.out HP.out (enters_of Try.func71 (by kernel_rfl) rfl) (cap := #[.pointer (some ⟨b9, 0, none⟩), .pointer (some ⟨b5, 0, none⟩)]) (Post := fun w' => ∃ b c R', Mem w0 w' ((b5, #[.slice (some ⟨b, 0, none⟩) mn c]) :: (b9, #[.int .u64 (a : Nat), .int .u32 (l : Nat), .int .u16 (f : Nat), .int .u16 (x : Nat)]) :: (b12, #[.int .u64 (a0 : Nat), .int .u32 (l0 : Nat), .int .u16 (f0 : Nat), .int .u16 (x0 : Nat)]) :: (b10, #[.slice none 0 0]) :: L) R' ∧ InM R' b 0 mn c (setD M (base + 16 * i) a l f x) ∧ ∀ x ∈ R, x ∈ R') (fun bF w1 hv1 => SetDC (hv1.perm (perm_sd _ _ _ _ _ _)) HM.out HA1.out HA2.out HA3.out HA4.out HH.out)).mono ?_); rintro e w1 ⟨rfl, vb, vc, R1, hv1, hi1, hs1⟩; replace hv := hv1; have HI1 := Lib.hid hi1; have HS1 := Lib.hid hs1; clear hv1 hi1 hs1)
      | ((with_reducible refine at_load (T := 25) ?_); refine wl_ldv rfl b5 rfl _ (hv.vars.row (by first | exact .head _ | exact .tail _ (.head _) | exact .tail _ (.tail _ (.head _)) | exact .tail _ (.tail _ (.tail _ (.head _))) | exact .tail _ (.tail _ (.tail _ (.tail _ (.head _)))) | exact .tail _ (.tail _ (.tail _ (.tail _ (.tail _ (.head _))))) | exact .tail _ (.tail _ (.tail _ (.tail _ (.tail _ (.tail _ (.head _)))))) | exact .tail _ (.tail _ (.tail _ (.tail _ (.tail _ (.tail _ (.tail _ (.head _))))))))) 1 _ Try.underlying25 rfl infoM (by decide) rfl ?_)
      | ((with_reducible refine at_store (T := 25) ?_); refine wl_stv rfl b10 rfl _ rfl _ (hv.vars.row (by first | exact .head _ | exact .tail _ (.head _) | exact .tail _ (.tail _ (.head _)) | exact .tail _ (.tail _ (.tail _ (.head _))) | exact .tail _ (.tail _ (.tail _ (.tail _ (.head _)))) | exact .tail _ (.tail _ (.tail _ (.tail _ (.tail _ (.head _))))) | exact .tail _ (.tail _ (.tail _ (.tail _ (.tail _ (.tail _ (.head _)))))) | exact .tail _ (.tail _ (.tail _ (.tail _ (.tail _ (.tail _ (.tail _ (.head _))))))))) (hv.vars.sft (by first | exact .head _ | exact .tail _ (.head _) | exact .tail _ (.tail _ (.head _)) | exact .tail _ (.tail _ (.tail _ (.head _))) | exact .tail _ (.tail _ (.tail _ (.tail _ (.head _)))) | exact .tail _ (.tail _ (.tail _ (.tail _ (.tail _ (.head _))))) | exact .tail _ (.tail _ (.tail _ (.tail _ (.tail _ (.tail _ (.head _)))))) | exact .tail _ (.tail _ (.tail _ (.tail _ (.tail _ (.tail _ (.tail _ (.head _))))))))) 1 infoM rfl rfl (by simp [Value.oneCell']) ?_; intro w2 hw2; (first | (replace hv := hv.set 0 rfl hw2) | (replace hv := hv.set 1 rfl hw2) | (replace hv := hv.set 2 rfl hw2) | (replace hv := hv.set 3 rfl hw2) | (replace hv := hv.set 4 rfl hw2) | (replace hv := hv.set 5 rfl hw2) | (replace hv := hv.set 6 rfl hw2) | (replace hv := hv.set 7 rfl hw2)); clear hw2; simp only [List.set] at hv))
    try simp only [Exit.inBlock, Exit.then]
    refine ret_cell2 (v := .agg #[(.slice (some ⟨vb, 0, none⟩) mn vc)]) (v1 := .int .i64 0) rfl rfl (read_row _ b10 25 _ (hv.vars.row (b := b10) (by first | exact .head _ | exact .tail _ (.head _) | exact .tail _ (.tail _ (.head _)) | exact .tail _ (.tail _ (.tail _ (.head _))) | exact .tail _ (.tail _ (.tail _ (.tail _ (.head _)))) | exact .tail _ (.tail _ (.tail _ (.tail _ (.tail _ (.head _))))) | exact .tail _ (.tail _ (.tail _ (.tail _ (.tail _ (.tail _ (.head _)))))) | exact .tail _ (.tail _ (.tail _ (.tail _ (.tail _ (.tail _ (.tail _ (.head _))))))))) 1 _ Try.underlying25 rfl infoM (by decide) rfl) rfl rfl ?_
    exact ⟨vb, 0, vc, R1, rfl, hv.drop.drop.drop.drop, HI1.out, HS1.out⟩
  · have HEQ : Hid (setD M (base + 16 * i) a l f x = M) := Lib.hid (by
      obtain ⟨rfl, rfl, rfl, rfl⟩ := of_decide_eq_true HQ2.out
      exact setD_same HM.out.good (by rw [HM.out.len]; exact HH.out) H1.out H2.out H3.out H4.out)
    rw [HEQ.out]
    go_enter Try.func53, Try.ntmps53
    go_wp2_with (first
      | ((with_reducible refine at_box (T := 25) (dst := some 5) ?_); refine wl_newb rfl #[(.slice (some ⟨mb, mo, none⟩) mn mc)] 25 (fun _ => rfl) ?_; intro b5 w2 hm2; replace hv := hv.madeAt hm2; clear hm2)
      | ((with_reducible refine at_box (T := 96) (dst := some 9) ?_); refine wl_newb rfl #[.int .u64 (a : Nat), .int .u32 (l : Nat), .int .u16 (f : Nat), .int .u16 (x : Nat)] 96 (fun _ => rfl) ?_; intro b9 w2 hm2; replace hv := hv.madeAt hm2; clear hm2)
      | ((with_reducible refine at_alloc (T := 25) (dst := some 10) ?_); refine wl_newb rfl #[.slice none 0 0] 25 (fun _ => rfl) ?_; intro b10 w2 hm2; replace hv := hv.madeAt hm2; clear hm2)
      | ((with_reducible refine at_load (T := 25) ?_); refine wl_ldv rfl b5 rfl _ (hv.vars.row (by first | exact .head _ | exact .tail _ (.head _) | exact .tail _ (.tail _ (.head _)) | exact .tail _ (.tail _ (.tail _ (.head _))) | exact .tail _ (.tail _ (.tail _ (.tail _ (.head _)))) | exact .tail _ (.tail _ (.tail _ (.tail _ (.tail _ (.head _))))) | exact .tail _ (.tail _ (.tail _ (.tail _ (.tail _ (.tail _ (.head _)))))) | exact .tail _ (.tail _ (.tail _ (.tail _ (.tail _ (.tail _ (.tail _ (.head _))))))))) 1 _ Try.underlying25 rfl infoM (by decide) rfl ?_)
      | (go_at_call 22; (with_reducible refine (RingCheck_ok _ _ _ _ _ _ HN.out HB.out HM8.out _).mono ?_); rintro e w1 ⟨rfl, hn1⟩; replace hv := hv.new hn1; clear hn1)
      | (go_at_call 63; (with_reducible refine (Desc_w HM.out.ok base n i HN.out HB.out HI.out H1.out H2.out H3.out H4.out _ (hv.rd HM.out.rd)).mono ?_); rintro e w1 ⟨rfl, hn1⟩; replace hv := hv.new hn1; clear hn1)
      | ((with_reducible refine at_alloc (T := 96) (dst := some 12) ?_); refine wl_newb rfl #[.int .u64 0, .int .u32 0, .int .u16 0, .int .u16 0] 96 (fun _ => rfl) ?_; intro b12 w2 hm2; replace hv := hv.madeAt hm2; clear hm2)
      | ((with_reducible refine at_store (T := 96) ?_); refine wl_stv rfl b12 rfl _ rfl _ (hv.vars.row (by first | exact .head _ | exact .tail _ (.head _) | exact .tail _ (.tail _ (.head _)) | exact .tail _ (.tail _ (.tail _ (.head _))) | exact .tail _ (.tail _ (.tail _ (.tail _ (.head _)))) | exact .tail _ (.tail _ (.tail _ (.tail _ (.tail _ (.head _))))) | exact .tail _ (.tail _ (.tail _ (.tail _ (.tail _ (.tail _ (.head _)))))) | exact .tail _ (.tail _ (.tail _ (.tail _ (.tail _ (.tail _ (.tail _ (.head _))))))))) (hv.vars.sft (by first | exact .head _ | exact .tail _ (.head _) | exact .tail _ (.tail _ (.head _)) | exact .tail _ (.tail _ (.tail _ (.head _))) | exact .tail _ (.tail _ (.tail _ (.tail _ (.head _)))) | exact .tail _ (.tail _ (.tail _ (.tail _ (.tail _ (.head _))))) | exact .tail _ (.tail _ (.tail _ (.tail _ (.tail _ (.tail _ (.head _)))))) | exact .tail _ (.tail _ (.tail _ (.tail _ (.tail _ (.tail _ (.tail _ (.head _))))))))) 4 infoD rfl rfl (by simp [Value.oneCell']) ?_; intro w2 hw2; (first | (replace hv := hv.set 0 rfl hw2) | (replace hv := hv.set 1 rfl hw2) | (replace hv := hv.set 2 rfl hw2) | (replace hv := hv.set 3 rfl hw2) | (replace hv := hv.set 4 rfl hw2) | (replace hv := hv.set 5 rfl hw2) | (replace hv := hv.set 6 rfl hw2) | (replace hv := hv.set 7 rfl hw2)); clear hw2; simp only [List.set] at hv)
      | ((with_reducible refine at_load (T := 96) ?_); refine wl_ldv rfl b12 rfl _ (hv.vars.row (by first | exact .head _ | exact .tail _ (.head _) | exact .tail _ (.tail _ (.head _)) | exact .tail _ (.tail _ (.tail _ (.head _))) | exact .tail _ (.tail _ (.tail _ (.tail _ (.head _)))) | exact .tail _ (.tail _ (.tail _ (.tail _ (.tail _ (.head _))))) | exact .tail _ (.tail _ (.tail _ (.tail _ (.tail _ (.tail _ (.head _)))))) | exact .tail _ (.tail _ (.tail _ (.tail _ (.tail _ (.tail _ (.tail _ (.head _))))))))) 4 _ Try.underlying96 rfl infoD (by decide) rfl ?_)
      | ((with_reducible refine at_load (T := 96) ?_); refine wl_ldv rfl b9 rfl _ (hv.vars.row (by first | exact .head _ | exact .tail _ (.head _) | exact .tail _ (.tail _ (.head _)) | exact .tail _ (.tail _ (.tail _ (.head _))) | exact .tail _ (.tail _ (.tail _ (.tail _ (.head _)))) | exact .tail _ (.tail _ (.tail _ (.tail _ (.tail _ (.head _))))) | exact .tail _ (.tail _ (.tail _ (.tail _ (.tail _ (.tail _ (.head _)))))) | exact .tail _ (.tail _ (.tail _ (.tail _ (.tail _ (.tail _ (.tail _ (.head _))))))))) 4 _ Try.underlying96 rfl infoD (by decide) rfl ?_)
      | ((with_reducible refine at_store (T := 25) ?_); refine wl_stv rfl b10 rfl _ rfl _ (hv.vars.row (by first | exact .head _ | exact .tail _ (.head _) | exact .tail _ (.tail _ (.head _)) | exact .tail _ (.tail _ (.tail _ (.head _))) | exact .tail _ (.tail _ (.tail _ (.tail _ (.head _)))) | exact .tail _ (.tail _ (.tail _ (.tail _ (.tail _ (.head _))))) | exact .tail _ (.tail _ (.tail _ (.tail _ (.tail _ (.tail _ (.head _)))))) | exact .tail _ (.tail _ (.tail _ (.tail _ (.tail _ (.tail _ (.tail _ (.head _))))))))) (hv.vars.sft (by first | exact .head _ | exact .tail _ (.head _) | exact .tail _ (.tail _ (.head _)) | exact .tail _ (.tail _ (.tail _ (.head _))) | exact .tail _ (.tail _ (.tail _ (.tail _ (.head _)))) | exact .tail _ (.tail _ (.tail _ (.tail _ (.tail _ (.head _))))) | exact .tail _ (.tail _ (.tail _ (.tail _ (.tail _ (.tail _ (.head _)))))) | exact .tail _ (.tail _ (.tail _ (.tail _ (.tail _ (.tail _ (.tail _ (.head _))))))))) 1 infoM rfl rfl (by simp [Value.oneCell']) ?_; intro w2 hw2; (first | (replace hv := hv.set 0 rfl hw2) | (replace hv := hv.set 1 rfl hw2) | (replace hv := hv.set 2 rfl hw2) | (replace hv := hv.set 3 rfl hw2) | (replace hv := hv.set 4 rfl hw2) | (replace hv := hv.set 5 rfl hw2) | (replace hv := hv.set 6 rfl hw2) | (replace hv := hv.set 7 rfl hw2)); clear hw2; simp only [List.set] at hv))
    try simp only [Exit.inBlock, Exit.then]
    refine ret_cell2 (v := .agg #[(.slice (some ⟨mb, mo, none⟩) mn mc)]) (v1 := .int .i64 0) rfl rfl (read_row _ b10 25 _ (hv.vars.row (b := b10) (by first | exact .head _ | exact .tail _ (.head _) | exact .tail _ (.tail _ (.head _)) | exact .tail _ (.tail _ (.tail _ (.head _))) | exact .tail _ (.tail _ (.tail _ (.tail _ (.head _)))) | exact .tail _ (.tail _ (.tail _ (.tail _ (.tail _ (.head _))))) | exact .tail _ (.tail _ (.tail _ (.tail _ (.tail _ (.tail _ (.head _)))))) | exact .tail _ (.tail _ (.tail _ (.tail _ (.tail _ (.tail _ (.tail _ (.head _))))))))) 1 _ Try.underlying25 rfl infoM (by decide) rfl) rfl rfl ?_
    exact ⟨mb, mo, mc, R, rfl, hv.drop.drop.drop.drop, HM.out, fun x hx => hx⟩
end Go.Proofs.Ytcelehhaggoijaa
