/-
  The walk of the law QueueCarries.
-/
import Derived.Test.YtfblognifnnadaaQuHead
set_option linter.unusedVariables false
set_option linter.unusedSimpArgs false
namespace Go.Proofs.Qu
open Go Go.RowKit Go.Proofs.Nm
theorem and_rng (x : Int) (m : Int) (k : Nat) (hm : m = (k : Int)) (hk : k < 4611686018427387904) : ∃ f : Nat, f ≤ k ∧ bits .and .i64 x m = (f : Int) := by
  refine ⟨(BitVec.ofInt IntKind.i64.bits x &&& BitVec.ofInt IntKind.i64.bits m).toNat, ?_, ?_⟩
  · rw [BitVec.toNat_and]
    refine Nat.le_trans Nat.and_le_right ?_
    subst hm
    rw [BitVec.ofInt_natCast, BitVec.toNat_ofNat]
    exact Nat.mod_le _ _
  · have hb : (BitVec.ofInt IntKind.i64.bits x &&& BitVec.ofInt IntKind.i64.bits m).toNat ≤ k := by
      rw [BitVec.toNat_and]
      refine Nat.le_trans Nat.and_le_right ?_
      subst hm
      rw [BitVec.ofInt_natCast, BitVec.toNat_ofNat]
      exact Nat.mod_le _ _
    show IntKind.i64.wrap (((BitVec.ofInt IntKind.i64.bits x &&& BitVec.ofInt IntKind.i64.bits m).toNat : Nat) : Int) = _
    exact IntWalk.i64_in _ (by omega)
/-- The k-th part of a round. -/
def partC (lens : List Int) (i k : Nat) : Pt := (500 + 8 * k, 1 + (bits .and .i64 (lens.getD (i + k) 0) 15).toNat, bits .and .i64 (lens.getD (i + k) 0) 16 != 0)
def lstC (lens : List Int) (i k : Nat) : List Pt := (List.range k).map (partC lens i)
theorem lstC_len (lens : List Int) (i k : Nat) : (lstC lens i k).length = k := by unfold lstC; simp
theorem lstC_succ (lens : List Int) (i k : Nat) : cellsPt (lstC lens i (k + 1)) = cellsPt (lstC lens i k) ++ encP (partC lens i k) := by
  unfold lstC
  rw [List.range_succ, List.map_append, List.map_singleton, cellsPt_snoc]
theorem lstC_in {lens : List Int} {i m : Nat} (hm : m ≤ 4) : ∀ p ∈ lstC lens i m, 0 < p.2.1 ∧ p.1 + p.2.1 ≤ 1000 := fun p hp => by
  unfold lstC at hp
  obtain ⟨k, hk, rfl⟩ := List.mem_map.1 hp
  have hk := List.mem_range.1 hk
  obtain ⟨f, hf, he⟩ := and_rng (lens.getD (i + k) 0) 15 15 rfl (by decide)
  show 0 < 1 + (bits .and .i64 (lens.getD (i + k) 0) 15).toNat ∧ 500 + 8 * k + (1 + (bits .and .i64 (lens.getD (i + k) 0) 15).toNat) ≤ 1000
  rw [he]
  simp only [Int.toNat_natCast]
  omega
theorem ok16 : okN 16 := by unfold okN; omega
def CM0 : List Nat := List.replicate 1000 0
end Go.Proofs.Qu
namespace Go.Proofs.Ytfblognifnnadaa
open Go.Proofs.Qu Go.Proofs.Nm Go.RowKit Go.Proofs
theorem New_C {w0 w : World} {L : List (Nat × Array Value)} {R : List (Nat × Value × List Value)} (hv : Mem w0 w L R) {mb mc : Nat} (hm : InM R mb 0 1000 mc CM0) : Calls Try.prog 15 #[.agg #[.slice (some ⟨mb, 0, none⟩) 1000 mc], .int .i64 0, .int .i64 16] w fun e w' => ∃ vb vc fa fc R' M, e = .returned (.tuple #[.agg #[.slice (some ⟨vb, 0, none⟩) 1000 vc], .agg #[.int .i64 0, .int .i64 16, .slice fa 16 fc, .int .u16 0, .int .u16 0, .slice none 0 0], .int .i64 0]) ∧ Mem w0 w' L R' ∧ Drv R' 1000 vb vc (.slice fa 16 fc) (.slice none 0 0) M 16 ((List.range 16).drop 0) [] ∧ ∀ x ∈ R, x ∈ R' := by
  refine (New_D hv hm 0 16 ok16 (by decide)).mono ?_
  rintro e w' ⟨vb, vc, fa, fc, R', rfl, h⟩
  exact ⟨vb, vc, fa, fc, R', _, rfl, h⟩
/-- A round: parts handed over. -/
theorem Add_C {w0 w : World} {L : List (Nat × Array Value)} {R : List (Nat × Value × List Value)} (hv : Mem w0 w L R) {vb vc fr fc cc av i : Nat} {fa ca : Option Addr} {M : List Nat} {chs : List Chn} (hd : Drv R 1000 vb vc (.slice fa fr fc) (.slice ca av cc) M 16 ((List.range 16).drop i) chs) (hfr : fr + i = 16) (hcl : chs.length = av) {lv : Value} {lens : List Int} {m : Nat} (hl : (3, lv, cellsPt (lstC lens i m)) ∈ R) (h1 : 0 < m) (h4 : m ≤ 4) (hfl : m ≤ fr) (hav : av ≤ 20) : Calls Try.prog 17 #[.agg #[.slice (some ⟨vb, 0, none⟩) 1000 vc], .agg #[.int .i64 0, .int .i64 16, .slice fa fr fc, .int .u16 (av : Nat), .int .u16 0, .slice ca av cc], lv] w fun e w' => ∃ vb' vc' fa fc ca cc M' chs' R' hd, e = .returned (.tuple #[.agg #[.slice (some ⟨vb', 0, none⟩) 1000 vc'], .agg #[.int .i64 0, .int .i64 16, .slice fa (fr - m : Nat) fc, .int .u16 ((av + 1 : Nat) : Int), .int .u16 0, .slice ca (av + 1) cc], .int .i64 (hd : Nat), .int .i64 0]) ∧ Mem w0 w' L R' ∧ Drv R' 1000 vb' vc' (.slice fa (fr - m) fc) (.slice ca (av + 1) cc) M' 16 ((List.range 16).drop (i + m)) chs' ∧ chs'.length = av + 1 ∧ getN M' (0 + (16 * 16 + 2)) 2 = av + 1 ∧ getN M' (0 + (16 * 16 + (4 + 2 * (av % 16)))) 2 = hd ∧ ChainAt 1000 M' 0 16 hd (lstC lens i m) ∧ ∀ x ∈ R, x ∈ R' := by
  have hfl2 : ((List.range 16).drop i).length = fr := by rw [List.length_drop, List.length_range]; omega
  refine (Add_D (base := 0) (n := 16) (av := av) (la := 0) hv hd (by have : sizeN 16 ≤ 424 := ok16.size.1; omega) hl (by rw [lstC_len]; exact h1) (by rw [lstC_len, hfl2]; exact hfl) (lstC_in h4) (by omega)).mono ?_
  rintro e w' ⟨vb', vc', fa', fc', ca', cc', c, R', rfl, hv1, hd1, e1, e2, e3, hs⟩
  have hA : AddOk 1000 M 0 16 ((List.range 16).drop i) (lstC lens i m) := ⟨ok16, by rw [hd.m.len]; have : sizeN 16 ≤ 424 := ok16.size.1; omega, hd.ok.nd, fun d hdd => hd.ok.le d (List.mem_append_left _ hdd), by rw [lstC_len]; exact h1, by rw [lstC_len, hfl2]; exact hfl, lstC_in h4, by decide⟩
  rw [lstC_len, hfl2, hcl] at hd1 ⊢
  rw [List.drop_drop] at hd1
  have hmod : (av + 1) % 65536 = av + 1 := Nat.mod_eq_of_lt (by omega)
  have g1 := addM_idx (av := av) hA
  rw [hmod] at g1 ⊢
  exact ⟨vb', vc', fa', fc', ca', cc', _, _, R', _, rfl, hv1, hd1, by rw [List.length_append, hcl]; rfl, g1, addM_at hA, addM_chain hA, hs⟩
theorem Add_CF {w0 w : World} {L : List (Nat × Array Value)} {R : List (Nat × Value × List Value)} (hv : Mem w0 w L R) {vb vc fr fc cc av i : Nat} {fa ca : Option Addr} {M : List Nat} {chs : List Chn} (hd : Drv R 1000 vb vc (.slice fa fr fc) (.slice ca av cc) M 16 ((List.range 16).drop i) chs) (hfr : fr + i = 16) {lv : Value} {lens : List Int} {m : Nat} (hl : (3, lv, cellsPt (lstC lens i m)) ∈ R) (h4 : m ≤ 4) (hfl : fr < m) : Calls Try.prog 17 #[.agg #[.slice (some ⟨vb, 0, none⟩) 1000 vc], .agg #[.int .i64 0, .int .i64 16, .slice fa fr fc, .int .u16 (av : Nat), .int .u16 0, .slice ca av cc], lv] w fun e w' => e = .returned (.tuple #[.agg #[.slice (some ⟨vb, 0, none⟩) 1000 vc], .agg #[.int .i64 0, .int .i64 16, .slice fa fr fc, .int .u16 (av : Nat), .int .u16 0, .slice ca av cc], .int .i64 0, .int .i64 4]) ∧ New w w' := by
  have hfl2 : ((List.range 16).drop i).length = fr := by rw [List.length_drop, List.length_range]; omega
  exact Add_full (base := 0) (n := 16) (av := av) (la := 0) hv hd.m hd.q hd.ok (by have : sizeN 16 ≤ 424 := ok16.size.1; omega) hl (by rw [lstC_len]; omega) (by rw [lstC_len, hfl2]; exact hfl) (lstC_in h4)
theorem Same_C {w0 w : World} {L : List (Nat × Array Value)} {R : List (Nat × Value × List Value)} (hv : Mem w0 w L R) {vb vc fr fc cc av : Nat} {fa ca : Option Addr} {M : List Nat} {free : List Nat} {chs : List Chn} (hd : Drv R 1000 vb vc (.slice fa fr fc) (.slice ca av cc) M 16 free chs) : Calls Try.prog 18 #[.agg #[.int .i64 0, .int .i64 16, .slice fa fr fc, .int .u16 (av : Nat), .int .u16 0, .slice ca av cc], .agg #[.int .i64 0, .int .i64 16, .slice fa fr fc, .int .u16 (av : Nat), .int .u16 0, .slice ca av cc]] w fun e w' => e = .returned (.bool true) ∧ New w w' := by
  have h1 := hd.ok.len
  have h2 := chs_len (fun c hc => (hd.ok.hd c hc).1)
  exact Same_alike (base := 0) (n := 16) (av := av) (la := 0) hv hd.q (by omega) (by omega) (fun c hc => by have := ds_le hc; omega)
theorem Next_C {w0 w : World} {L : List (Nat × Array Value)} {R : List (Nat × Value × List Value)} (hv : Mem w0 w L R) {vb vc av hd : Nat} {M : List Nat} (hm : InM R vb 0 1000 vc M) (hav : av ≤ 20) (h1 : getN M (0 + (16 * 16 + 2)) 2 = av + 1) (h2 : getN M (0 + (16 * 16 + (4 + 2 * (av % 16)))) 2 = hd) {l : List Pt} (hc : ChainAt 1000 M 0 16 hd l) (hl : l.length ≤ 16) : Calls Try.prog 19 #[.agg #[.slice (some ⟨vb, 0, none⟩) 1000 vc], .agg #[.int .i64 0, .int .i64 16, .int .u16 (av : Nat), .int .u16 0]] w fun e w' => ∃ v R', e = .returned (.tuple #[.agg #[.int .i64 0, .int .i64 16, .int .u16 ((av + 1 : Nat) : Int), .int .u16 0], .int .i64 (hd : Nat), v, .int .i64 0]) ∧ Mem w0 w' L R' ∧ (3, v, cellsPt l) ∈ R' ∧ ∀ x ∈ R, x ∈ R' := by
  have hmod : (av + 1) % 65536 = av + 1 := Nat.mod_eq_of_lt (by omega)
  have := Next_M hv hm 0 16 av 0 ok16 (by have : sizeN 16 ≤ 424 := ok16.size.1; omega) (by omega) h1 (by omega) h2 l hc hl
  rw [hmod] at this
  exact this
theorem Serve_C (w : World) : Calls Try.prog 16 #[.int .i64 0, .int .i64 16] w fun e w' => e = .returned (.agg #[.int .i64 0, .int .i64 16, .int .u16 0, .int .u16 0]) ∧ New w w' := Serve_ok 0 16 w
set_option maxRecDepth 100000 in
set_option maxHeartbeats 4000000 in
theorem Car_c1 (la : Option Addr) (ln lc : Nat) (many : Int) (lens : List Int) (w : World) (R : List (Nat × Value × List Value)) (hv : Mem w w [] R) (hl : (1, .slice la ln lc, lens.map (Value.int .i64)) ∈ R) (h0 : 20 < ln) : Calls Try.prog 5 #[.slice la ln lc, .int .i64 many] w (fun e w' => e = .returned (.bool true) ∧ New w w') := by
  have y0 : decide ((20 : Int) < (ln : Int)) = true := decide_eq_true (by omega)
  have z0 : decide (20 < ln) = true := decide_eq_true h0
  clear hl h0
  go_enter Try.func5, Try.ntmps5
  go_wp2_with (first
    | (go_at_call 14; (with_reducible refine (heads08 _).mono ?_); rintro e w1 ⟨rfl, hn1⟩; replace hv := hv.new hn1; clear hn1))
  go_ret
  exact ⟨rfl, hv.below⟩
set_option maxRecDepth 100000 in
set_option maxHeartbeats 4000000 in
theorem Car_c2 (la : Option Addr) (ln lc : Nat) (many : Int) (lens : List Int) (w : World) (R : List (Nat × Value × List Value)) (hv : Mem w w [] R) (hl : (1, .slice la ln lc, lens.map (Value.int .i64)) ∈ R) (h0 : ln ≤ 20) (h1 : many < 1) : Calls Try.prog 5 #[.slice la ln lc, .int .i64 many] w (fun e w' => e = .returned (.bool true) ∧ New w w') := by
  have y0 : decide ((20 : Int) < (ln : Int)) = false := decide_eq_false (by omega)
  have z0 : decide (20 < ln) = false := decide_eq_false (by omega)
  have y1 : decide (many < 1) = true := decide_eq_true h1
  clear hl h0 h1
  go_enter Try.func5, Try.ntmps5
  go_wp2_with (first
    | (go_at_call 14; (with_reducible refine (heads08 _).mono ?_); rintro e w1 ⟨rfl, hn1⟩; replace hv := hv.new hn1; clear hn1))
  go_ret
  exact ⟨rfl, hv.below⟩
set_option maxRecDepth 100000 in
set_option maxHeartbeats 4000000 in
theorem Car_c3 (la : Option Addr) (ln lc : Nat) (many : Int) (lens : List Int) (w : World) (R : List (Nat × Value × List Value)) (hv : Mem w w [] R) (hl : (1, .slice la ln lc, lens.map (Value.int .i64)) ∈ R) (h0 : ln ≤ 20) (h1 : ¬ many < 1) (h2 : 4 < many) : Calls Try.prog 5 #[.slice la ln lc, .int .i64 many] w (fun e w' => e = .returned (.bool true) ∧ New w w') := by
  have y0 : decide ((20 : Int) < (ln : Int)) = false := decide_eq_false (by omega)
  have z0 : decide (20 < ln) = false := decide_eq_false (by omega)
  have y1 : decide (many < 1) = false := decide_eq_false h1
  have y2 : decide (4 < many) = true := decide_eq_true h2
  clear hl h0 h1 h2
  go_enter Try.func5, Try.ntmps5
  go_wp2_with (first
    | (go_at_call 14; (with_reducible refine (heads08 _).mono ?_); rintro e w1 ⟨rfl, hn1⟩; replace hv := hv.new hn1; clear hn1))
  go_ret
  exact ⟨rfl, hv.below⟩
set_option maxRecDepth 100000 in
set_option maxHeartbeats 16000000 in
theorem Car_yes (la : Option Addr) (ln lc : Nat) (many : Nat) (lens : List Int) (w : World) (R : List (Nat × Value × List Value)) (hv : Mem w w [] R) (hl : (1, .slice la ln lc, lens.map (Value.int .i64)) ∈ R) (h0 : ln ≤ 20) (h1 : 1 ≤ many) (h2 : many ≤ 4) : Calls Try.prog 5 #[.slice la ln lc, .int .i64 (many : Nat)] w (fun e w' => e = .returned (.bool true) ∧ New w w') := by
  have hln : lens.length = ln := by
    obtain ⟨_, _, _, e, g, _⟩ := hv.rd hl
    cases e
    simpa using g
  have HL := Lib.hid hl
  have HLN := Lib.hid hln
  have HM0 : Hid (0 < many) := Lib.hid h1
  have HM4 := Lib.hid h2
  have HLC := Lib.hid h0
  have y0 : decide ((20 : Int) < (ln : Int)) = false := decide_eq_false (by omega)
  have z0 : decide (20 < ln) = false := decide_eq_false (by omega)
  have y1 : decide ((many : Int) < 1) = false := decide_eq_false (by omega)
  have z1 : decide (many < 1) = false := decide_eq_false (by omega)
  have y2 : decide ((4 : Int) < (many : Int)) = false := decide_eq_false (by omega)
  have z2 : decide (4 < many) = false := decide_eq_false (by omega)
  clear hl hln h0
  go_enter Try.func5, Try.ntmps5
  go_wp2_with (first
    | (go_at_call 14; (with_reducible refine (heads08 _).mono ?_); rintro e w1 ⟨rfl, hn1⟩; replace hv := hv.new hn1; clear hn1)
    | ((with_reducible refine at_mkslice (T := 38) ?_); refine wl_mkz rfl 1000 rfl rfl (by decide) ?_; intro b34 w2 hm2; have hv1 := Mem.yield (L1 := []) (hv.madeAt hm2) (zeros_row b34 1000 (by decide)); simp only [List.nil_append] at hv1; replace hv := hv1; clear hv1 hm2; have HMZ : Hid (InM ((1, .slice (some ⟨b34, 0, none⟩) 1000 1000, cellsB (List.replicate 1000 0)) :: R) b34 0 1000 1000 CM0) := Lib.hid ⟨Mem.z, by unfold CM0; simp, by decide, by decide, zeros_good 1000⟩)
    | ((with_reducible refine at_build (T := 40) ?_); refine wl_build rfl _ rfl (built_mem _ _ _) ?_)
    | (go_at_call 15; (with_reducible refine (New_C hv HMZ.out).mono ?_); rintro e w1 ⟨vb, vc, fa, fc, R1, M, rfl, hv1, hd1, hs1⟩; replace hv := hv1; have HD := Lib.hid hd1; have HSB := Lib.hid (fun x hx => hs1 x (Mem.s hx)); clear hv1 hd1 hs1)
    | ((with_reducible refine at_alloc (T := 40) (dst := some 5) ?_); refine wl_newb rfl #[.slice none 0 0] 40 (fun _ => rfl) ?_; intro b5 w2 hm2; replace hv := hv.madeAt hm2; clear hm2)
    | ((with_reducible refine at_alloc (T := 44) (dst := some 6) ?_); refine wl_newb rfl #[.int .i64 0, .int .i64 0, .slice none 0 0, .int .u16 0, .int .u16 0, .slice none 0 0] 44 (fun _ => rfl) ?_; intro b6 w2 hm2; replace hv := hv.madeAt hm2; clear hm2)
    | ((with_reducible refine at_store (T := 40) ?_); refine wl_stv rfl b5 rfl _ rfl _ (hv.vars.row (by first | exact .head _ | exact .tail _ (.head _) | exact .tail _ (.tail _ (.head _)) | exact .tail _ (.tail _ (.tail _ (.head _))) | exact .tail _ (.tail _ (.tail _ (.tail _ (.head _)))) | exact .tail _ (.tail _ (.tail _ (.tail _ (.tail _ (.head _))))) | exact .tail _ (.tail _ (.tail _ (.tail _ (.tail _ (.tail _ (.head _)))))) | exact .tail _ (.tail _ (.tail _ (.tail _ (.tail _ (.tail _ (.tail _ (.head _))))))) | exact .tail _ (.tail _ (.tail _ (.tail _ (.tail _ (.tail _ (.tail _ (.tail _ (.head _)))))))) | exact .tail _ (.tail _ (.tail _ (.tail _ (.tail _ (.tail _ (.tail _ (.tail _ (.tail _ (.head _))))))))) | exact .tail _ (.tail _ (.tail _ (.tail _ (.tail _ (.tail _ (.tail _ (.tail _ (.tail _ (.tail _ (.head _)))))))))) | exact .tail _ (.tail _ (.tail _ (.tail _ (.tail _ (.tail _ (.tail _ (.tail _ (.tail _ (.tail _ (.tail _ (.head _))))))))))))) (hv.vars.sft (by first | exact .head _ | exact .tail _ (.head _) | exact .tail _ (.tail _ (.head _)) | exact .tail _ (.tail _ (.tail _ (.head _))) | exact .tail _ (.tail _ (.tail _ (.tail _ (.head _)))) | exact .tail _ (.tail _ (.tail _ (.tail _ (.tail _ (.head _))))) | exact .tail _ (.tail _ (.tail _ (.tail _ (.tail _ (.tail _ (.head _)))))) | exact .tail _ (.tail _ (.tail _ (.tail _ (.tail _ (.tail _ (.tail _ (.head _))))))) | exact .tail _ (.tail _ (.tail _ (.tail _ (.tail _ (.tail _ (.tail _ (.tail _ (.head _)))))))) | exact .tail _ (.tail _ (.tail _ (.tail _ (.tail _ (.tail _ (.tail _ (.tail _ (.tail _ (.head _))))))))) | exact .tail _ (.tail _ (.tail _ (.tail _ (.tail _ (.tail _ (.tail _ (.tail _ (.tail _ (.tail _ (.head _)))))))))) | exact .tail _ (.tail _ (.tail _ (.tail _ (.tail _ (.tail _ (.tail _ (.tail _ (.tail _ (.tail _ (.tail _ (.head _))))))))))))) 1 infoM rfl rfl (by simp [Value.oneCell']) ?_; intro w2 hw2; (first | (replace hv := hv.set 0 rfl hw2) | (replace hv := hv.set 1 rfl hw2) | (replace hv := hv.set 2 rfl hw2) | (replace hv := hv.set 3 rfl hw2) | (replace hv := hv.set 4 rfl hw2) | (replace hv := hv.set 5 rfl hw2) | (replace hv := hv.set 6 rfl hw2) | (replace hv := hv.set 7 rfl hw2) | (replace hv := hv.set 8 rfl hw2) | (replace hv := hv.set 9 rfl hw2) | (replace hv := hv.set 10 rfl hw2) | (replace hv := hv.set 11 rfl hw2)); clear hw2; simp only [List.set] at hv)
    | ((with_reducible refine at_store (T := 44) ?_); refine wl_stv rfl b6 rfl _ rfl _ (hv.vars.row (by first | exact .head _ | exact .tail _ (.head _) | exact .tail _ (.tail _ (.head _)) | exact .tail _ (.tail _ (.tail _ (.head _))) | exact .tail _ (.tail _ (.tail _ (.tail _ (.head _)))) | exact .tail _ (.tail _ (.tail _ (.tail _ (.tail _ (.head _))))) | exact .tail _ (.tail _ (.tail _ (.tail _ (.tail _ (.tail _ (.head _)))))) | exact .tail _ (.tail _ (.tail _ (.tail _ (.tail _ (.tail _ (.tail _ (.head _))))))) | exact .tail _ (.tail _ (.tail _ (.tail _ (.tail _ (.tail _ (.tail _ (.tail _ (.head _)))))))) | exact .tail _ (.tail _ (.tail _ (.tail _ (.tail _ (.tail _ (.tail _ (.tail _ (.tail _ (.head _))))))))) | exact .tail _ (.tail _ (.tail _ (.tail _ (.tail _ (.tail _ (.tail _ (.tail _ (.tail _ (.tail _ (.head _)))))))))) | exact .tail _ (.tail _ (.tail _ (.tail _ (.tail _ (.tail _ (.tail _ (.tail _ (.tail _ (.tail _ (.tail _ (.head _))))))))))))) (hv.vars.sft (by first | exact .head _ | exact .tail _ (.head _) | exact .tail _ (.tail _ (.head _)) | exact .tail _ (.tail _ (.tail _ (.head _))) | exact .tail _ (.tail _ (.tail _ (.tail _ (.head _)))) | exact .tail _ (.tail _ (.tail _ (.tail _ (.tail _ (.head _))))) | exact .tail _ (.tail _ (.tail _ (.tail _ (.tail _ (.tail _ (.head _)))))) | exact .tail _ (.tail _ (.tail _ (.tail _ (.tail _ (.tail _ (.tail _ (.head _))))))) | exact .tail _ (.tail _ (.tail _ (.tail _ (.tail _ (.tail _ (.tail _ (.tail _ (.head _)))))))) | exact .tail _ (.tail _ (.tail _ (.tail _ (.tail _ (.tail _ (.tail _ (.tail _ (.tail _ (.head _))))))))) | exact .tail _ (.tail _ (.tail _ (.tail _ (.tail _ (.tail _ (.tail _ (.tail _ (.tail _ (.tail _ (.head _)))))))))) | exact .tail _ (.tail _ (.tail _ (.tail _ (.tail _ (.tail _ (.tail _ (.tail _ (.tail _ (.tail _ (.tail _ (.head _))))))))))))) 6 infoQ rfl rfl (by simp [Value.oneCell']) ?_; intro w2 hw2; (first | (replace hv := hv.set 0 rfl hw2) | (replace hv := hv.set 1 rfl hw2) | (replace hv := hv.set 2 rfl hw2) | (replace hv := hv.set 3 rfl hw2) | (replace hv := hv.set 4 rfl hw2) | (replace hv := hv.set 5 rfl hw2) | (replace hv := hv.set 6 rfl hw2) | (replace hv := hv.set 7 rfl hw2) | (replace hv := hv.set 8 rfl hw2) | (replace hv := hv.set 9 rfl hw2) | (replace hv := hv.set 10 rfl hw2) | (replace hv := hv.set 11 rfl hw2)); clear hw2; simp only [List.set] at hv)
    | (go_at_call 16; (with_reducible refine (Serve_C _).mono ?_); rintro e w1 ⟨rfl, hn1⟩; replace hv := hv.new hn1; clear hn1)
    | ((with_reducible refine at_alloc (T := 49) (dst := some 8) ?_); refine wl_newb rfl #[.int .i64 0, .int .i64 0, .int .u16 0, .int .u16 0] 49 (fun _ => rfl) ?_; intro b8 w2 hm2; replace hv := hv.madeAt hm2; clear hm2)
    | ((with_reducible refine at_store (T := 49) ?_); refine wl_stv rfl b8 rfl _ rfl _ (hv.vars.row (by first | exact .head _ | exact .tail _ (.head _) | exact .tail _ (.tail _ (.head _)) | exact .tail _ (.tail _ (.tail _ (.head _))) | exact .tail _ (.tail _ (.tail _ (.tail _ (.head _)))) | exact .tail _ (.tail _ (.tail _ (.tail _ (.tail _ (.head _))))) | exact .tail _ (.tail _ (.tail _ (.tail _ (.tail _ (.tail _ (.head _)))))) | exact .tail _ (.tail _ (.tail _ (.tail _ (.tail _ (.tail _ (.tail _ (.head _))))))) | exact .tail _ (.tail _ (.tail _ (.tail _ (.tail _ (.tail _ (.tail _ (.tail _ (.head _)))))))) | exact .tail _ (.tail _ (.tail _ (.tail _ (.tail _ (.tail _ (.tail _ (.tail _ (.tail _ (.head _))))))))) | exact .tail _ (.tail _ (.tail _ (.tail _ (.tail _ (.tail _ (.tail _ (.tail _ (.tail _ (.tail _ (.head _)))))))))) | exact .tail _ (.tail _ (.tail _ (.tail _ (.tail _ (.tail _ (.tail _ (.tail _ (.tail _ (.tail _ (.tail _ (.head _))))))))))))) (hv.vars.sft (by first | exact .head _ | exact .tail _ (.head _) | exact .tail _ (.tail _ (.head _)) | exact .tail _ (.tail _ (.tail _ (.head _))) | exact .tail _ (.tail _ (.tail _ (.tail _ (.head _)))) | exact .tail _ (.tail _ (.tail _ (.tail _ (.tail _ (.head _))))) | exact .tail _ (.tail _ (.tail _ (.tail _ (.tail _ (.tail _ (.head _)))))) | exact .tail _ (.tail _ (.tail _ (.tail _ (.tail _ (.tail _ (.tail _ (.head _))))))) | exact .tail _ (.tail _ (.tail _ (.tail _ (.tail _ (.tail _ (.tail _ (.tail _ (.head _)))))))) | exact .tail _ (.tail _ (.tail _ (.tail _ (.tail _ (.tail _ (.tail _ (.tail _ (.tail _ (.head _))))))))) | exact .tail _ (.tail _ (.tail _ (.tail _ (.tail _ (.tail _ (.tail _ (.tail _ (.tail _ (.tail _ (.head _)))))))))) | exact .tail _ (.tail _ (.tail _ (.tail _ (.tail _ (.tail _ (.tail _ (.tail _ (.tail _ (.tail _ (.tail _ (.head _))))))))))))) 4 infoS4 rfl rfl (by simp [Value.oneCell']) ?_; intro w2 hw2; (first | (replace hv := hv.set 0 rfl hw2) | (replace hv := hv.set 1 rfl hw2) | (replace hv := hv.set 2 rfl hw2) | (replace hv := hv.set 3 rfl hw2) | (replace hv := hv.set 4 rfl hw2) | (replace hv := hv.set 5 rfl hw2) | (replace hv := hv.set 6 rfl hw2) | (replace hv := hv.set 7 rfl hw2) | (replace hv := hv.set 8 rfl hw2) | (replace hv := hv.set 9 rfl hw2) | (replace hv := hv.set 10 rfl hw2) | (replace hv := hv.set 11 rfl hw2)); clear hw2; simp only [List.set] at hv))
  go_loopw [9, 10] (fun fv_ iv wr => ∃ (i fr vb vc av fc cc : Nat) (fa ca : Option Addr) (M : List Nat) (chs : List Chn) (R1 : List (Nat × Value × List Value)), fr + i = 16 ∧ av ≤ i ∧ i ≤ 16 ∧ fv_ = .int .i64 (fr : Nat) ∧ iv = .int .i64 (i : Nat) ∧ Mem w wr [(b8, #[.int .i64 0, .int .i64 16, .int .u16 (av : Nat), .int .u16 0]), (b6, #[.int .i64 0, .int .i64 16, .slice fa fr fc, .int .u16 (av : Nat), .int .u16 0, .slice ca av cc]), (b5, #[.slice (some ⟨vb, 0, none⟩) 1000 vc])] R1 ∧ Hid (Drv R1 1000 vb vc (.slice fa fr fc) (.slice ca av cc) M 16 ((List.range 16).drop i) chs) ∧ Hid (chs.length = av) ∧ Hid (∀ x ∈ R, x ∈ R1)) (fun _ iv _ => 100 - (intOf iv).toNat)
  case atStart => exact ⟨0, 16, vb, vc, 0, fc, 0, fa, none, M, [], R1, rfl, Nat.le_refl _, Nat.zero_le _, rfl, rfl, hv, HD, Lib.hid rfl, HSB⟩
  case round =>
    clear hv HD HSB HMZ
    obtain ⟨i, fr, vb, vc, av, fc, cc, fa, ca, M, chs, R1, hfr, havi, hi16, rfl, rfl, hv, HDR, HCH, HSB⟩ := hrel
    have q1 : IntKind.i64.wrap ((i : Int) + (many : Int)) = (i : Int) + (many : Int) := IntWalk.i64_in _ (by omega)
    have HFR := Lib.hid hfr
    have HAV : Hid (av ≤ 20) := Lib.hid (by omega)
    by_cases hc : i + many ≤ ln
    · have hci : (i : Int) + (many : Int) ≤ (ln : Int) := by omega
      have HC := Lib.hid hc
      have HAVI := Lib.hid havi
      clear hc havi
      go_wp2
      go_loopw [11, 12] (fun lv kv wr => ∃ (k : Nat) (O : List (Nat × Array Value)), k ≤ many ∧ kv = .int .i64 (k : Nat) ∧ Mem w wr ((b8, #[.int .i64 0, .int .i64 16, .int .u16 (av : Nat), .int .u16 0]) :: (b6, #[.int .i64 0, .int .i64 16, .slice fa fr fc, .int .u16 (av : Nat), .int .u16 0, .slice ca av cc]) :: (b5, #[.slice (some ⟨vb, 0, none⟩) 1000 vc]) :: O) R1 ∧ Hid (OwnL 3 lv (cellsPt (lstC lens i k)) O)) (fun _ kv _ => many - (intOf kv).toNat)
      case atStart => exact ⟨0, [], Nat.zero_le _, rfl, hv, Lib.hid (OwnL.nil 3)⟩
      case round =>
        clear hv
        obtain ⟨k, O, hk0, rfl, hv, HO⟩ := hrel
        by_cases hk : k < many
        · have hki : (k : Int) < (many : Int) := by omega
          have hcc := HC.out
          have hlc := HLC.out
          have hkl : i + k < lens.length := by rw [HLN.out]; omega
          obtain ⟨x, hx⟩ : ∃ x, lens[i + k] = x := ⟨_, rfl⟩
          have hxd : lens.getD (i + k) 0 = x := by rw [List.getD_eq_getElem?_getD, List.getElem?_eq_getElem hkl, hx]; rfl
          have HX : Hid ((lens.map (Value.int .i64))[i + k]? = some (.int .i64 x)) := Lib.hid (by rw [List.getElem?_map, List.getElem?_eq_getElem hkl, hx]; rfl)
          obtain ⟨f, hf, he⟩ := and_rng x 15 15 rfl (by decide)
          obtain ⟨g, hg, heg⟩ := and_rng x 16 16 rfl (by decide)
          obtain ⟨pw, hpw⟩ : ∃ b, ((g : Int) != 0) = b := ⟨_, rfl⟩
          obtain ⟨pa, hpa⟩ : ∃ p, 500 + 8 * k = p := ⟨_, rfl⟩
          obtain ⟨pl, hpl⟩ : ∃ p, 1 + f = p := ⟨_, rfl⟩
          have HPT : Hid (encP (pa, pl, pw) = encP (partC lens i k)) := Lib.hid (by
            unfold partC
            rw [hxd, he, heg, hpw, Int.toNat_natCast, hpa, hpl])
          have q2 : IntKind.i64.wrap (8 * (k : Int)) = 8 * (k : Int) := IntWalk.i64_in _ (by omega)
          have q3 : IntKind.i64.wrap (500 + 8 * (k : Int)) = (pa : Int) := by rw [IntWalk.i64_in _ (by omega)]; omega
          have q4 : IntKind.i64.wrap ((i : Int) + (k : Int)) = (i : Int) + (k : Int) := IntWalk.i64_in _ (by omega)
          have q5 : IntKind.i64.wrap (1 + (f : Int)) = (pl : Int) := by rw [IntWalk.i64_in _ (by omega)]; omega
          have hikl : (i : Int) + (k : Int) < (ln : Int) := by omega
          have hik0 : (0 : Int) ≤ (i : Int) + (k : Int) := by omega
          have hiks : ((i : Int) + (k : Int)).toNat = i + k := by omega
          have hlr := HSB.out _ HL.out
          obtain ⟨lb, lo, _, _, e, hq⟩ := (hv.rd hlr).some (by rw [List.length_map]; omega)
          clear hq
          cases e
          have HPL := Lib.hid (Any.rd_start hv hlr)
          have HN1 : Hid ((encP (pa, pl, pw)).length / 3 ≤ maxLen) := Lib.hid (by show 3 / 3 ≤ _; unfold maxLen; omega)
          have HN2 : Hid ((encP (pa, pl, pw)).length / 3 * 24 ≤ 140737488355328) := Lib.hid (by show 3 / 3 * 24 ≤ _; omega)
          have HB1 : Hid (((cellsPt (lstC lens i k)).length + (encP (pa, pl, pw)).length) / 3 ≤ maxLen) := Lib.hid (by rw [cellsPt_len, lstC_len]; show (k * 3 + 3) / 3 ≤ _; unfold maxLen; omega)
          have HB2 : Hid (((cellsPt (lstC lens i k)).length + (encP (pa, pl, pw)).length) / 3 * 24 ≤ 140737488355328) := Lib.hid (by rw [cellsPt_len, lstC_len]; show (k * 3 + 3) / 3 * 24 ≤ _; omega)
          have HKN := Lib.hid hk
          rcases HO.out with ⟨rfl, hcn, rfl⟩ | ⟨x0, hrow, rfl⟩
          · have HK0 := Lib.hid hcn
            clear hkl hx hxd hf hg hpa hpl hlr hk hk0 hcc hlc hcn
            go_wp2
            refine Any.wp_region_walk [⟨[], none⟩, ⟨[], none⟩, ⟨[], none⟩, ⟨[], none⟩, ⟨[], none⟩, ⟨[], none⟩, ⟨[], none⟩, ⟨[], none⟩, ⟨[], none⟩, ⟨[], none⟩, ⟨[], none⟩, ⟨[], none⟩, ⟨[], none⟩, ⟨[], none⟩, ⟨[], none⟩, ⟨[], none⟩, ⟨[], none⟩, ⟨[], none⟩, ⟨[], none⟩, ⟨[], none⟩, ⟨[], none⟩, ⟨[], some 8⟩, ⟨[8], some 9⟩, ⟨[], none⟩] [.val, .val, .val, .val, .val, .val, .val, .val, .val, .val, .val, .val, .val, .val, .val, .val, .val, .val, .val, .val, .val, .bsl 1 #[.int .i64 (pa : Nat), .int .i64 (pl : Nat), .bool pw], .own (fun v x => AppRow v 3 (encP (pa, pl, pw)) x), .pure] (by kernel_rfl) (by kernel_rfl) hv.vars ?_
            simp only [List.length_cons, List.length_nil, Nat.zero_add, Any.someVals]
            iterate 24 apply Exists.intro
            repeat (first
              | (refine Any.E_off rfl ?_; simp only [Act.put, List.setIfInBounds_toArray, List.set_cons_succ, List.set_cons_zero])
              | (apply Any.E_pureq rfl rfl rfl
                 case h => intro K hK; go_big_quiet_op; (refine hK _ ?_; rfl)
                 case hr => exact fun _ => rfl
                 simp only [Act.put, List.setIfInBounds_toArray, List.set_cons_succ, List.set_cons_zero])
              | (apply Any.E_val rfl rfl rfl rfl
                 case h =>
                   intro E' hA K hK
                   first
                     | ((with_reducible refine Any.at_qload (T := 3) ?_); refine Any.q_rd HPL.out (i + k) rfl _ Try.underlying3 rfl (.int .i64 x) HX.out ?_; refine hK _ ?_; rfl)
                     | ((with_reducible refine Any.at_qbuild ?_); refine Any.q_build _ rfl (built_buf _ _ _) ?_; refine hK _ ?_; rfl)
                     | (go_big_quiet_op; first
                       | (refine hK _ ?_; rfl)
                       | (refine ⟨_, fun _ _ => rfl, ?_⟩; refine hK _ ?_; rfl)
                       | (apply Exists.intro; refine ⟨fun w1 hw1 => ?_, ?_⟩; · (first
                           | fail)
                          refine hK _ ?_; rfl))
                 case hD => rfl
                 simp only [Act.put, List.setIfInBounds_toArray, List.set_cons_succ, List.set_cons_zero])
              | ((with_reducible refine Any.at_ealloc ?_); refine Any.E_lay rfl rfl rfl (fun _ => rfl) ?_; intro B; simp only [Act.put, List.setIfInBounds_toArray, List.set_cons_succ, List.set_cons_zero])
              | ((with_reducible refine Any.at_ebsl ?_); refine Any.E_bsl (n := 1) (z := #[.int .i64 (pa : Nat), .int .i64 (pl : Nat), .bool pw]) (t := 53) rfl rfl rfl (fun w' => (by unfold execOp; go_simp)) ?_; intro B; simp only [Act.put, List.setIfInBounds_toArray, List.set_cons_succ, List.set_cons_zero])
              | ((with_reducible refine Any.at_eapp (t := 51) ?_); refine Any.E_appnil (j := 8) (news := encP (pa, pl, pw)) (zs := #[.int .i64 (pa : Nat), .int .i64 (pl : Nat), .bool pw]) (m := 1) rfl rfl rfl rfl rfl (by decide) rfl rfl rfl (by unfold maxLen; omega) (List.cons_ne_nil _ _) (.agg #[.int .i64 0, .int .i64 0, .bool false]) 24 Try.underlying51 infoB3z rfl (by decide) (encP_one _) HN1.out HN2.out ?_; intro v9 x9 hW9; obtain ⟨n9, c9, rfl, g9⟩ := id hW9; replace g9 := Lib.hid g9; replace hW9 := Lib.hid hW9; simp only [Act.put, List.setIfInBounds_toArray, List.set_cons_succ, List.set_cons_zero]))
            try any_goals exact undef
            refine Any.E_nil ?_
            intro w9 hE9
            replace hv : Mem w w9 [(b8, #[.int .i64 0, .int .i64 16, .int .u16 (av : Nat), .int .u16 0]), (b6, #[.int .i64 0, .int .i64 16, .slice fa fr fc, .int .u16 (av : Nat), .int .u16 0, .slice ca av cc]), (b5, #[.slice (some ⟨vb, 0, none⟩) 1000 vc]), x9] _ := hE9.mem hv [1000, 1001, 1002, 9] (by decide)
            clear hE9
            clear HPL
            go_wp2
            have hik := HKN.out
            go_roundw
            case rel => exact ⟨k + 1, [x9], by omega, by go_num, hv, Lib.hid (OwnL.row (by rw [lstC_succ, ← HPT.out]; rw [HK0.out, List.nil_append]; exact hW9.out))⟩
            case measure => simp [intOf]; omega
          · have HROW := Lib.hid hrow
            obtain ⟨rn, rc, rfl, _⟩ := id hrow
            clear hkl hx hxd hf hg hpa hpl hlr hk hk0 hcc hlc hrow
            go_wp2
            refine Any.wp_region_walk [⟨[], none⟩, ⟨[], none⟩, ⟨[], none⟩, ⟨[], none⟩, ⟨[], none⟩, ⟨[], none⟩, ⟨[], none⟩, ⟨[], none⟩, ⟨[], none⟩, ⟨[], none⟩, ⟨[], none⟩, ⟨[], none⟩, ⟨[], none⟩, ⟨[], none⟩, ⟨[], none⟩, ⟨[], none⟩, ⟨[], none⟩, ⟨[], none⟩, ⟨[], none⟩, ⟨[], none⟩, ⟨[], none⟩, ⟨[], some 8⟩, ⟨[8], some 1003⟩, ⟨[], none⟩] [.val, .val, .val, .val, .val, .val, .val, .val, .val, .val, .val, .val, .val, .val, .val, .val, .val, .val, .val, .val, .val, .bsl 1 #[.int .i64 (pa : Nat), .int .i64 (pl : Nat), .bool pw], .own (fun v x => AppRow v 3 (cellsPt (lstC lens i k) ++ encP (pa, pl, pw)) x), .pure] (by kernel_rfl) (by kernel_rfl) hv.vars ?_
            simp only [List.length_cons, List.length_nil, Nat.zero_add, Any.someVals]
            iterate 24 apply Exists.intro
            repeat (first
              | (refine Any.E_off rfl ?_; simp only [Act.put, List.setIfInBounds_toArray, List.set_cons_succ, List.set_cons_zero])
              | (apply Any.E_pureq rfl rfl rfl
                 case h => intro K hK; go_big_quiet_op; (refine hK _ ?_; rfl)
                 case hr => exact fun _ => rfl
                 simp only [Act.put, List.setIfInBounds_toArray, List.set_cons_succ, List.set_cons_zero])
              | (apply Any.E_val rfl rfl rfl rfl
                 case h =>
                   intro E' hA K hK
                   first
                     | ((with_reducible refine Any.at_qload (T := 3) ?_); refine Any.q_rd HPL.out (i + k) rfl _ Try.underlying3 rfl (.int .i64 x) HX.out ?_; refine hK _ ?_; rfl)
                     | ((with_reducible refine Any.at_qbuild ?_); refine Any.q_build _ rfl (built_buf _ _ _) ?_; refine hK _ ?_; rfl)
                     | (go_big_quiet_op; first
                       | (refine hK _ ?_; rfl)
                       | (refine ⟨_, fun _ _ => rfl, ?_⟩; refine hK _ ?_; rfl)
                       | (apply Exists.intro; refine ⟨fun w1 hw1 => ?_, ?_⟩; · (first
                           | fail)
                          refine hK _ ?_; rfl))
                 case hD => rfl
                 simp only [Act.put, List.setIfInBounds_toArray, List.set_cons_succ, List.set_cons_zero])
              | ((with_reducible refine Any.at_ealloc ?_); refine Any.E_lay rfl rfl rfl (fun _ => rfl) ?_; intro B; simp only [Act.put, List.setIfInBounds_toArray, List.set_cons_succ, List.set_cons_zero])
              | ((with_reducible refine Any.at_ebsl ?_); refine Any.E_bsl (n := 1) (z := #[.int .i64 (pa : Nat), .int .i64 (pl : Nat), .bool pw]) (t := 53) rfl rfl rfl (fun w' => (by unfold execOp; go_simp)) ?_; intro B; simp only [Act.put, List.setIfInBounds_toArray, List.set_cons_succ, List.set_cons_zero])
              | ((with_reducible refine Any.at_eapp (t := 51) ?_); refine Any.E_app (j := 8) (news := encP (pa, pl, pw)) (zs := #[.int .i64 (pa : Nat), .int .i64 (pl : Nat), .bool pw]) (m := 1) rfl rfl rfl rfl rfl HROW.out rfl (by decide) rfl rfl rfl (by unfold maxLen; omega) (.agg #[.int .i64 0, .int .i64 0, .bool false]) 24 Try.underlying51 infoB3z rfl (by decide) (encP_one _) HB1.out HB2.out ?_; intro v9 x9 hW9; obtain ⟨n9, c9, rfl, g9⟩ := id hW9; replace g9 := Lib.hid g9; replace hW9 := Lib.hid hW9; simp only [Act.put, List.setIfInBounds_toArray, List.set_cons_succ, List.set_cons_zero]))
            try any_goals exact undef
            refine Any.E_nil ?_
            intro w9 hE9
            replace hv : Mem w w9 [(b8, #[.int .i64 0, .int .i64 16, .int .u16 (av : Nat), .int .u16 0]), (b6, #[.int .i64 0, .int .i64 16, .slice fa fr fc, .int .u16 (av : Nat), .int .u16 0, .slice ca av cc]), (b5, #[.slice (some ⟨vb, 0, none⟩) 1000 vc]), x9] _ := hE9.mem hv [1000, 1001, 1002, 1003] (by decide)
            clear hE9
            clear HPL
            go_wp2
            have hik := HKN.out
            go_roundw
            case rel => exact ⟨k + 1, [x9], by omega, by go_num, hv, Lib.hid (OwnL.row (by rw [lstC_succ, ← HPT.out]; exact hW9.out))⟩
            case measure => simp [intOf]; omega
        · have hki : ¬ (k : Int) < (many : Int) := by omega
          obtain rfl : many = k := by omega
          obtain ⟨la2, ln2, lc2, rfl, hq⟩ := id HO.out.slice
          clear hq
          have hv1 := HO.out.yield (A := [(b8, #[.int .i64 0, .int .i64 16, .int .u16 (av : Nat), .int .u16 0]), (b6, #[.int .i64 0, .int .i64 16, .slice fa fr fc, .int .u16 (av : Nat), .int .u16 0, .slice ca av cc]), (b5, #[.slice (some ⟨vb, 0, none⟩) 1000 vc])]) (B := []) (by simpa using hv)
          simp only [List.append_nil] at hv1
          clear hv HO hk hk0
          have hv := hv1
          clear hv1
          have HLL : Hid ((lstC lens i many).length ≤ 16) := Lib.hid (by rw [lstC_len]; have := HM4.out; omega)
          have HLL2 : Hid ((lstC lens i many).length ≤ 1000) := Lib.hid (by rw [lstC_len]; have := HM4.out; omega)
          replace HDR := Lib.hid (HDR.out.mono fun x hx => Mem.s (y := (3, Value.slice la2 ln2 lc2, cellsPt (lstC lens i many))) hx)
          by_cases hf : many ≤ fr
          · have HMF := Lib.hid hf
            have y5 : decide ((fr : Int) < (many : Int)) = false := decide_eq_false (by omega)
            have z5 : decide (fr < many) = false := decide_eq_false (by omega)
            have q6 : IntKind.i64.wrap ((fr : Int) - (many : Int)) = ((fr - many : Nat) : Int) := by rw [IntWalk.i64_in _ (by omega)]; omega
            clear hf
            go_wp2_with (first
              | ((with_reducible refine at_load (T := 40) ?_); refine wl_ldv rfl b5 rfl _ (hv.vars.row (by first | exact .head _ | exact .tail _ (.head _) | exact .tail _ (.tail _ (.head _)) | exact .tail _ (.tail _ (.tail _ (.head _))) | exact .tail _ (.tail _ (.tail _ (.tail _ (.head _)))) | exact .tail _ (.tail _ (.tail _ (.tail _ (.tail _ (.head _))))) | exact .tail _ (.tail _ (.tail _ (.tail _ (.tail _ (.tail _ (.head _)))))) | exact .tail _ (.tail _ (.tail _ (.tail _ (.tail _ (.tail _ (.tail _ (.head _))))))) | exact .tail _ (.tail _ (.tail _ (.tail _ (.tail _ (.tail _ (.tail _ (.tail _ (.head _)))))))) | exact .tail _ (.tail _ (.tail _ (.tail _ (.tail _ (.tail _ (.tail _ (.tail _ (.tail _ (.head _))))))))) | exact .tail _ (.tail _ (.tail _ (.tail _ (.tail _ (.tail _ (.tail _ (.tail _ (.tail _ (.tail _ (.head _)))))))))) | exact .tail _ (.tail _ (.tail _ (.tail _ (.tail _ (.tail _ (.tail _ (.tail _ (.tail _ (.tail _ (.tail _ (.head _))))))))))))) 1 _ Try.underlying40 rfl infoM (by decide) rfl ?_)
              | ((with_reducible refine at_load (T := 44) ?_); refine wl_ldv rfl b6 rfl _ (hv.vars.row (by first | exact .head _ | exact .tail _ (.head _) | exact .tail _ (.tail _ (.head _)) | exact .tail _ (.tail _ (.tail _ (.head _))) | exact .tail _ (.tail _ (.tail _ (.tail _ (.head _)))) | exact .tail _ (.tail _ (.tail _ (.tail _ (.tail _ (.head _))))) | exact .tail _ (.tail _ (.tail _ (.tail _ (.tail _ (.tail _ (.head _)))))) | exact .tail _ (.tail _ (.tail _ (.tail _ (.tail _ (.tail _ (.tail _ (.head _))))))) | exact .tail _ (.tail _ (.tail _ (.tail _ (.tail _ (.tail _ (.tail _ (.tail _ (.head _)))))))) | exact .tail _ (.tail _ (.tail _ (.tail _ (.tail _ (.tail _ (.tail _ (.tail _ (.tail _ (.head _))))))))) | exact .tail _ (.tail _ (.tail _ (.tail _ (.tail _ (.tail _ (.tail _ (.tail _ (.tail _ (.tail _ (.head _)))))))))) | exact .tail _ (.tail _ (.tail _ (.tail _ (.tail _ (.tail _ (.tail _ (.tail _ (.tail _ (.tail _ (.tail _ (.head _))))))))))))) 6 _ Try.underlying44 rfl infoQ (by decide) rfl ?_)
              | (go_at_call 17; (with_reducible refine (Add_C hv HDR.out HFR.out HCH.out Mem.z HM0.out HM4.out HMF.out HAV.out).mono ?_); rintro e w1 ⟨vb2, vc2, fa2, fc2, ca2, cc2, M2, chs2, R2, hd, rfl, hv1, hd1, g1, g2, g3, g4, hs1⟩; replace hv := hv1; have HD2 := Lib.hid hd1; have HC2 := Lib.hid g1; have HG2 := Lib.hid g2; have HG3 := Lib.hid g3; have HG4 := Lib.hid g4; have HS2 := Lib.hid hs1; clear hv1 hd1 g1 g2 g3 g4 hs1; have ph : ((hd : Int) != (hd : Int)) = false := by simp)
              | ((with_reducible refine at_alloc (T := 40) (dst := some 13) ?_); refine wl_newb rfl #[.slice none 0 0] 40 (fun _ => rfl) ?_; intro b13 w2 hm2; replace hv := hv.madeAt hm2; clear hm2)
              | ((with_reducible refine at_alloc (T := 44) (dst := some 14) ?_); refine wl_newb rfl #[.int .i64 0, .int .i64 0, .slice none 0 0, .int .u16 0, .int .u16 0, .slice none 0 0] 44 (fun _ => rfl) ?_; intro b14 w2 hm2; replace hv := hv.madeAt hm2; clear hm2)
              | ((with_reducible refine at_store (T := 40) ?_); refine wl_stv rfl b13 rfl _ rfl _ (hv.vars.row (by first | exact .head _ | exact .tail _ (.head _) | exact .tail _ (.tail _ (.head _)) | exact .tail _ (.tail _ (.tail _ (.head _))) | exact .tail _ (.tail _ (.tail _ (.tail _ (.head _)))) | exact .tail _ (.tail _ (.tail _ (.tail _ (.tail _ (.head _))))) | exact .tail _ (.tail _ (.tail _ (.tail _ (.tail _ (.tail _ (.head _)))))) | exact .tail _ (.tail _ (.tail _ (.tail _ (.tail _ (.tail _ (.tail _ (.head _))))))) | exact .tail _ (.tail _ (.tail _ (.tail _ (.tail _ (.tail _ (.tail _ (.tail _ (.head _)))))))) | exact .tail _ (.tail _ (.tail _ (.tail _ (.tail _ (.tail _ (.tail _ (.tail _ (.tail _ (.head _))))))))) | exact .tail _ (.tail _ (.tail _ (.tail _ (.tail _ (.tail _ (.tail _ (.tail _ (.tail _ (.tail _ (.head _)))))))))) | exact .tail _ (.tail _ (.tail _ (.tail _ (.tail _ (.tail _ (.tail _ (.tail _ (.tail _ (.tail _ (.tail _ (.head _))))))))))))) (hv.vars.sft (by first | exact .head _ | exact .tail _ (.head _) | exact .tail _ (.tail _ (.head _)) | exact .tail _ (.tail _ (.tail _ (.head _))) | exact .tail _ (.tail _ (.tail _ (.tail _ (.head _)))) | exact .tail _ (.tail _ (.tail _ (.tail _ (.tail _ (.head _))))) | exact .tail _ (.tail _ (.tail _ (.tail _ (.tail _ (.tail _ (.head _)))))) | exact .tail _ (.tail _ (.tail _ (.tail _ (.tail _ (.tail _ (.tail _ (.head _))))))) | exact .tail _ (.tail _ (.tail _ (.tail _ (.tail _ (.tail _ (.tail _ (.tail _ (.head _)))))))) | exact .tail _ (.tail _ (.tail _ (.tail _ (.tail _ (.tail _ (.tail _ (.tail _ (.tail _ (.head _))))))))) | exact .tail _ (.tail _ (.tail _ (.tail _ (.tail _ (.tail _ (.tail _ (.tail _ (.tail _ (.tail _ (.head _)))))))))) | exact .tail _ (.tail _ (.tail _ (.tail _ (.tail _ (.tail _ (.tail _ (.tail _ (.tail _ (.tail _ (.tail _ (.head _))))))))))))) 1 infoM rfl rfl (by simp [Value.oneCell']) ?_; intro w2 hw2; (first | (replace hv := hv.set 0 rfl hw2) | (replace hv := hv.set 1 rfl hw2) | (replace hv := hv.set 2 rfl hw2) | (replace hv := hv.set 3 rfl hw2) | (replace hv := hv.set 4 rfl hw2) | (replace hv := hv.set 5 rfl hw2) | (replace hv := hv.set 6 rfl hw2) | (replace hv := hv.set 7 rfl hw2) | (replace hv := hv.set 8 rfl hw2) | (replace hv := hv.set 9 rfl hw2) | (replace hv := hv.set 10 rfl hw2) | (replace hv := hv.set 11 rfl hw2)); clear hw2; simp only [List.set] at hv)
              | ((with_reducible refine at_store (T := 44) ?_); refine wl_stv rfl b14 rfl _ rfl _ (hv.vars.row (by first | exact .head _ | exact .tail _ (.head _) | exact .tail _ (.tail _ (.head _)) | exact .tail _ (.tail _ (.tail _ (.head _))) | exact .tail _ (.tail _ (.tail _ (.tail _ (.head _)))) | exact .tail _ (.tail _ (.tail _ (.tail _ (.tail _ (.head _))))) | exact .tail _ (.tail _ (.tail _ (.tail _ (.tail _ (.tail _ (.head _)))))) | exact .tail _ (.tail _ (.tail _ (.tail _ (.tail _ (.tail _ (.tail _ (.head _))))))) | exact .tail _ (.tail _ (.tail _ (.tail _ (.tail _ (.tail _ (.tail _ (.tail _ (.head _)))))))) | exact .tail _ (.tail _ (.tail _ (.tail _ (.tail _ (.tail _ (.tail _ (.tail _ (.tail _ (.head _))))))))) | exact .tail _ (.tail _ (.tail _ (.tail _ (.tail _ (.tail _ (.tail _ (.tail _ (.tail _ (.tail _ (.head _)))))))))) | exact .tail _ (.tail _ (.tail _ (.tail _ (.tail _ (.tail _ (.tail _ (.tail _ (.tail _ (.tail _ (.tail _ (.head _))))))))))))) (hv.vars.sft (by first | exact .head _ | exact .tail _ (.head _) | exact .tail _ (.tail _ (.head _)) | exact .tail _ (.tail _ (.tail _ (.head _))) | exact .tail _ (.tail _ (.tail _ (.tail _ (.head _)))) | exact .tail _ (.tail _ (.tail _ (.tail _ (.tail _ (.head _))))) | exact .tail _ (.tail _ (.tail _ (.tail _ (.tail _ (.tail _ (.head _)))))) | exact .tail _ (.tail _ (.tail _ (.tail _ (.tail _ (.tail _ (.tail _ (.head _))))))) | exact .tail _ (.tail _ (.tail _ (.tail _ (.tail _ (.tail _ (.tail _ (.tail _ (.head _)))))))) | exact .tail _ (.tail _ (.tail _ (.tail _ (.tail _ (.tail _ (.tail _ (.tail _ (.tail _ (.head _))))))))) | exact .tail _ (.tail _ (.tail _ (.tail _ (.tail _ (.tail _ (.tail _ (.tail _ (.tail _ (.tail _ (.head _)))))))))) | exact .tail _ (.tail _ (.tail _ (.tail _ (.tail _ (.tail _ (.tail _ (.tail _ (.tail _ (.tail _ (.tail _ (.head _))))))))))))) 6 infoQ rfl rfl (by simp [Value.oneCell']) ?_; intro w2 hw2; (first | (replace hv := hv.set 0 rfl hw2) | (replace hv := hv.set 1 rfl hw2) | (replace hv := hv.set 2 rfl hw2) | (replace hv := hv.set 3 rfl hw2) | (replace hv := hv.set 4 rfl hw2) | (replace hv := hv.set 5 rfl hw2) | (replace hv := hv.set 6 rfl hw2) | (replace hv := hv.set 7 rfl hw2) | (replace hv := hv.set 8 rfl hw2) | (replace hv := hv.set 9 rfl hw2) | (replace hv := hv.set 10 rfl hw2) | (replace hv := hv.set 11 rfl hw2)); clear hw2; simp only [List.set] at hv)
              | ((with_reducible refine at_load (T := 40) ?_); refine wl_ldv rfl b13 rfl _ (hv.vars.row (by first | exact .head _ | exact .tail _ (.head _) | exact .tail _ (.tail _ (.head _)) | exact .tail _ (.tail _ (.tail _ (.head _))) | exact .tail _ (.tail _ (.tail _ (.tail _ (.head _)))) | exact .tail _ (.tail _ (.tail _ (.tail _ (.tail _ (.head _))))) | exact .tail _ (.tail _ (.tail _ (.tail _ (.tail _ (.tail _ (.head _)))))) | exact .tail _ (.tail _ (.tail _ (.tail _ (.tail _ (.tail _ (.tail _ (.head _))))))) | exact .tail _ (.tail _ (.tail _ (.tail _ (.tail _ (.tail _ (.tail _ (.tail _ (.head _)))))))) | exact .tail _ (.tail _ (.tail _ (.tail _ (.tail _ (.tail _ (.tail _ (.tail _ (.tail _ (.head _))))))))) | exact .tail _ (.tail _ (.tail _ (.tail _ (.tail _ (.tail _ (.tail _ (.tail _ (.tail _ (.tail _ (.head _)))))))))) | exact .tail _ (.tail _ (.tail _ (.tail _ (.tail _ (.tail _ (.tail _ (.tail _ (.tail _ (.tail _ (.tail _ (.head _))))))))))))) 1 _ Try.underlying40 rfl infoM (by decide) rfl ?_)
              | ((with_reducible refine at_load (T := 49) ?_); refine wl_ldv rfl b8 rfl _ (hv.vars.row (by first | exact .head _ | exact .tail _ (.head _) | exact .tail _ (.tail _ (.head _)) | exact .tail _ (.tail _ (.tail _ (.head _))) | exact .tail _ (.tail _ (.tail _ (.tail _ (.head _)))) | exact .tail _ (.tail _ (.tail _ (.tail _ (.tail _ (.head _))))) | exact .tail _ (.tail _ (.tail _ (.tail _ (.tail _ (.tail _ (.head _)))))) | exact .tail _ (.tail _ (.tail _ (.tail _ (.tail _ (.tail _ (.tail _ (.head _))))))) | exact .tail _ (.tail _ (.tail _ (.tail _ (.tail _ (.tail _ (.tail _ (.tail _ (.head _)))))))) | exact .tail _ (.tail _ (.tail _ (.tail _ (.tail _ (.tail _ (.tail _ (.tail _ (.tail _ (.head _))))))))) | exact .tail _ (.tail _ (.tail _ (.tail _ (.tail _ (.tail _ (.tail _ (.tail _ (.tail _ (.tail _ (.head _)))))))))) | exact .tail _ (.tail _ (.tail _ (.tail _ (.tail _ (.tail _ (.tail _ (.tail _ (.tail _ (.tail _ (.tail _ (.head _))))))))))))) 4 _ Try.underlying49 rfl infoS4 (by decide) rfl ?_)
              | (go_at_call 19; (with_reducible refine (Next_C hv HD2.out.m HAV.out HG2.out HG3.out HG4.out HLL.out).mono ?_); rintro e w1 ⟨gv, R3, rfl, hv1, hl1, hs1⟩; replace hv := hv1; have HL3 := Lib.hid hl1; have HS3 := Lib.hid hs1; clear hv1 hl1 hs1)
              | ((with_reducible refine at_alloc (T := 49) (dst := some 17) ?_); refine wl_newb rfl #[.int .i64 0, .int .i64 0, .int .u16 0, .int .u16 0] 49 (fun _ => rfl) ?_; intro b17 w2 hm2; replace hv := hv.madeAt hm2; clear hm2)
              | ((with_reducible refine at_store (T := 49) ?_); refine wl_stv rfl b17 rfl _ rfl _ (hv.vars.row (by first | exact .head _ | exact .tail _ (.head _) | exact .tail _ (.tail _ (.head _)) | exact .tail _ (.tail _ (.tail _ (.head _))) | exact .tail _ (.tail _ (.tail _ (.tail _ (.head _)))) | exact .tail _ (.tail _ (.tail _ (.tail _ (.tail _ (.head _))))) | exact .tail _ (.tail _ (.tail _ (.tail _ (.tail _ (.tail _ (.head _)))))) | exact .tail _ (.tail _ (.tail _ (.tail _ (.tail _ (.tail _ (.tail _ (.head _))))))) | exact .tail _ (.tail _ (.tail _ (.tail _ (.tail _ (.tail _ (.tail _ (.tail _ (.head _)))))))) | exact .tail _ (.tail _ (.tail _ (.tail _ (.tail _ (.tail _ (.tail _ (.tail _ (.tail _ (.head _))))))))) | exact .tail _ (.tail _ (.tail _ (.tail _ (.tail _ (.tail _ (.tail _ (.tail _ (.tail _ (.tail _ (.head _)))))))))) | exact .tail _ (.tail _ (.tail _ (.tail _ (.tail _ (.tail _ (.tail _ (.tail _ (.tail _ (.tail _ (.tail _ (.head _))))))))))))) (hv.vars.sft (by first | exact .head _ | exact .tail _ (.head _) | exact .tail _ (.tail _ (.head _)) | exact .tail _ (.tail _ (.tail _ (.head _))) | exact .tail _ (.tail _ (.tail _ (.tail _ (.head _)))) | exact .tail _ (.tail _ (.tail _ (.tail _ (.tail _ (.head _))))) | exact .tail _ (.tail _ (.tail _ (.tail _ (.tail _ (.tail _ (.head _)))))) | exact .tail _ (.tail _ (.tail _ (.tail _ (.tail _ (.tail _ (.tail _ (.head _))))))) | exact .tail _ (.tail _ (.tail _ (.tail _ (.tail _ (.tail _ (.tail _ (.tail _ (.head _)))))))) | exact .tail _ (.tail _ (.tail _ (.tail _ (.tail _ (.tail _ (.tail _ (.tail _ (.tail _ (.head _))))))))) | exact .tail _ (.tail _ (.tail _ (.tail _ (.tail _ (.tail _ (.tail _ (.tail _ (.tail _ (.tail _ (.head _)))))))))) | exact .tail _ (.tail _ (.tail _ (.tail _ (.tail _ (.tail _ (.tail _ (.tail _ (.tail _ (.tail _ (.tail _ (.head _))))))))))))) 4 infoS4 rfl rfl (by simp [Value.oneCell']) ?_; intro w2 hw2; (first | (replace hv := hv.set 0 rfl hw2) | (replace hv := hv.set 1 rfl hw2) | (replace hv := hv.set 2 rfl hw2) | (replace hv := hv.set 3 rfl hw2) | (replace hv := hv.set 4 rfl hw2) | (replace hv := hv.set 5 rfl hw2) | (replace hv := hv.set 6 rfl hw2) | (replace hv := hv.set 7 rfl hw2) | (replace hv := hv.set 8 rfl hw2) | (replace hv := hv.set 9 rfl hw2) | (replace hv := hv.set 10 rfl hw2) | (replace hv := hv.set 11 rfl hw2)); clear hw2; simp only [List.set] at hv)
              | (go_at_call 20; (with_reducible refine (Bufs_alike _ _ (lstC lens i many) HLL2.out _ (hv.rd HL3.out) (hv.rd (HS3.out _ (HS2.out _ Mem.z)))).mono ?_); rintro e w1 ⟨rfl, hn1⟩; replace hv := hv.new hn1; clear hn1))
            have hv0 := hv
            clear hv
            have hv : Mem w _ [(b17, #[.int .i64 0, .int .i64 16, .int .u16 ((av + 1 : Nat) : Int), .int .u16 0]), (b14, #[.int .i64 0, .int .i64 16, .slice fa2 (fr - many : Nat) fc2, .int .u16 ((av + 1 : Nat) : Int), .int .u16 0, .slice ca2 (av + 1) cc2]), (b13, #[.slice (some ⟨vb2, 0, none⟩) 1000 vc2]), (b8, #[.int .i64 0, .int .i64 16, .int .u16 (av : Nat), .int .u16 0]), (b6, #[.int .i64 0, .int .i64 16, .slice fa fr fc, .int .u16 (av : Nat), .int .u16 0, .slice ca av cc]), (b5, #[.slice (some ⟨vb, 0, none⟩) 1000 vc])] _ := hv0
            clear hv0
            try simp only [Act.put]
            refine Any.wp_region_walk [⟨[1002], none⟩, ⟨[1001], none⟩, ⟨[1000], none⟩, ⟨[1005], some 1005⟩, ⟨[1004], some 1004⟩, ⟨[1003], some 1003⟩] [.val, .val, .val, .put, .put, .put] (by kernel_rfl) (by kernel_rfl) hv.vars ?_
            simp only [List.length_cons, List.length_nil, Nat.zero_add, Any.someVals]
            iterate 6 apply Exists.intro
            repeat (first
              | (refine Any.E_off rfl ?_; simp only [Act.put, List.setIfInBounds_toArray, List.set_cons_succ, List.set_cons_zero])
              | (apply Any.E_pureq rfl rfl rfl
                 case h => intro K hK; go_big_quiet_op; (refine hK _ ?_; rfl)
                 case hr => exact fun _ => rfl
                 simp only [Act.put, List.setIfInBounds_toArray, List.set_cons_succ, List.set_cons_zero])
              | (apply Any.E_val rfl rfl rfl rfl
                 case h =>
                   intro E' hA K hK
                   first
                     | ((with_reducible refine Any.at_qload (T := 40) ?_); refine Any.q_ldv 1002 hA (by decide) rfl rfl 1 _ Try.underlying40 rfl infoM (by decide) rfl ?_; refine hK _ ?_; rfl)
                     | ((with_reducible refine Any.at_qload (T := 44) ?_); refine Any.q_ldv 1001 hA (by decide) rfl rfl 6 _ Try.underlying44 rfl infoQ (by decide) rfl ?_; refine hK _ ?_; rfl)
                     | ((with_reducible refine Any.at_qload (T := 49) ?_); refine Any.q_ldv 1000 hA (by decide) rfl rfl 4 _ Try.underlying49 rfl infoS4 (by decide) rfl ?_; refine hK _ ?_; rfl)
                     | (go_big_quiet_op; first
                       | (refine hK _ ?_; rfl)
                       | (refine ⟨_, fun _ _ => rfl, ?_⟩; refine hK _ ?_; rfl)
                       | (apply Exists.intro; refine ⟨fun w1 hw1 => ?_, ?_⟩; · (first
                           | fail)
                          refine hK _ ?_; rfl))
                 case hD => rfl
                 simp only [Act.put, List.setIfInBounds_toArray, List.set_cons_succ, List.set_cons_zero])
              | ((with_reducible refine Any.at_ealloc ?_); refine Any.E_lay rfl rfl rfl (fun _ => rfl) ?_; intro B; simp only [Act.put, List.setIfInBounds_toArray, List.set_cons_succ, List.set_cons_zero])
              | ((with_reducible refine Any.at_estore (T := 40) ?_); refine Any.E_putv (T := 40) rfl rfl rfl rfl rfl rfl 1 infoM rfl rfl (by simp [Value.oneCell']) ?_; simp only [Act.put, List.setIfInBounds_toArray, List.set_cons_succ, List.set_cons_zero])
              | ((with_reducible refine Any.at_estore (T := 44) ?_); refine Any.E_putv (T := 44) rfl rfl rfl rfl rfl rfl 6 infoQ rfl rfl (by simp [Value.oneCell']) ?_; simp only [Act.put, List.setIfInBounds_toArray, List.set_cons_succ, List.set_cons_zero])
              | ((with_reducible refine Any.at_estore (T := 49) ?_); refine Any.E_putv (T := 49) rfl rfl rfl rfl rfl rfl 4 infoS4 rfl rfl (by simp [Value.oneCell']) ?_; simp only [Act.put, List.setIfInBounds_toArray, List.set_cons_succ, List.set_cons_zero]))
            try any_goals exact undef
            refine Any.E_nil ?_
            intro w9 hE9
            replace hv : Mem w w9 [(b8, #[.int .i64 0, .int .i64 16, .int .u16 ((av + 1 : Nat) : Int), .int .u16 0]), (b6, #[.int .i64 0, .int .i64 16, .slice fa2 (fr - many : Nat) fc2, .int .u16 ((av + 1 : Nat) : Int), .int .u16 0, .slice ca2 (av + 1) cc2]), (b5, #[.slice (some ⟨vb2, 0, none⟩) 1000 vc2])] _ := hE9.mem hv [1003, 1004, 1005] (by decide)
            clear hE9
            go_wp2
            have e1 := HFR.out
            have e2 := HAVI.out
            have e3 := HMF.out
            have e4 := HM0.out
            go_roundw
            case rel => exact ⟨i + many, fr - many, vb2, vc2, av + 1, fc2, cc2, fa2, ca2, M2, chs2, R3, by omega, by omega, by omega, by go_num, by go_num, hv, Lib.hid (HD2.out.mono HS3.out), HC2, Lib.hid (fun x hx => HS3.out x (HS2.out x (Mem.s (HSB.out x hx))))⟩
            case measure => simp [intOf]; omega
          · have HMF : Hid (fr < many) := Lib.hid (by omega)
            have y5 : decide ((fr : Int) < (many : Int)) = true := decide_eq_true (by omega)
            have z5 : decide (fr < many) = true := decide_eq_true (by omega)
            clear hf
            go_wp2_with (first
              | ((with_reducible refine at_load (T := 40) ?_); refine wl_ldv rfl b5 rfl _ (hv.vars.row (by first | exact .head _ | exact .tail _ (.head _) | exact .tail _ (.tail _ (.head _)) | exact .tail _ (.tail _ (.tail _ (.head _))) | exact .tail _ (.tail _ (.tail _ (.tail _ (.head _)))) | exact .tail _ (.tail _ (.tail _ (.tail _ (.tail _ (.head _))))) | exact .tail _ (.tail _ (.tail _ (.tail _ (.tail _ (.tail _ (.head _)))))) | exact .tail _ (.tail _ (.tail _ (.tail _ (.tail _ (.tail _ (.tail _ (.head _))))))) | exact .tail _ (.tail _ (.tail _ (.tail _ (.tail _ (.tail _ (.tail _ (.tail _ (.head _)))))))) | exact .tail _ (.tail _ (.tail _ (.tail _ (.tail _ (.tail _ (.tail _ (.tail _ (.tail _ (.head _))))))))) | exact .tail _ (.tail _ (.tail _ (.tail _ (.tail _ (.tail _ (.tail _ (.tail _ (.tail _ (.tail _ (.head _)))))))))) | exact .tail _ (.tail _ (.tail _ (.tail _ (.tail _ (.tail _ (.tail _ (.tail _ (.tail _ (.tail _ (.tail _ (.head _))))))))))))) 1 _ Try.underlying40 rfl infoM (by decide) rfl ?_)
              | ((with_reducible refine at_load (T := 44) ?_); refine wl_ldv rfl b6 rfl _ (hv.vars.row (by first | exact .head _ | exact .tail _ (.head _) | exact .tail _ (.tail _ (.head _)) | exact .tail _ (.tail _ (.tail _ (.head _))) | exact .tail _ (.tail _ (.tail _ (.tail _ (.head _)))) | exact .tail _ (.tail _ (.tail _ (.tail _ (.tail _ (.head _))))) | exact .tail _ (.tail _ (.tail _ (.tail _ (.tail _ (.tail _ (.head _)))))) | exact .tail _ (.tail _ (.tail _ (.tail _ (.tail _ (.tail _ (.tail _ (.head _))))))) | exact .tail _ (.tail _ (.tail _ (.tail _ (.tail _ (.tail _ (.tail _ (.tail _ (.head _)))))))) | exact .tail _ (.tail _ (.tail _ (.tail _ (.tail _ (.tail _ (.tail _ (.tail _ (.tail _ (.head _))))))))) | exact .tail _ (.tail _ (.tail _ (.tail _ (.tail _ (.tail _ (.tail _ (.tail _ (.tail _ (.tail _ (.head _)))))))))) | exact .tail _ (.tail _ (.tail _ (.tail _ (.tail _ (.tail _ (.tail _ (.tail _ (.tail _ (.tail _ (.tail _ (.head _))))))))))))) 6 _ Try.underlying44 rfl infoQ (by decide) rfl ?_)
              | (go_at_call 17; (with_reducible refine (Add_CF hv HDR.out HFR.out Mem.z HM4.out HMF.out).mono ?_); rintro e w1 ⟨rfl, hn1⟩; replace hv := hv.new hn1; clear hn1)
              | ((with_reducible refine at_alloc (T := 40) (dst := some 13) ?_); refine wl_newb rfl #[.slice none 0 0] 40 (fun _ => rfl) ?_; intro b13 w2 hm2; replace hv := hv.madeAt hm2; clear hm2)
              | ((with_reducible refine at_alloc (T := 44) (dst := some 14) ?_); refine wl_newb rfl #[.int .i64 0, .int .i64 0, .slice none 0 0, .int .u16 0, .int .u16 0, .slice none 0 0] 44 (fun _ => rfl) ?_; intro b14 w2 hm2; replace hv := hv.madeAt hm2; clear hm2)
              | ((with_reducible refine at_store (T := 40) ?_); refine wl_stv rfl b13 rfl _ rfl _ (hv.vars.row (by first | exact .head _ | exact .tail _ (.head _) | exact .tail _ (.tail _ (.head _)) | exact .tail _ (.tail _ (.tail _ (.head _))) | exact .tail _ (.tail _ (.tail _ (.tail _ (.head _)))) | exact .tail _ (.tail _ (.tail _ (.tail _ (.tail _ (.head _))))) | exact .tail _ (.tail _ (.tail _ (.tail _ (.tail _ (.tail _ (.head _)))))) | exact .tail _ (.tail _ (.tail _ (.tail _ (.tail _ (.tail _ (.tail _ (.head _))))))) | exact .tail _ (.tail _ (.tail _ (.tail _ (.tail _ (.tail _ (.tail _ (.tail _ (.head _)))))))) | exact .tail _ (.tail _ (.tail _ (.tail _ (.tail _ (.tail _ (.tail _ (.tail _ (.tail _ (.head _))))))))) | exact .tail _ (.tail _ (.tail _ (.tail _ (.tail _ (.tail _ (.tail _ (.tail _ (.tail _ (.tail _ (.head _)))))))))) | exact .tail _ (.tail _ (.tail _ (.tail _ (.tail _ (.tail _ (.tail _ (.tail _ (.tail _ (.tail _ (.tail _ (.head _))))))))))))) (hv.vars.sft (by first | exact .head _ | exact .tail _ (.head _) | exact .tail _ (.tail _ (.head _)) | exact .tail _ (.tail _ (.tail _ (.head _))) | exact .tail _ (.tail _ (.tail _ (.tail _ (.head _)))) | exact .tail _ (.tail _ (.tail _ (.tail _ (.tail _ (.head _))))) | exact .tail _ (.tail _ (.tail _ (.tail _ (.tail _ (.tail _ (.head _)))))) | exact .tail _ (.tail _ (.tail _ (.tail _ (.tail _ (.tail _ (.tail _ (.head _))))))) | exact .tail _ (.tail _ (.tail _ (.tail _ (.tail _ (.tail _ (.tail _ (.tail _ (.head _)))))))) | exact .tail _ (.tail _ (.tail _ (.tail _ (.tail _ (.tail _ (.tail _ (.tail _ (.tail _ (.head _))))))))) | exact .tail _ (.tail _ (.tail _ (.tail _ (.tail _ (.tail _ (.tail _ (.tail _ (.tail _ (.tail _ (.head _)))))))))) | exact .tail _ (.tail _ (.tail _ (.tail _ (.tail _ (.tail _ (.tail _ (.tail _ (.tail _ (.tail _ (.tail _ (.head _))))))))))))) 1 infoM rfl rfl (by simp [Value.oneCell']) ?_; intro w2 hw2; (first | (replace hv := hv.set 0 rfl hw2) | (replace hv := hv.set 1 rfl hw2) | (replace hv := hv.set 2 rfl hw2) | (replace hv := hv.set 3 rfl hw2) | (replace hv := hv.set 4 rfl hw2) | (replace hv := hv.set 5 rfl hw2) | (replace hv := hv.set 6 rfl hw2) | (replace hv := hv.set 7 rfl hw2) | (replace hv := hv.set 8 rfl hw2) | (replace hv := hv.set 9 rfl hw2) | (replace hv := hv.set 10 rfl hw2) | (replace hv := hv.set 11 rfl hw2)); clear hw2; simp only [List.set] at hv)
              | ((with_reducible refine at_store (T := 44) ?_); refine wl_stv rfl b14 rfl _ rfl _ (hv.vars.row (by first | exact .head _ | exact .tail _ (.head _) | exact .tail _ (.tail _ (.head _)) | exact .tail _ (.tail _ (.tail _ (.head _))) | exact .tail _ (.tail _ (.tail _ (.tail _ (.head _)))) | exact .tail _ (.tail _ (.tail _ (.tail _ (.tail _ (.head _))))) | exact .tail _ (.tail _ (.tail _ (.tail _ (.tail _ (.tail _ (.head _)))))) | exact .tail _ (.tail _ (.tail _ (.tail _ (.tail _ (.tail _ (.tail _ (.head _))))))) | exact .tail _ (.tail _ (.tail _ (.tail _ (.tail _ (.tail _ (.tail _ (.tail _ (.head _)))))))) | exact .tail _ (.tail _ (.tail _ (.tail _ (.tail _ (.tail _ (.tail _ (.tail _ (.tail _ (.head _))))))))) | exact .tail _ (.tail _ (.tail _ (.tail _ (.tail _ (.tail _ (.tail _ (.tail _ (.tail _ (.tail _ (.head _)))))))))) | exact .tail _ (.tail _ (.tail _ (.tail _ (.tail _ (.tail _ (.tail _ (.tail _ (.tail _ (.tail _ (.tail _ (.head _))))))))))))) (hv.vars.sft (by first | exact .head _ | exact .tail _ (.head _) | exact .tail _ (.tail _ (.head _)) | exact .tail _ (.tail _ (.tail _ (.head _))) | exact .tail _ (.tail _ (.tail _ (.tail _ (.head _)))) | exact .tail _ (.tail _ (.tail _ (.tail _ (.tail _ (.head _))))) | exact .tail _ (.tail _ (.tail _ (.tail _ (.tail _ (.tail _ (.head _)))))) | exact .tail _ (.tail _ (.tail _ (.tail _ (.tail _ (.tail _ (.tail _ (.head _))))))) | exact .tail _ (.tail _ (.tail _ (.tail _ (.tail _ (.tail _ (.tail _ (.tail _ (.head _)))))))) | exact .tail _ (.tail _ (.tail _ (.tail _ (.tail _ (.tail _ (.tail _ (.tail _ (.tail _ (.head _))))))))) | exact .tail _ (.tail _ (.tail _ (.tail _ (.tail _ (.tail _ (.tail _ (.tail _ (.tail _ (.tail _ (.head _)))))))))) | exact .tail _ (.tail _ (.tail _ (.tail _ (.tail _ (.tail _ (.tail _ (.tail _ (.tail _ (.tail _ (.tail _ (.head _))))))))))))) 6 infoQ rfl rfl (by simp [Value.oneCell']) ?_; intro w2 hw2; (first | (replace hv := hv.set 0 rfl hw2) | (replace hv := hv.set 1 rfl hw2) | (replace hv := hv.set 2 rfl hw2) | (replace hv := hv.set 3 rfl hw2) | (replace hv := hv.set 4 rfl hw2) | (replace hv := hv.set 5 rfl hw2) | (replace hv := hv.set 6 rfl hw2) | (replace hv := hv.set 7 rfl hw2) | (replace hv := hv.set 8 rfl hw2) | (replace hv := hv.set 9 rfl hw2) | (replace hv := hv.set 10 rfl hw2) | (replace hv := hv.set 11 rfl hw2)); clear hw2; simp only [List.set] at hv)
              | ((with_reducible refine at_load (T := 44) ?_); refine wl_ldv rfl b14 rfl _ (hv.vars.row (by first | exact .head _ | exact .tail _ (.head _) | exact .tail _ (.tail _ (.head _)) | exact .tail _ (.tail _ (.tail _ (.head _))) | exact .tail _ (.tail _ (.tail _ (.tail _ (.head _)))) | exact .tail _ (.tail _ (.tail _ (.tail _ (.tail _ (.head _))))) | exact .tail _ (.tail _ (.tail _ (.tail _ (.tail _ (.tail _ (.head _)))))) | exact .tail _ (.tail _ (.tail _ (.tail _ (.tail _ (.tail _ (.tail _ (.head _))))))) | exact .tail _ (.tail _ (.tail _ (.tail _ (.tail _ (.tail _ (.tail _ (.tail _ (.head _)))))))) | exact .tail _ (.tail _ (.tail _ (.tail _ (.tail _ (.tail _ (.tail _ (.tail _ (.tail _ (.head _))))))))) | exact .tail _ (.tail _ (.tail _ (.tail _ (.tail _ (.tail _ (.tail _ (.tail _ (.tail _ (.tail _ (.head _)))))))))) | exact .tail _ (.tail _ (.tail _ (.tail _ (.tail _ (.tail _ (.tail _ (.tail _ (.tail _ (.tail _ (.tail _ (.head _))))))))))))) 6 _ Try.underlying44 rfl infoQ (by decide) rfl ?_)
              | (go_at_call 18; (with_reducible refine (Same_C hv HDR.out).mono ?_); rintro e w1 ⟨rfl, hn1⟩; replace hv := hv.new hn1; clear hn1)
              | (go_at_call 14; (with_reducible refine (heads08 _).mono ?_); rintro e w1 ⟨rfl, hn1⟩; replace hv := hv.new hn1; clear hn1))
            try rw [Exit.noGoto_ret]
            go_ret
            exact ⟨rfl, hv.below⟩
    · have hci : ¬ (i : Int) + (many : Int) ≤ (ln : Int) := by omega
      have yff : ((fr : Int) == (fr : Int)) = true := by simp
      clear hc havi hfr
      go_wp2_with (first
        | ((with_reducible refine at_load (T := 31) ?_); refine wl_ldc rfl b6 2 rfl _ (hv.vars.row (by first | exact .head _ | exact .tail _ (.head _) | exact .tail _ (.tail _ (.head _)) | exact .tail _ (.tail _ (.tail _ (.head _))) | exact .tail _ (.tail _ (.tail _ (.tail _ (.head _)))) | exact .tail _ (.tail _ (.tail _ (.tail _ (.tail _ (.head _))))) | exact .tail _ (.tail _ (.tail _ (.tail _ (.tail _ (.tail _ (.head _)))))) | exact .tail _ (.tail _ (.tail _ (.tail _ (.tail _ (.tail _ (.tail _ (.head _))))))))) _ Try.underlying31 rfl (.slice fa fr fc) rfl ?_)
        | (go_at_call 14; (with_reducible refine (heads08 _).mono ?_); rintro e w1 ⟨rfl, hn1⟩; replace hv := hv.new hn1; clear hn1))
      go_ret
      exact ⟨rfl, hv.below⟩
theorem QueueCarries_any (la : Option Addr) (ln lc : Nat) (many : Int) (lens : List Int) (w : World) (R : List (Nat × Value × List Value)) (hv : Mem w w [] R) (hl : (1, .slice la ln lc, lens.map (Value.int .i64)) ∈ R) (hm1 : -9223372036854775808 ≤ many) (hm2 : many ≤ 9223372036854775807) : Calls Try.prog 5 #[.slice la ln lc, .int .i64 many] w (fun e w' => e = .returned (.bool true) ∧ New w w') := by
  by_cases h0 : 20 < ln
  · exact Car_c1 la ln lc many lens w R hv hl h0
  · by_cases h1 : many < 1
    · exact Car_c2 la ln lc many lens w R hv hl (by omega) h1
    · by_cases h2 : 4 < many
      · exact Car_c3 la ln lc many lens w R hv hl (by omega) h1 h2
      · obtain ⟨m, rfl⟩ : ∃ m : Nat, many = (m : Int) := ⟨many.toNat, by omega⟩
        exact Car_yes la ln lc m lens w R hv hl (by omega) (by omega) (by omega)
end Go.Proofs.Ytfblognifnnadaa
