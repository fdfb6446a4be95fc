/-
  The walk of the law WindowAll.
-/
import Derived.Test.YtpbeemgigpaacaaWiHead
import Derived.Test.YtpbeemgigpaacaaWiOpen
import Derived.Test.YtpbeemgigpaacaaAnyC
set_option linter.unusedVariables false
set_option linter.unusedSimpArgs false
namespace Go.Proofs.Wi
open Go Go.RowKit
theorem res_of (on pt k : Nat) (hk : k < pt) : ∃ i, on ≤ i ∧ i < on + pt ∧ i % pt = k := by
  have h0 := Nat.div_add_mod on pt
  have h1 := Nat.mod_lt on (show 0 < pt by omega)
  refine ⟨on + (k + pt - on % pt) % pt, by omega, by have := Nat.mod_lt (k + pt - on % pt) (show 0 < pt by omega); omega, ?_⟩
  rw [Nat.add_mod_mod, show on + (k + pt - on % pt) = pt * (on / pt + 1) + k from by rw [Nat.mul_add]; omega, Nat.mul_add_mod, Nat.mod_eq_of_lt hk]
/-- Part k is there. -/
def Came (s : St) (p an n k : Nat) : Prop := ∀ j, n * k ≤ j → j < an → j < n * k + n → Has s p j
theorem mod_rng (x : Int) (pt : Nat) (hp : 0 < pt) : ∃ kk : Nat, kk < pt ∧ (x.tmod (pt : Int) + (pt : Int)).tmod (pt : Int) = (kk : Int) ∧ -(pt : Int) < x.tmod (pt : Int) ∧ x.tmod (pt : Int) < (pt : Int) := by
  have h1 := Int.tmod_lt_of_pos x (show (0 : Int) < (pt : Int) by omega)
  have h2 : -(pt : Int) < x.tmod (pt : Int) := by
    have := Int.lt_tmod_of_pos x (show (0 : Int) < (pt : Int) by omega)
    omega
  have h3 : 0 ≤ x.tmod (pt : Int) + (pt : Int) := by omega
  have h4 := Int.tmod_nonneg (pt : Int) h3
  have h5 := Int.tmod_lt_of_pos (x.tmod (pt : Int) + (pt : Int)) (show (0 : Int) < (pt : Int) by omega)
  exact ⟨((x.tmod (pt : Int) + (pt : Int)).tmod (pt : Int)).toNat, by omega, by omega, h2, h1⟩
end Go.Proofs.Wi
namespace Go.Proofs.Ytpbeemgigpaacaa
open Go.Proofs.Wi Go.RowKit
theorem Bytes_same (u v : Value) (l : List Nat) (w : World) (hu : Rd w 1 u (cellsB l)) (hv : Rd w 1 v (cellsB l)) (hl : goodB l) : Calls Try.prog 16 #[u, v] w fun e w' => e = .returned (.bool true) ∧ w = w' := by
  have := Bytes_any u v l l w hu hv hl hl
  simpa using this
theorem built_strn (x : Int) : Try.prog.built 26 [(0, .int .u32 x)] = some #[.int .u32 x, .slice none 0 0, .slice none 0 0] := by kernel_rfl
set_option maxRecDepth 100000 in
set_option maxHeartbeats 4000000 in
theorem All_c1 (aa oa : Option Addr) (an ac on oc next : Nat) (n : Int) (all : List Nat) (ol : List Int) (w : World) (R : List (Nat × Value × List Value)) (hv : Mem w w [] R) (ha : (1, .slice aa an ac, cellsB all) ∈ R) (ho : (1, .slice oa on oc, ol.map (Value.int .i64)) ∈ R) (hn1 : -9223372036854775808 ≤ n) (hn2 : n ≤ 9223372036854775807)  (h0 : an < 1) : Calls Try.prog 6 #[.slice aa an ac, .int .u32 (next : Nat), .int .i64 n, .slice oa on oc] w (fun e w' => e = .returned (.bool true) ∧ New w w') := by
  have y0 : decide (((an : Int)) < 1) = true := decide_eq_true (by omega)
  have z0 : ((an : Int)) < 1 := by omega
  clear hn1 hn2 
  go_enter Try.func6, Try.ntmps6
  go_wp2_with (first
    | (go_at_call 9; (with_reducible refine (heads25 _).mono ?_); rintro e w1 ⟨rfl, hn1⟩; replace hv := hv.new hn1; clear hn1))
  go_ret
  exact ⟨rfl, hv.below⟩
set_option maxRecDepth 100000 in
set_option maxHeartbeats 4000000 in
theorem All_c2 (aa oa : Option Addr) (an ac on oc next : Nat) (n : Int) (all : List Nat) (ol : List Int) (w : World) (R : List (Nat × Value × List Value)) (hv : Mem w w [] R) (ha : (1, .slice aa an ac, cellsB all) ∈ R) (ho : (1, .slice oa on oc, ol.map (Value.int .i64)) ∈ R) (hn1 : -9223372036854775808 ≤ n) (hn2 : n ≤ 9223372036854775807) (h0 : 1 ≤ an) (h1 : 256 < an) : Calls Try.prog 6 #[.slice aa an ac, .int .u32 (next : Nat), .int .i64 n, .slice oa on oc] w (fun e w' => e = .returned (.bool true) ∧ New w w') := by
  have y0 : decide (((an : Int)) < 1) = false := decide_eq_false (by omega)
  have z0 : ¬ (((an : Int)) < 1) := by omega
  have y1 : decide (256 < ((an : Int))) = true := decide_eq_true (by omega)
  have z1 : 256 < ((an : Int)) := by omega
  clear hn1 hn2 h0
  go_enter Try.func6, Try.ntmps6
  go_wp2_with (first
    | (go_at_call 9; (with_reducible refine (heads25 _).mono ?_); rintro e w1 ⟨rfl, hn1⟩; replace hv := hv.new hn1; clear hn1))
  go_ret
  exact ⟨rfl, hv.below⟩
set_option maxRecDepth 100000 in
set_option maxHeartbeats 4000000 in
theorem All_c3 (aa oa : Option Addr) (an ac on oc next : Nat) (n : Int) (all : List Nat) (ol : List Int) (w : World) (R : List (Nat × Value × List Value)) (hv : Mem w w [] R) (ha : (1, .slice aa an ac, cellsB all) ∈ R) (ho : (1, .slice oa on oc, ol.map (Value.int .i64)) ∈ R) (hn1 : -9223372036854775808 ≤ n) (hn2 : n ≤ 9223372036854775807) (h0 : 1 ≤ an) (h1 : an ≤ 256) (h2 : n < 1) : Calls Try.prog 6 #[.slice aa an ac, .int .u32 (next : Nat), .int .i64 n, .slice oa on oc] w (fun e w' => e = .returned (.bool true) ∧ New w w') := by
  have y0 : decide (((an : Int)) < 1) = false := decide_eq_false (by omega)
  have z0 : ¬ (((an : Int)) < 1) := by omega
  have y1 : decide (256 < ((an : Int))) = false := decide_eq_false (by omega)
  have z1 : ¬ (256 < ((an : Int))) := by omega
  have y2 : decide (n < 1) = true := decide_eq_true (by omega)
  have z2 : n < 1 := by omega
  clear hn1 hn2 h0 h1
  go_enter Try.func6, Try.ntmps6
  go_wp2_with (first
    | (go_at_call 9; (with_reducible refine (heads25 _).mono ?_); rintro e w1 ⟨rfl, hn1⟩; replace hv := hv.new hn1; clear hn1))
  go_ret
  exact ⟨rfl, hv.below⟩
set_option maxRecDepth 100000 in
set_option maxHeartbeats 4000000 in
theorem All_c4 (aa oa : Option Addr) (an ac on oc next : Nat) (n : Int) (all : List Nat) (ol : List Int) (w : World) (R : List (Nat × Value × List Value)) (hv : Mem w w [] R) (ha : (1, .slice aa an ac, cellsB all) ∈ R) (ho : (1, .slice oa on oc, ol.map (Value.int .i64)) ∈ R) (hn1 : -9223372036854775808 ≤ n) (hn2 : n ≤ 9223372036854775807) (h0 : 1 ≤ an) (h1 : an ≤ 256) (h2 : 1 ≤ n) (h3 : 64 < n) : Calls Try.prog 6 #[.slice aa an ac, .int .u32 (next : Nat), .int .i64 n, .slice oa on oc] w (fun e w' => e = .returned (.bool true) ∧ New w w') := by
  have y0 : decide (((an : Int)) < 1) = false := decide_eq_false (by omega)
  have z0 : ¬ (((an : Int)) < 1) := by omega
  have y1 : decide (256 < ((an : Int))) = false := decide_eq_false (by omega)
  have z1 : ¬ (256 < ((an : Int))) := by omega
  have y2 : decide (n < 1) = false := decide_eq_false (by omega)
  have z2 : ¬ (n < 1) := by omega
  have y3 : decide (64 < n) = true := decide_eq_true (by omega)
  have z3 : 64 < n := by omega
  clear hn1 hn2 h0 h1 h2
  go_enter Try.func6, Try.ntmps6
  go_wp2_with (first
    | (go_at_call 9; (with_reducible refine (heads25 _).mono ?_); rintro e w1 ⟨rfl, hn1⟩; replace hv := hv.new hn1; clear hn1))
  go_ret
  exact ⟨rfl, hv.below⟩
set_option maxRecDepth 100000 in
set_option maxHeartbeats 4000000 in
theorem All_c5 (aa oa : Option Addr) (an ac on oc next : Nat) (n : Int) (all : List Nat) (ol : List Int) (w : World) (R : List (Nat × Value × List Value)) (hv : Mem w w [] R) (ha : (1, .slice aa an ac, cellsB all) ∈ R) (ho : (1, .slice oa on oc, ol.map (Value.int .i64)) ∈ R) (hn1 : -9223372036854775808 ≤ n) (hn2 : n ≤ 9223372036854775807) (h0 : 1 ≤ an) (h1 : an ≤ 256) (h2 : 1 ≤ n) (h3 : n ≤ 64) (h4 : 60 < on) : Calls Try.prog 6 #[.slice aa an ac, .int .u32 (next : Nat), .int .i64 n, .slice oa on oc] w (fun e w' => e = .returned (.bool true) ∧ New w w') := by
  have y0 : decide (((an : Int)) < 1) = false := decide_eq_false (by omega)
  have z0 : ¬ (((an : Int)) < 1) := by omega
  have y1 : decide (256 < ((an : Int))) = false := decide_eq_false (by omega)
  have z1 : ¬ (256 < ((an : Int))) := by omega
  have y2 : decide (n < 1) = false := decide_eq_false (by omega)
  have z2 : ¬ (n < 1) := by omega
  have y3 : decide (64 < n) = false := decide_eq_false (by omega)
  have z3 : ¬ (64 < n) := by omega
  have y4 : decide (60 < ((on : Int))) = true := decide_eq_true (by omega)
  have z4 : 60 < ((on : Int)) := by omega
  clear hn1 hn2 h0 h1 h2 h3
  go_enter Try.func6, Try.ntmps6
  go_wp2_with (first
    | (go_at_call 9; (with_reducible refine (heads25 _).mono ?_); rintro e w1 ⟨rfl, hn1⟩; replace hv := hv.new hn1; clear hn1))
  go_ret
  exact ⟨rfl, hv.below⟩
set_option maxRecDepth 100000 in
set_option maxHeartbeats 16000000 in
theorem All_yes (aa oa : Option Addr) (an ac on oc next : Nat) (n : Nat) (all : List Nat) (ol : List Int) (w : World) (R : List (Nat × Value × List Value)) (hv : Mem w w [] R) (ha : (1, .slice aa an ac, cellsB all) ∈ R) (ho : (1, .slice oa on oc, ol.map (Value.int .i64)) ∈ R) (hga : goodB all) (hnxt : next < 4294967296) (h0 : 1 ≤ an) (h1 : an ≤ 256) (h2 : 1 ≤ n) (h3 : n ≤ 64) (h4 : on ≤ 60) : Calls Try.prog 6 #[.slice aa an ac, .int .u32 (next : Nat), .int .i64 (n : Nat), .slice oa on oc] w (fun e w' => e = .returned (.bool true) ∧ New w w') := by
  have hla := len_rd1 (hv.rd ha)
  have HLA := Lib.hid hla
  have HA := Lib.hid ha
  have HO := Lib.hid ho
  have HGA := Lib.hid hga
  have HALL : Hid (all.length ≤ 1000) := Lib.hid (by omega)
  have HAN := Lib.hid h1
  have HN64 := Lib.hid h3
  have HAC : Hid (an ≤ ac) := Lib.hid (by
    obtain ⟨_, _, _, e, _, g, _⟩ := hv.rd ha
    cases e; exact g)
  have HOL : Hid (ol.length = on) := Lib.hid (by
    obtain ⟨_, _, _, e, g, _⟩ := hv.rd ho
    cases e
    rw [List.length_map] at g; omega)
  have y0 : decide (((an : Int)) < 1) = false := decide_eq_false (by omega)
  have z0 : ¬ (((an : Int)) < 1) := by omega
  have y1 : decide (256 < ((an : Int))) = false := decide_eq_false (by omega)
  have z1 : ¬ (256 < ((an : Int))) := by omega
  have y2 : decide ((n : Int) < 1) = false := decide_eq_false (by omega)
  have z2 : ¬ ((n : Int) < 1) := by omega
  have y3 : decide (64 < (n : Int)) = false := decide_eq_false (by omega)
  have z3 : ¬ (64 < (n : Int)) := by omega
  have y4 : decide (60 < ((on : Int))) = false := decide_eq_false (by omega)
  have z4 : ¬ (60 < ((on : Int))) := by omega
  obtain ⟨pt, hpt⟩ : ∃ pt, (an + n - 1) / n = pt := ⟨_, rfl⟩
  have hpt1 : 1 ≤ pt := by rw [← hpt]; exact (Nat.le_div_iff_mul_le (by omega)).2 (by omega)
  have hpt2 : pt ≤ 256 := by
    rw [← hpt]
    refine Nat.le_trans (Nat.div_le_div_right (c := n) (show an + n - 1 ≤ 256 * n by
      have := Nat.mul_le_mul_left 255 h2
      omega)) ?_
    rw [Nat.mul_div_cancel _ (by omega)]
    exact Nat.le_refl _
  have HPT : Hid (n * (pt - 1) < an ∧ an ≤ n * pt) := Lib.hid (by
    have e1 := Nat.div_add_mod (an + n - 1) n
    have e2 := Nat.mod_lt (an + n - 1) (show 0 < n by omega)
    rw [hpt] at e1
    have e3 : n * pt = n * (pt - 1) + n := by
      conv => lhs; rw [show pt = (pt - 1) + 1 from by omega]
      rw [Nat.mul_add, Nat.mul_one]
    omega)
  have q1 : IntKind.i64.wrap ((an : Int) + (n : Int)) = ((an + n : Nat) : Int) := by rw [← Int.natCast_add]; exact IntWalk.i64_in _ (by omega)
  have q2 : IntKind.i64.wrap (((an + n : Nat) : Int) - 1) = ((an + n - 1 : Nat) : Int) := by rw [show ((an + n : Nat) : Int) - 1 = ((an + n - 1 : Nat) : Int) from by omega]; exact IntWalk.i64_in _ (by omega)
  have q3 : ((an + n - 1 : Nat) : Int).tdiv (n : Int) = (pt : Int) := by rw [← Int.ofNat_tdiv, hpt]
  rw [show ((an + n - 1 : Nat) : Int) = (an : Int) + (n : Int) - 1 from by omega] at q2 q3
  rw [show ((an + n : Nat) : Int) = (an : Int) + (n : Int) from by omega] at q1 q2
  have q4 : IntKind.i64.wrap ((pt : Nat) : Int) = (pt : Int) := IntWalk.i64_in _ (by omega)
  have q5 : ¬ ((n : Int) = 0) := by omega
  have q6 : ¬ (n = 0) := by omega
  have q7 : ((n : Int) == 0) = false := by rw [beq_eq_false_iff_ne]; omega
  have q8 : IntKind.i64.wrap ((on : Int) + (pt : Int)) = (on : Int) + (pt : Int) := IntWalk.i64_in _ (by omega)
  have p5 : ¬ ((pt : Int) = 0) := by omega
  have p6 : ¬ (pt = 0) := by omega
  have p7 : ((pt : Int) == 0) = false := by rw [beq_eq_false_iff_ne]; omega
  have HNT := Lib.hid hnxt
  clear ha ho hga hla h0 h1 h2 h3 h4 hpt hnxt
  replace hv := (hv.old (Rd.nil w 2)).old (Rd.nil w 1)
  go_enter Try.func6, Try.ntmps6
  go_wp2_with (first
    | ((with_reducible refine at_build (T := 26) ?_); refine wl_build rfl _ rfl (built_strn _) ?_)
    | ((with_reducible refine at_alloc (T := 26) (dst := some 10) ?_); refine wl_newb rfl #[.int .u32 0, .slice none 0 0, .slice none 0 0] 26 (fun _ => rfl) ?_; intro b10 w2 hm2; replace hv := hv.madeAt hm2; clear hm2)
    | ((with_reducible refine at_store (T := 26) ?_); refine wl_stv rfl b10 rfl _ rfl _ (hv.vars.row (by first | exact .head _ | exact .tail _ (.head _) | exact .tail _ (.tail _ (.head _)) | exact .tail _ (.tail _ (.tail _ (.head _))) | exact .tail _ (.tail _ (.tail _ (.tail _ (.head _)))) | exact .tail _ (.tail _ (.tail _ (.tail _ (.tail _ (.head _))))) | exact .tail _ (.tail _ (.tail _ (.tail _ (.tail _ (.tail _ (.head _)))))) | exact .tail _ (.tail _ (.tail _ (.tail _ (.tail _ (.tail _ (.tail _ (.head _))))))))) (hv.vars.sft (by first | exact .head _ | exact .tail _ (.head _) | exact .tail _ (.tail _ (.head _)) | exact .tail _ (.tail _ (.tail _ (.head _))) | exact .tail _ (.tail _ (.tail _ (.tail _ (.head _)))) | exact .tail _ (.tail _ (.tail _ (.tail _ (.tail _ (.head _))))) | exact .tail _ (.tail _ (.tail _ (.tail _ (.tail _ (.tail _ (.head _)))))) | exact .tail _ (.tail _ (.tail _ (.tail _ (.tail _ (.tail _ (.tail _ (.head _))))))))) 3 infoStr rfl rfl (by simp [Value.oneCell']) ?_; intro w2 hw2; (first | (replace hv := hv.set 0 rfl hw2) | (replace hv := hv.set 1 rfl hw2) | (replace hv := hv.set 2 rfl hw2) | (replace hv := hv.set 3 rfl hw2)); clear hw2; simp only [List.set] at hv))
  go_loopw [11] (fun iv wr => ∃ (i p nx bn bc pn pc : Nat) (ba pa : Option Addr) (s : St) (l : List PcV) (R1 : List (Nat × Value × List Value)), i ≤ on + pt ∧ iv = .int .i64 (i : Nat) ∧ Mem w wr [(b10, #[.int .u32 (nx : Nat), .slice ba bn bc, .slice pa pn pc])] R1 ∧ Hid (∀ x ∈ R, x ∈ R1) ∧ Hid (InS R1 nx (.slice ba bn bc) (.slice pa pn pc) s l) ∧ Hid (Agr all next s p) ∧ Hid (s.bytes = all.take p) ∧ Hid (∀ i', on ≤ i' → i' < i → Came s p an n (i' % pt))) (fun iv _ => on + pt - (intOf iv).toNat)
  case atStart => exact ⟨0, 0, next, 0, 0, 0, 0, none, none, ⟨next, [], []⟩, [], _, Nat.zero_le _, rfl, hv, Lib.hid (fun x hx => Mem.s (Mem.s hx)), Lib.hid ⟨Mem.z, Mem.s Mem.z, fun p hp => (List.not_mem_nil hp).elim, rfl⟩, Lib.hid (Agr.start all next HNT.out), Lib.hid (by rw [List.take_zero]), Lib.hid (fun i' h1 h2 => absurd h2 (Nat.not_lt_zero _))⟩
  case round =>
    clear hv
    obtain ⟨i, p, nx, bn, bc, pn, pc, ba, pa, s, l, R1, hi0, rfl, hv, HRS, HIN, HAG, HBY, HCM⟩ := hrel
    by_cases hi2 : i < on + pt
    · have hki : (i : Int) < ((on + pt : Nat) : Int) := by omega
      have hki2 : (i : Int) < (on : Int) + (pt : Int) := by omega
      have hib : (i : Int) ≤ 5000 := by omega
      have HIK := Lib.hid hi2
      have s1 : (i : Int).tmod (pt : Int) = ((i % pt : Nat) : Int) := by rw [← Int.ofNat_tmod]
      have s2 : IntKind.i64.wrap ((i % pt : Nat) : Int) = ((i % pt : Nat) : Int) := by
        have := Nat.mod_lt i (show 0 < pt by omega)
        exact IntWalk.i64_in _ (by omega)
      by_cases hio : i < on
      · have t1 : (i : Int) < (on : Int) := by omega
        have t2 : decide ((i : Int) < (on : Int)) = true := decide_eq_true t1
        have HION := Lib.hid hio
        have hil : i < ol.length := by rw [HOL.out]; exact hio
        obtain ⟨x, hx⟩ : ∃ x, ol[i] = x := ⟨_, rfl⟩
        have HX : Hid ((ol.map (Value.int .i64))[i]? = some (.int .i64 x)) := Lib.hid (by rw [List.getElem?_map, List.getElem?_eq_getElem hil, hx]; rfl)
        obtain ⟨ob, oo, _, _, e, _⟩ := (hv.rd (HRS.out _ HO.out)).some (by rw [List.length_map, HOL.out]; omega)
        cases e
        obtain ⟨kk, hkk, hmm, hm1, hm2⟩ := mod_rng x pt (by omega)
        obtain ⟨y, hy⟩ : ∃ y : Int, x.tmod (pt : Int) = y := ⟨_, rfl⟩
        rw [hy] at hmm hm1 hm2
        have u1 : IntKind.i64.wrap y = y := IntWalk.i64_in _ (by omega)
        have u2 : IntKind.i64.wrap (y + (pt : Int)) = y + (pt : Int) := IntWalk.i64_in _ (by omega)
        have u3 : IntKind.i64.wrap (kk : Int) = (kk : Int) := IntWalk.i64_in _ (by omega)
        clear hx hil hio hi2 hi0
        go_wp2_with (first
          | ((with_reducible refine at_load (T := 3) ?_); refine wl_rd rfl (c := ol.map (Value.int .i64)) (hv.rd (HRS.out _ HO.out)) i rfl _ Try.underlying3 rfl (.int .i64 x) HX.out ?_))
        obtain ⟨nk, hnk0⟩ : ∃ nk, n * kk = nk := ⟨_, rfl⟩
        have HNK := Lib.hid hnk0
        have r1 : IntKind.i64.wrap ((n : Int) * (kk : Int)) = (nk : Int) := by rw [← Int.natCast_mul, hnk0]; exact IntWalk.i64_in _ (by have := HPT.out; have := HAN.out; have := Nat.mul_le_mul_left n (show kk ≤ pt - 1 by omega); omega)
        have hkn : nk < an := by
          have := Nat.mul_le_mul_left n (show kk ≤ pt - 1 by omega)
          have := HPT.out
          omega
        clear hnk0
        obtain ⟨en, hen⟩ : ∃ en, nk + n = en := ⟨_, rfl⟩
        have HEN := Lib.hid hen
        obtain ⟨sq, hsq⟩ : ∃ sq, (next + nk) % 4294967296 = sq := ⟨_, rfl⟩
        have HSQ := Lib.hid hsq
        obtain ⟨hi, hhi⟩ : ∃ hi : Nat, min an en = hi := ⟨_, rfl⟩
        have hnk : nk ≤ 256 := by have := HAN.out; omega
        have HLH : Hid (nk ≤ hi) := Lib.hid (by omega)
        have HHC : Hid (hi ≤ ac) := Lib.hid (by have := HAC.out; omega)
        have HHA : Hid (hi ≤ an) := Lib.hid (by omega)
        have HHI := Lib.hid hhi
        obtain ⟨da, hsl⟩ : ∃ da, sliced aa (nk) hi ac 1 = .slice da (hi - nk) (ac - nk) := sliced_len
        obtain ⟨dn, hdn⟩ : ∃ dn, hi - nk = dn := ⟨_, rfl⟩
        obtain ⟨dc, hdc⟩ : ∃ dc, ac - nk = dc := ⟨_, rfl⟩
        rw [hdn, hdc] at hsl
        have HSL := Lib.hid hsl
        replace hv := hv.sliced (HRS.out _ HA.out) (l := nk) (h := hi) (m := ac) HLH.out HHA.out HHC.out (Nat.le_refl _)
        rw [hsl, show ((cellsB all).drop (nk * 1)).take ((hi - nk) * 1) = cellsB ((all.drop (nk)).take dn) from by rw [Nat.mul_one, Nat.mul_one, hdn]; simp only [cellsB, List.map_take, List.map_drop]] at hv
        have HDN : Hid (dn ≤ 4096) := Lib.hid (by have := HAN.out; omega)
        have HDH := Lib.hid hdn
        have HNX : Hid (nx < 4294967296) := Lib.hid (by rw [HIN.out.nx, HAG.out.nxt]; exact Nat.mod_lt _ (by decide))
        have r2 : IntKind.u32.wrap (nk : Int) = (nk : Int) := u32_nat (by omega)
        have r3 : IntKind.u32.wrap ((next : Int) + (nk : Int)) = (sq : Int) := by rw [u32_add, hsq]
        have r4 : IntKind.i64.wrap ((nk : Int) + (n : Int)) = (en : Int) := by rw [← Int.natCast_add, hen]; exact IntWalk.i64_in _ (by have := HN64.out; omega)
        clear hsl hdn hdc hnk hen hsq
        by_cases hm : an ≤ en
        · have r5 : (an : Int) ≤ (en : Int) := by omega
          have r6 : min (an : Int) (en : Int) = (an : Int) := by omega
          have hhe : hi = an := by omega
          rw [hhe] at HLH HHC HHA HHI HSL HDH
          clear hm hhi hhe
          skip
          refine Any.wp_region_cut 20 [⟨[1000], none⟩, ⟨[], none⟩, ⟨[], none⟩, ⟨[], none⟩, ⟨[], none⟩, ⟨[], none⟩, ⟨[], none⟩, ⟨[], none⟩, ⟨[], none⟩, ⟨[], none⟩, ⟨[], none⟩, ⟨[], none⟩, ⟨[], none⟩, ⟨[], none⟩, ⟨[], none⟩, ⟨[], none⟩, ⟨[], none⟩, ⟨[], none⟩, ⟨[], none⟩, ⟨[], none⟩, ⟨[], none⟩, ⟨[], none⟩, ⟨[], none⟩, ⟨[], none⟩, ⟨[], none⟩] [.val, .val, .val, .val, .val, .val, .val, .val, .val, .val, .val, .val, .val, .val, .val, .val, .val, .val, .val, .val] (by kernel_rfl) (by kernel_rfl) hv.vars ?_
          simp only [Any.someVals, List.take_succ_cons, List.take_zero]
          iterate 20 apply Exists.intro
          repeat (first
            | (refine Any.E_off rfl ?_; simp only [Act.put, List.setIfInBounds_toArray, List.set_cons_succ, List.set_cons_zero])
            | (apply Any.E_pureq rfl rfl rfl
               case h => intro K hK; go_big_quiet_op; (refine hK _ ?_; rfl)
               case hr => exact fun _ => rfl
               simp only [Act.put, List.setIfInBounds_toArray, List.set_cons_succ, List.set_cons_zero])
            | (apply Any.E_val rfl rfl rfl rfl
               case h =>
                 intro E' hA K hK
                 first
                   | ((with_reducible refine Any.at_qload (T := 26) ?_); refine Any.q_ldv 1000 hA (by decide) rfl rfl 3 _ Try.underlying26 rfl infoStr (by decide) rfl ?_; refine hK _ ?_; rfl)
                   | ((with_reducible refine Any.at_qslice (T := 23) ?_); refine Any.q_slice rfl Try.underlying23 infoB1 (some (.int .i64 (nk : Nat))) (some (.int .i64 (an : Nat))) none rfl rfl rfl nk an ac (fun w => bounds_lh HLH.out HHC.out) HSL.out ?_; refine hK _ ?_; rfl)
                   | (go_big_quiet_op; first
                     | (refine hK _ ?_; rfl)
                     | (refine ⟨_, fun _ _ => rfl, ?_⟩; refine hK _ ?_; rfl)
                     | (apply Exists.intro; refine ⟨fun w1 hw1 => ?_, ?_⟩; · (first
                         | fail)
                        refine hK _ ?_; rfl))
               case hD => rfl
               simp only [Act.put, List.setIfInBounds_toArray, List.set_cons_succ, List.set_cons_zero])
            | ((with_reducible refine Any.at_ealloc ?_); refine Any.E_lay rfl rfl rfl (fun _ => rfl) ?_; intro B; simp only [Act.put, List.setIfInBounds_toArray, List.set_cons_succ, List.set_cons_zero])
            | ((with_reducible refine Any.at_estore (T := 26) ?_); refine Any.E_putv (T := 26) rfl rfl rfl rfl rfl rfl 3 infoStr rfl rfl (by simp [Value.oneCell']) ?_; simp only [Act.put, List.setIfInBounds_toArray, List.set_cons_succ, List.set_cons_zero]))
          try any_goals exact undef
          refine Any.E_nil ?_
          intro w9 hE9
          replace hv : Mem w w9 [(b10, #[.int .u32 (nx : Nat), .slice ba bn bc, .slice pa pn pc])] _ := hE9.mem hv [1000] (by decide)
          clear hE9
          refine Any.wpOp_callv rfl rfl (Go.Proofs.enters_of Try.func10 (by kernel_rfl) rfl) rfl [.agg #[.int .u32 (nx : Nat), .slice ba bn bc, .slice pa pn pc], .int .u32 (sq : Nat), .slice da dn dc] rfl ?_
          refine (Take_S hv (HIN.out.con _) HAG.out.ok HNX.out sq Mem.z HDN.out).mono ?_
          rintro e w1 ⟨nx1, ba1, bn1, bc1, pa1, pn1, pc1, l1, R2, q1, rest1, rfl, hv1, hI1, hT1⟩
          replace hv := hv1
          clear hv1
          have HI1 := Lib.hid hI1
          have HT1 := Lib.hid hT1
          clear hI1 hT1
          refine ⟨_, rfl, ?_⟩
          refine Any.wpAny_rest 21 [⟨[], none⟩, ⟨[], none⟩, ⟨[], none⟩, ⟨[1000], some 1000⟩] [.val, .val, .val, .put] (by kernel_rfl) hv.vars ?_
          simp only [List.length_cons, List.length_nil, Nat.zero_add, Nat.reduceAdd, Nat.reduceSub, Any.someVals, List.drop_succ_cons, List.drop_zero]
          simp only [Act.put, List.setIfInBounds_toArray, List.set_cons_succ, List.set_cons_zero]
          iterate 4 apply Exists.intro
          repeat (first
            | (refine Any.E_off rfl ?_; simp only [Act.put, List.setIfInBounds_toArray, List.set_cons_succ, List.set_cons_zero])
            | (apply Any.E_pureq rfl rfl rfl
               case h => intro K hK; go_big_quiet_op; (refine hK _ ?_; rfl)
               case hr => exact fun _ => rfl
               simp only [Act.put, List.setIfInBounds_toArray, List.set_cons_succ, List.set_cons_zero])
            | (apply Any.E_val rfl rfl rfl rfl
               case h =>
                 intro E' hA K hK
                 first
                   | ((with_reducible refine Any.at_qload (T := 26) ?_); refine Any.q_ldv 1000 hA (by decide) rfl rfl 3 _ Try.underlying26 rfl infoStr (by decide) rfl ?_; refine hK _ ?_; rfl)
                   | ((with_reducible refine Any.at_qslice (T := 23) ?_); refine Any.q_slice rfl Try.underlying23 infoB1 (some (.int .i64 (nk : Nat))) (some (.int .i64 (an : Nat))) none rfl rfl rfl nk an ac (fun w => bounds_lh HLH.out HHC.out) HSL.out ?_; refine hK _ ?_; rfl)
                   | (go_big_quiet_op; first
                     | (refine hK _ ?_; rfl)
                     | (refine ⟨_, fun _ _ => rfl, ?_⟩; refine hK _ ?_; rfl)
                     | (apply Exists.intro; refine ⟨fun w1 hw1 => ?_, ?_⟩; · (first
                         | fail)
                        refine hK _ ?_; rfl))
               case hD => rfl
               simp only [Act.put, List.setIfInBounds_toArray, List.set_cons_succ, List.set_cons_zero])
            | ((with_reducible refine Any.at_ealloc ?_); refine Any.E_lay rfl rfl rfl (fun _ => rfl) ?_; intro B; simp only [Act.put, List.setIfInBounds_toArray, List.set_cons_succ, List.set_cons_zero])
            | ((with_reducible refine Any.at_estore (T := 26) ?_); refine Any.E_putv (T := 26) rfl rfl rfl rfl rfl rfl 3 infoStr rfl rfl (by simp [Value.oneCell']) ?_; simp only [Act.put, List.setIfInBounds_toArray, List.set_cons_succ, List.set_cons_zero]))
          try any_goals exact undef
          refine Any.E_nil ?_
          intro w9 hE9
          replace hv : Mem w w9 [(b10, #[.int .u32 (nx1 : Nat), .slice ba1 bn1 bc1, .slice pa1 pn1 pc1])] _ := hE9.mem0 hv [1000] (by decide)
          clear hE9
          go_wp2
          have AG := HAG.out.take HALL.out (fr := nk) (n := dn) (by have := HDH.out; have := HHA.out; have := HLA.out; have := HLH.out; omega) (by rw [HSQ.out]; exact HT1.out)
          have hik := HIK.out
          go_roundw
          case rel => exact ⟨i + 1, p + q1.length, nx1, bn1, bc1, pn1, pc1, ba1, pa1, outS s q1 rest1, l1, R2 ++ _, by omega, by go_num, hv, Lib.hid (fun x hx => List.mem_append_right _ (Mem.s (HRS.out x hx))), HI1, Lib.hid AG.1, Lib.hid (by
            show s.bytes ++ q1 = _
            rw [HBY.out, AG.2.1, List.length_take, List.length_drop]
            have := AG.1.pos
            rw [show min q1.length (all.length - p) = q1.length from by omega, List.take_add]), Lib.hid (fun i' h1 h2 j h3 h4 h5 => by
            by_cases hii : i' < i
            · exact AG.2.2.1 j (HCM.out i' h1 hii j h3 h4 h5)
            · obtain rfl : i' = i := by omega
              exact absurd h1 (by have := HION.out; omega)
              )⟩
          case measure => simp [intOf]; omega
        · have r5 : ¬ (an : Int) ≤ (en : Int) := by omega
          have r6 : min (an : Int) (en : Int) = (en : Int) := by omega
          have hhe : hi = en := by omega
          rw [hhe] at HLH HHC HHA HHI HSL HDH
          have r7 : (en : Int) < (an : Int) := by omega
          clear hm hhi hhe
          skip
          refine Any.wp_region_cut 20 [⟨[1000], none⟩, ⟨[], none⟩, ⟨[], none⟩, ⟨[], none⟩, ⟨[], none⟩, ⟨[], none⟩, ⟨[], none⟩, ⟨[], none⟩, ⟨[], none⟩, ⟨[], none⟩, ⟨[], none⟩, ⟨[], none⟩, ⟨[], none⟩, ⟨[], none⟩, ⟨[], none⟩, ⟨[], none⟩, ⟨[], none⟩, ⟨[], none⟩, ⟨[], none⟩, ⟨[], none⟩, ⟨[], none⟩, ⟨[], none⟩, ⟨[], none⟩, ⟨[], none⟩, ⟨[], none⟩] [.val, .val, .val, .val, .val, .val, .val, .val, .val, .val, .val, .val, .val, .val, .val, .val, .val, .val, .val, .val] (by kernel_rfl) (by kernel_rfl) hv.vars ?_
          simp only [Any.someVals, List.take_succ_cons, List.take_zero]
          iterate 20 apply Exists.intro
          repeat (first
            | (refine Any.E_off rfl ?_; simp only [Act.put, List.setIfInBounds_toArray, List.set_cons_succ, List.set_cons_zero])
            | (apply Any.E_pureq rfl rfl rfl
               case h => intro K hK; go_big_quiet_op; (refine hK _ ?_; rfl)
               case hr => exact fun _ => rfl
               simp only [Act.put, List.setIfInBounds_toArray, List.set_cons_succ, List.set_cons_zero])
            | (apply Any.E_val rfl rfl rfl rfl
               case h =>
                 intro E' hA K hK
                 first
                   | ((with_reducible refine Any.at_qload (T := 26) ?_); refine Any.q_ldv 1000 hA (by decide) rfl rfl 3 _ Try.underlying26 rfl infoStr (by decide) rfl ?_; refine hK _ ?_; rfl)
                   | ((with_reducible refine Any.at_qslice (T := 23) ?_); refine Any.q_slice rfl Try.underlying23 infoB1 (some (.int .i64 (nk : Nat))) (some (.int .i64 (en : Nat))) none rfl rfl rfl nk en ac (fun w => bounds_lh HLH.out HHC.out) HSL.out ?_; refine hK _ ?_; rfl)
                   | (go_big_quiet_op; first
                     | (refine hK _ ?_; rfl)
                     | (refine ⟨_, fun _ _ => rfl, ?_⟩; refine hK _ ?_; rfl)
                     | (apply Exists.intro; refine ⟨fun w1 hw1 => ?_, ?_⟩; · (first
                         | fail)
                        refine hK _ ?_; rfl))
               case hD => rfl
               simp only [Act.put, List.setIfInBounds_toArray, List.set_cons_succ, List.set_cons_zero])
            | ((with_reducible refine Any.at_ealloc ?_); refine Any.E_lay rfl rfl rfl (fun _ => rfl) ?_; intro B; simp only [Act.put, List.setIfInBounds_toArray, List.set_cons_succ, List.set_cons_zero])
            | ((with_reducible refine Any.at_estore (T := 26) ?_); refine Any.E_putv (T := 26) rfl rfl rfl rfl rfl rfl 3 infoStr rfl rfl (by simp [Value.oneCell']) ?_; simp only [Act.put, List.setIfInBounds_toArray, List.set_cons_succ, List.set_cons_zero]))
          try any_goals exact undef
          refine Any.E_nil ?_
          intro w9 hE9
          replace hv : Mem w w9 [(b10, #[.int .u32 (nx : Nat), .slice ba bn bc, .slice pa pn pc])] _ := hE9.mem hv [1000] (by decide)
          clear hE9
          refine Any.wpOp_callv rfl rfl (Go.Proofs.enters_of Try.func10 (by kernel_rfl) rfl) rfl [.agg #[.int .u32 (nx : Nat), .slice ba bn bc, .slice pa pn pc], .int .u32 (sq : Nat), .slice da dn dc] rfl ?_
          refine (Take_S hv (HIN.out.con _) HAG.out.ok HNX.out sq Mem.z HDN.out).mono ?_
          rintro e w1 ⟨nx1, ba1, bn1, bc1, pa1, pn1, pc1, l1, R2, q1, rest1, rfl, hv1, hI1, hT1⟩
          replace hv := hv1
          clear hv1
          have HI1 := Lib.hid hI1
          have HT1 := Lib.hid hT1
          clear hI1 hT1
          refine ⟨_, rfl, ?_⟩
          refine Any.wpAny_rest 21 [⟨[], none⟩, ⟨[], none⟩, ⟨[], none⟩, ⟨[1000], some 1000⟩] [.val, .val, .val, .put] (by kernel_rfl) hv.vars ?_
          simp only [List.length_cons, List.length_nil, Nat.zero_add, Nat.reduceAdd, Nat.reduceSub, Any.someVals, List.drop_succ_cons, List.drop_zero]
          simp only [Act.put, List.setIfInBounds_toArray, List.set_cons_succ, List.set_cons_zero]
          iterate 4 apply Exists.intro
          repeat (first
            | (refine Any.E_off rfl ?_; simp only [Act.put, List.setIfInBounds_toArray, List.set_cons_succ, List.set_cons_zero])
            | (apply Any.E_pureq rfl rfl rfl
               case h => intro K hK; go_big_quiet_op; (refine hK _ ?_; rfl)
               case hr => exact fun _ => rfl
               simp only [Act.put, List.setIfInBounds_toArray, List.set_cons_succ, List.set_cons_zero])
            | (apply Any.E_val rfl rfl rfl rfl
               case h =>
                 intro E' hA K hK
                 first
                   | ((with_reducible refine Any.at_qload (T := 26) ?_); refine Any.q_ldv 1000 hA (by decide) rfl rfl 3 _ Try.underlying26 rfl infoStr (by decide) rfl ?_; refine hK _ ?_; rfl)
                   | ((with_reducible refine Any.at_qslice (T := 23) ?_); refine Any.q_slice rfl Try.underlying23 infoB1 (some (.int .i64 (nk : Nat))) (some (.int .i64 (en : Nat))) none rfl rfl rfl nk en ac (fun w => bounds_lh HLH.out HHC.out) HSL.out ?_; refine hK _ ?_; rfl)
                   | (go_big_quiet_op; first
                     | (refine hK _ ?_; rfl)
                     | (refine ⟨_, fun _ _ => rfl, ?_⟩; refine hK _ ?_; rfl)
                     | (apply Exists.intro; refine ⟨fun w1 hw1 => ?_, ?_⟩; · (first
                         | fail)
                        refine hK _ ?_; rfl))
               case hD => rfl
               simp only [Act.put, List.setIfInBounds_toArray, List.set_cons_succ, List.set_cons_zero])
            | ((with_reducible refine Any.at_ealloc ?_); refine Any.E_lay rfl rfl rfl (fun _ => rfl) ?_; intro B; simp only [Act.put, List.setIfInBounds_toArray, List.set_cons_succ, List.set_cons_zero])
            | ((with_reducible refine Any.at_estore (T := 26) ?_); refine Any.E_putv (T := 26) rfl rfl rfl rfl rfl rfl 3 infoStr rfl rfl (by simp [Value.oneCell']) ?_; simp only [Act.put, List.setIfInBounds_toArray, List.set_cons_succ, List.set_cons_zero]))
          try any_goals exact undef
          refine Any.E_nil ?_
          intro w9 hE9
          replace hv : Mem w w9 [(b10, #[.int .u32 (nx1 : Nat), .slice ba1 bn1 bc1, .slice pa1 pn1 pc1])] _ := hE9.mem0 hv [1000] (by decide)
          clear hE9
          go_wp2
          have AG := HAG.out.take HALL.out (fr := nk) (n := dn) (by have := HDH.out; have := HHA.out; have := HLA.out; have := HLH.out; omega) (by rw [HSQ.out]; exact HT1.out)
          have hik := HIK.out
          go_roundw
          case rel => exact ⟨i + 1, p + q1.length, nx1, bn1, bc1, pn1, pc1, ba1, pa1, outS s q1 rest1, l1, R2 ++ _, by omega, by go_num, hv, Lib.hid (fun x hx => List.mem_append_right _ (Mem.s (HRS.out x hx))), HI1, Lib.hid AG.1, Lib.hid (by
            show s.bytes ++ q1 = _
            rw [HBY.out, AG.2.1, List.length_take, List.length_drop]
            have := AG.1.pos
            rw [show min q1.length (all.length - p) = q1.length from by omega, List.take_add]), Lib.hid (fun i' h1 h2 j h3 h4 h5 => by
            by_cases hii : i' < i
            · exact AG.2.2.1 j (HCM.out i' h1 hii j h3 h4 h5)
            · obtain rfl : i' = i := by omega
              exact absurd h1 (by have := HION.out; omega)
              )⟩
          case measure => simp [intOf]; omega
      · have t1 : ¬ (i : Int) < (on : Int) := by omega
        have t2 : decide ((i : Int) < (on : Int)) = false := decide_eq_false t1
        obtain ⟨kk, hkk0⟩ : ∃ kk, i % pt = kk := ⟨_, rfl⟩
        have hkk : kk < pt := by rw [← hkk0]; exact Nat.mod_lt _ (by omega)
        have HKK := Lib.hid hkk0
        rw [hkk0] at s1 s2
        clear hkk0 hio hi2 hi0
        obtain ⟨nk, hnk0⟩ : ∃ nk, n * kk = nk := ⟨_, rfl⟩
        have HNK := Lib.hid hnk0
        have r1 : IntKind.i64.wrap ((n : Int) * (kk : Int)) = (nk : Int) := by rw [← Int.natCast_mul, hnk0]; exact IntWalk.i64_in _ (by have := HPT.out; have := HAN.out; have := Nat.mul_le_mul_left n (show kk ≤ pt - 1 by omega); omega)
        have hkn : nk < an := by
          have := Nat.mul_le_mul_left n (show kk ≤ pt - 1 by omega)
          have := HPT.out
          omega
        clear hnk0
        obtain ⟨en, hen⟩ : ∃ en, nk + n = en := ⟨_, rfl⟩
        have HEN := Lib.hid hen
        obtain ⟨sq, hsq⟩ : ∃ sq, (next + nk) % 4294967296 = sq := ⟨_, rfl⟩
        have HSQ := Lib.hid hsq
        obtain ⟨hi, hhi⟩ : ∃ hi : Nat, min an en = hi := ⟨_, rfl⟩
        have hnk : nk ≤ 256 := by have := HAN.out; omega
        have HLH : Hid (nk ≤ hi) := Lib.hid (by omega)
        have HHC : Hid (hi ≤ ac) := Lib.hid (by have := HAC.out; omega)
        have HHA : Hid (hi ≤ an) := Lib.hid (by omega)
        have HHI := Lib.hid hhi
        obtain ⟨da, hsl⟩ : ∃ da, sliced aa (nk) hi ac 1 = .slice da (hi - nk) (ac - nk) := sliced_len
        obtain ⟨dn, hdn⟩ : ∃ dn, hi - nk = dn := ⟨_, rfl⟩
        obtain ⟨dc, hdc⟩ : ∃ dc, ac - nk = dc := ⟨_, rfl⟩
        rw [hdn, hdc] at hsl
        have HSL := Lib.hid hsl
        replace hv := hv.sliced (HRS.out _ HA.out) (l := nk) (h := hi) (m := ac) HLH.out HHA.out HHC.out (Nat.le_refl _)
        rw [hsl, show ((cellsB all).drop (nk * 1)).take ((hi - nk) * 1) = cellsB ((all.drop (nk)).take dn) from by rw [Nat.mul_one, Nat.mul_one, hdn]; simp only [cellsB, List.map_take, List.map_drop]] at hv
        have HDN : Hid (dn ≤ 4096) := Lib.hid (by have := HAN.out; omega)
        have HDH := Lib.hid hdn
        have HNX : Hid (nx < 4294967296) := Lib.hid (by rw [HIN.out.nx, HAG.out.nxt]; exact Nat.mod_lt _ (by decide))
        have r2 : IntKind.u32.wrap (nk : Int) = (nk : Int) := u32_nat (by omega)
        have r3 : IntKind.u32.wrap ((next : Int) + (nk : Int)) = (sq : Int) := by rw [u32_add, hsq]
        have r4 : IntKind.i64.wrap ((nk : Int) + (n : Int)) = (en : Int) := by rw [← Int.natCast_add, hen]; exact IntWalk.i64_in _ (by have := HN64.out; omega)
        clear hsl hdn hdc hnk hen hsq
        by_cases hm : an ≤ en
        · have r5 : (an : Int) ≤ (en : Int) := by omega
          have r6 : min (an : Int) (en : Int) = (an : Int) := by omega
          have hhe : hi = an := by omega
          rw [hhe] at HLH HHC HHA HHI HSL HDH
          clear hm hhi hhe
          go_wp2
          refine Any.wp_region_cut 20 [⟨[1000], none⟩, ⟨[], none⟩, ⟨[], none⟩, ⟨[], none⟩, ⟨[], none⟩, ⟨[], none⟩, ⟨[], none⟩, ⟨[], none⟩, ⟨[], none⟩, ⟨[], none⟩, ⟨[], none⟩, ⟨[], none⟩, ⟨[], none⟩, ⟨[], none⟩, ⟨[], none⟩, ⟨[], none⟩, ⟨[], none⟩, ⟨[], none⟩, ⟨[], none⟩, ⟨[], none⟩, ⟨[], none⟩, ⟨[], none⟩, ⟨[], none⟩, ⟨[], none⟩, ⟨[], none⟩] [.val, .val, .val, .val, .val, .val, .val, .val, .val, .val, .val, .val, .val, .val, .val, .val, .val, .val, .val, .val] (by kernel_rfl) (by kernel_rfl) hv.vars ?_
          simp only [Any.someVals, List.take_succ_cons, List.take_zero]
          iterate 20 apply Exists.intro
          repeat (first
            | (refine Any.E_off rfl ?_; simp only [Act.put, List.setIfInBounds_toArray, List.set_cons_succ, List.set_cons_zero])
            | (apply Any.E_pureq rfl rfl rfl
               case h => intro K hK; go_big_quiet_op; (refine hK _ ?_; rfl)
               case hr => exact fun _ => rfl
               simp only [Act.put, List.setIfInBounds_toArray, List.set_cons_succ, List.set_cons_zero])
            | (apply Any.E_val rfl rfl rfl rfl
               case h =>
                 intro E' hA K hK
                 first
                   | ((with_reducible refine Any.at_qload (T := 26) ?_); refine Any.q_ldv 1000 hA (by decide) rfl rfl 3 _ Try.underlying26 rfl infoStr (by decide) rfl ?_; refine hK _ ?_; rfl)
                   | ((with_reducible refine Any.at_qslice (T := 23) ?_); refine Any.q_slice rfl Try.underlying23 infoB1 (some (.int .i64 (nk : Nat))) (some (.int .i64 (an : Nat))) none rfl rfl rfl nk an ac (fun w => bounds_lh HLH.out HHC.out) HSL.out ?_; refine hK _ ?_; rfl)
                   | (go_big_quiet_op; first
                     | (refine hK _ ?_; rfl)
                     | (refine ⟨_, fun _ _ => rfl, ?_⟩; refine hK _ ?_; rfl)
                     | (apply Exists.intro; refine ⟨fun w1 hw1 => ?_, ?_⟩; · (first
                         | fail)
                        refine hK _ ?_; rfl))
               case hD => rfl
               simp only [Act.put, List.setIfInBounds_toArray, List.set_cons_succ, List.set_cons_zero])
            | ((with_reducible refine Any.at_ealloc ?_); refine Any.E_lay rfl rfl rfl (fun _ => rfl) ?_; intro B; simp only [Act.put, List.setIfInBounds_toArray, List.set_cons_succ, List.set_cons_zero])
            | ((with_reducible refine Any.at_estore (T := 26) ?_); refine Any.E_putv (T := 26) rfl rfl rfl rfl rfl rfl 3 infoStr rfl rfl (by simp [Value.oneCell']) ?_; simp only [Act.put, List.setIfInBounds_toArray, List.set_cons_succ, List.set_cons_zero]))
          try any_goals exact undef
          refine Any.E_nil ?_
          intro w9 hE9
          replace hv : Mem w w9 [(b10, #[.int .u32 (nx : Nat), .slice ba bn bc, .slice pa pn pc])] _ := hE9.mem hv [1000] (by decide)
          clear hE9
          refine Any.wpOp_callv rfl rfl (Go.Proofs.enters_of Try.func10 (by kernel_rfl) rfl) rfl [.agg #[.int .u32 (nx : Nat), .slice ba bn bc, .slice pa pn pc], .int .u32 (sq : Nat), .slice da dn dc] rfl ?_
          refine (Take_S hv (HIN.out.con _) HAG.out.ok HNX.out sq Mem.z HDN.out).mono ?_
          rintro e w1 ⟨nx1, ba1, bn1, bc1, pa1, pn1, pc1, l1, R2, q1, rest1, rfl, hv1, hI1, hT1⟩
          replace hv := hv1
          clear hv1
          have HI1 := Lib.hid hI1
          have HT1 := Lib.hid hT1
          clear hI1 hT1
          refine ⟨_, rfl, ?_⟩
          refine Any.wpAny_rest 21 [⟨[], none⟩, ⟨[], none⟩, ⟨[], none⟩, ⟨[1000], some 1000⟩] [.val, .val, .val, .put] (by kernel_rfl) hv.vars ?_
          simp only [List.length_cons, List.length_nil, Nat.zero_add, Nat.reduceAdd, Nat.reduceSub, Any.someVals, List.drop_succ_cons, List.drop_zero]
          simp only [Act.put, List.setIfInBounds_toArray, List.set_cons_succ, List.set_cons_zero]
          iterate 4 apply Exists.intro
          repeat (first
            | (refine Any.E_off rfl ?_; simp only [Act.put, List.setIfInBounds_toArray, List.set_cons_succ, List.set_cons_zero])
            | (apply Any.E_pureq rfl rfl rfl
               case h => intro K hK; go_big_quiet_op; (refine hK _ ?_; rfl)
               case hr => exact fun _ => rfl
               simp only [Act.put, List.setIfInBounds_toArray, List.set_cons_succ, List.set_cons_zero])
            | (apply Any.E_val rfl rfl rfl rfl
               case h =>
                 intro E' hA K hK
                 first
                   | ((with_reducible refine Any.at_qload (T := 26) ?_); refine Any.q_ldv 1000 hA (by decide) rfl rfl 3 _ Try.underlying26 rfl infoStr (by decide) rfl ?_; refine hK _ ?_; rfl)
                   | ((with_reducible refine Any.at_qslice (T := 23) ?_); refine Any.q_slice rfl Try.underlying23 infoB1 (some (.int .i64 (nk : Nat))) (some (.int .i64 (an : Nat))) none rfl rfl rfl nk an ac (fun w => bounds_lh HLH.out HHC.out) HSL.out ?_; refine hK _ ?_; rfl)
                   | (go_big_quiet_op; first
                     | (refine hK _ ?_; rfl)
                     | (refine ⟨_, fun _ _ => rfl, ?_⟩; refine hK _ ?_; rfl)
                     | (apply Exists.intro; refine ⟨fun w1 hw1 => ?_, ?_⟩; · (first
                         | fail)
                        refine hK _ ?_; rfl))
               case hD => rfl
               simp only [Act.put, List.setIfInBounds_toArray, List.set_cons_succ, List.set_cons_zero])
            | ((with_reducible refine Any.at_ealloc ?_); refine Any.E_lay rfl rfl rfl (fun _ => rfl) ?_; intro B; simp only [Act.put, List.setIfInBounds_toArray, List.set_cons_succ, List.set_cons_zero])
            | ((with_reducible refine Any.at_estore (T := 26) ?_); refine Any.E_putv (T := 26) rfl rfl rfl rfl rfl rfl 3 infoStr rfl rfl (by simp [Value.oneCell']) ?_; simp only [Act.put, List.setIfInBounds_toArray, List.set_cons_succ, List.set_cons_zero]))
          try any_goals exact undef
          refine Any.E_nil ?_
          intro w9 hE9
          replace hv : Mem w w9 [(b10, #[.int .u32 (nx1 : Nat), .slice ba1 bn1 bc1, .slice pa1 pn1 pc1])] _ := hE9.mem0 hv [1000] (by decide)
          clear hE9
          go_wp2
          have AG := HAG.out.take HALL.out (fr := nk) (n := dn) (by have := HDH.out; have := HHA.out; have := HLA.out; have := HLH.out; omega) (by rw [HSQ.out]; exact HT1.out)
          have hik := HIK.out
          go_roundw
          case rel => exact ⟨i + 1, p + q1.length, nx1, bn1, bc1, pn1, pc1, ba1, pa1, outS s q1 rest1, l1, R2 ++ _, by omega, by go_num, hv, Lib.hid (fun x hx => List.mem_append_right _ (Mem.s (HRS.out x hx))), HI1, Lib.hid AG.1, Lib.hid (by
            show s.bytes ++ q1 = _
            rw [HBY.out, AG.2.1, List.length_take, List.length_drop]
            have := AG.1.pos
            rw [show min q1.length (all.length - p) = q1.length from by omega, List.take_add]), Lib.hid (fun i' h1 h2 j h3 h4 h5 => by
            by_cases hii : i' < i
            · exact AG.2.2.1 j (HCM.out i' h1 hii j h3 h4 h5)
            · obtain rfl : i' = i := by omega
              rw [HKK.out] at h3 h5
              rw [HNK.out] at h3 h5; refine AG.2.2.2 j h3 (by have := HDH.out; have := HHI.out; have := HLH.out; have := HEN.out; omega) ?_
              have hro := room_nn HAG.out.ok
              rw [HBY.out, List.length_take] at hro
              have := HAN.out; have := HLA.out; have := HAG.out.pos; omega)⟩
          case measure => simp [intOf]; omega
        · have r5 : ¬ (an : Int) ≤ (en : Int) := by omega
          have r6 : min (an : Int) (en : Int) = (en : Int) := by omega
          have hhe : hi = en := by omega
          rw [hhe] at HLH HHC HHA HHI HSL HDH
          have r7 : (en : Int) < (an : Int) := by omega
          clear hm hhi hhe
          go_wp2
          refine Any.wp_region_cut 20 [⟨[1000], none⟩, ⟨[], none⟩, ⟨[], none⟩, ⟨[], none⟩, ⟨[], none⟩, ⟨[], none⟩, ⟨[], none⟩, ⟨[], none⟩, ⟨[], none⟩, ⟨[], none⟩, ⟨[], none⟩, ⟨[], none⟩, ⟨[], none⟩, ⟨[], none⟩, ⟨[], none⟩, ⟨[], none⟩, ⟨[], none⟩, ⟨[], none⟩, ⟨[], none⟩, ⟨[], none⟩, ⟨[], none⟩, ⟨[], none⟩, ⟨[], none⟩, ⟨[], none⟩, ⟨[], none⟩] [.val, .val, .val, .val, .val, .val, .val, .val, .val, .val, .val, .val, .val, .val, .val, .val, .val, .val, .val, .val] (by kernel_rfl) (by kernel_rfl) hv.vars ?_
          simp only [Any.someVals, List.take_succ_cons, List.take_zero]
          iterate 20 apply Exists.intro
          repeat (first
            | (refine Any.E_off rfl ?_; simp only [Act.put, List.setIfInBounds_toArray, List.set_cons_succ, List.set_cons_zero])
            | (apply Any.E_pureq rfl rfl rfl
               case h => intro K hK; go_big_quiet_op; (refine hK _ ?_; rfl)
               case hr => exact fun _ => rfl
               simp only [Act.put, List.setIfInBounds_toArray, List.set_cons_succ, List.set_cons_zero])
            | (apply Any.E_val rfl rfl rfl rfl
               case h =>
                 intro E' hA K hK
                 first
                   | ((with_reducible refine Any.at_qload (T := 26) ?_); refine Any.q_ldv 1000 hA (by decide) rfl rfl 3 _ Try.underlying26 rfl infoStr (by decide) rfl ?_; refine hK _ ?_; rfl)
                   | ((with_reducible refine Any.at_qslice (T := 23) ?_); refine Any.q_slice rfl Try.underlying23 infoB1 (some (.int .i64 (nk : Nat))) (some (.int .i64 (en : Nat))) none rfl rfl rfl nk en ac (fun w => bounds_lh HLH.out HHC.out) HSL.out ?_; refine hK _ ?_; rfl)
                   | (go_big_quiet_op; first
                     | (refine hK _ ?_; rfl)
                     | (refine ⟨_, fun _ _ => rfl, ?_⟩; refine hK _ ?_; rfl)
                     | (apply Exists.intro; refine ⟨fun w1 hw1 => ?_, ?_⟩; · (first
                         | fail)
                        refine hK _ ?_; rfl))
               case hD => rfl
               simp only [Act.put, List.setIfInBounds_toArray, List.set_cons_succ, List.set_cons_zero])
            | ((with_reducible refine Any.at_ealloc ?_); refine Any.E_lay rfl rfl rfl (fun _ => rfl) ?_; intro B; simp only [Act.put, List.setIfInBounds_toArray, List.set_cons_succ, List.set_cons_zero])
            | ((with_reducible refine Any.at_estore (T := 26) ?_); refine Any.E_putv (T := 26) rfl rfl rfl rfl rfl rfl 3 infoStr rfl rfl (by simp [Value.oneCell']) ?_; simp only [Act.put, List.setIfInBounds_toArray, List.set_cons_succ, List.set_cons_zero]))
          try any_goals exact undef
          refine Any.E_nil ?_
          intro w9 hE9
          replace hv : Mem w w9 [(b10, #[.int .u32 (nx : Nat), .slice ba bn bc, .slice pa pn pc])] _ := hE9.mem hv [1000] (by decide)
          clear hE9
          refine Any.wpOp_callv rfl rfl (Go.Proofs.enters_of Try.func10 (by kernel_rfl) rfl) rfl [.agg #[.int .u32 (nx : Nat), .slice ba bn bc, .slice pa pn pc], .int .u32 (sq : Nat), .slice da dn dc] rfl ?_
          refine (Take_S hv (HIN.out.con _) HAG.out.ok HNX.out sq Mem.z HDN.out).mono ?_
          rintro e w1 ⟨nx1, ba1, bn1, bc1, pa1, pn1, pc1, l1, R2, q1, rest1, rfl, hv1, hI1, hT1⟩
          replace hv := hv1
          clear hv1
          have HI1 := Lib.hid hI1
          have HT1 := Lib.hid hT1
          clear hI1 hT1
          refine ⟨_, rfl, ?_⟩
          refine Any.wpAny_rest 21 [⟨[], none⟩, ⟨[], none⟩, ⟨[], none⟩, ⟨[1000], some 1000⟩] [.val, .val, .val, .put] (by kernel_rfl) hv.vars ?_
          simp only [List.length_cons, List.length_nil, Nat.zero_add, Nat.reduceAdd, Nat.reduceSub, Any.someVals, List.drop_succ_cons, List.drop_zero]
          simp only [Act.put, List.setIfInBounds_toArray, List.set_cons_succ, List.set_cons_zero]
          iterate 4 apply Exists.intro
          repeat (first
            | (refine Any.E_off rfl ?_; simp only [Act.put, List.setIfInBounds_toArray, List.set_cons_succ, List.set_cons_zero])
            | (apply Any.E_pureq rfl rfl rfl
               case h => intro K hK; go_big_quiet_op; (refine hK _ ?_; rfl)
               case hr => exact fun _ => rfl
               simp only [Act.put, List.setIfInBounds_toArray, List.set_cons_succ, List.set_cons_zero])
            | (apply Any.E_val rfl rfl rfl rfl
               case h =>
                 intro E' hA K hK
                 first
                   | ((with_reducible refine Any.at_qload (T := 26) ?_); refine Any.q_ldv 1000 hA (by decide) rfl rfl 3 _ Try.underlying26 rfl infoStr (by decide) rfl ?_; refine hK _ ?_; rfl)
                   | ((with_reducible refine Any.at_qslice (T := 23) ?_); refine Any.q_slice rfl Try.underlying23 infoB1 (some (.int .i64 (nk : Nat))) (some (.int .i64 (en : Nat))) none rfl rfl rfl nk en ac (fun w => bounds_lh HLH.out HHC.out) HSL.out ?_; refine hK _ ?_; rfl)
                   | (go_big_quiet_op; first
                     | (refine hK _ ?_; rfl)
                     | (refine ⟨_, fun _ _ => rfl, ?_⟩; refine hK _ ?_; rfl)
                     | (apply Exists.intro; refine ⟨fun w1 hw1 => ?_, ?_⟩; · (first
                         | fail)
                        refine hK _ ?_; rfl))
               case hD => rfl
               simp only [Act.put, List.setIfInBounds_toArray, List.set_cons_succ, List.set_cons_zero])
            | ((with_reducible refine Any.at_ealloc ?_); refine Any.E_lay rfl rfl rfl (fun _ => rfl) ?_; intro B; simp only [Act.put, List.setIfInBounds_toArray, List.set_cons_succ, List.set_cons_zero])
            | ((with_reducible refine Any.at_estore (T := 26) ?_); refine Any.E_putv (T := 26) rfl rfl rfl rfl rfl rfl 3 infoStr rfl rfl (by simp [Value.oneCell']) ?_; simp only [Act.put, List.setIfInBounds_toArray, List.set_cons_succ, List.set_cons_zero]))
          try any_goals exact undef
          refine Any.E_nil ?_
          intro w9 hE9
          replace hv : Mem w w9 [(b10, #[.int .u32 (nx1 : Nat), .slice ba1 bn1 bc1, .slice pa1 pn1 pc1])] _ := hE9.mem0 hv [1000] (by decide)
          clear hE9
          go_wp2
          have AG := HAG.out.take HALL.out (fr := nk) (n := dn) (by have := HDH.out; have := HHA.out; have := HLA.out; have := HLH.out; omega) (by rw [HSQ.out]; exact HT1.out)
          have hik := HIK.out
          go_roundw
          case rel => exact ⟨i + 1, p + q1.length, nx1, bn1, bc1, pn1, pc1, ba1, pa1, outS s q1 rest1, l1, R2 ++ _, by omega, by go_num, hv, Lib.hid (fun x hx => List.mem_append_right _ (Mem.s (HRS.out x hx))), HI1, Lib.hid AG.1, Lib.hid (by
            show s.bytes ++ q1 = _
            rw [HBY.out, AG.2.1, List.length_take, List.length_drop]
            have := AG.1.pos
            rw [show min q1.length (all.length - p) = q1.length from by omega, List.take_add]), Lib.hid (fun i' h1 h2 j h3 h4 h5 => by
            by_cases hii : i' < i
            · exact AG.2.2.1 j (HCM.out i' h1 hii j h3 h4 h5)
            · obtain rfl : i' = i := by omega
              rw [HKK.out] at h3 h5
              rw [HNK.out] at h3 h5; refine AG.2.2.2 j h3 (by have := HDH.out; have := HHI.out; have := HLH.out; have := HEN.out; omega) ?_
              have hro := room_nn HAG.out.ok
              rw [HBY.out, List.length_take] at hro
              have := HAN.out; have := HLA.out; have := HAG.out.pos; omega)⟩
          case measure => simp [intOf]; omega
    · have hki : ¬ (i : Int) < ((on + pt : Nat) : Int) := by omega
      have hki2 : ¬ (i : Int) < (on : Int) + (pt : Int) := by omega
      have hall := HAG.out.all (fun j hj => by
        have hj2 : j < an := by rw [← HLA.out]; exact hj
        have hdv : j / n < pt := (Nat.div_lt_iff_lt_mul (by omega)).2 (by have := HPT.out; rw [Nat.mul_comm]; omega)
        obtain ⟨i', g1, g2, g3⟩ := res_of on pt (j / n) hdv
        have := HCM.out i' g1 (by omega) j
        rw [g3] at this
        have e1 := Nat.div_add_mod j n
        have e2 := Nat.mod_lt j (show 0 < n by omega)
        exact this (by omega) hj2 (by omega))
      obtain ⟨hp1, hps⟩ := hall
      have hby : s.bytes = all := by rw [HBY.out, hp1, List.take_length]
      have hl0 : l = [] := by
        have := HIN.out.ps
        rw [hps] at this
        exact List.map_eq_nil_iff.1 this
      have hpn : pn = 0 := by
        have := len_rdP (hv.rd HIN.out.p)
        rw [hl0] at this
        exact this.symm
      subst hpn
      have kB : ∀ w', Mem w w' [(b10, #[.int .u32 (nx : Nat), .slice ba bn bc, .slice pa 0 pc])] R1 → Calls Try.prog 16 #[.slice ba bn bc, .slice aa an ac] w' fun e w2 => e = .returned (.bool true) ∧ w' = w2 := fun w' h => by
        have hb := HIN.out.b
        rw [hby] at hb
        exact Bytes_same _ _ all w' (h.rd hb) (h.rd (HRS.out _ HA.out)) HGA.out
      have hroom : room s = 256 - (an : Int) := by
        have := (room_nn HAG.out.ok).2.1
        rw [hby, HLA.out] at this
        exact this
      have kR : ∀ w', Mem w w' [(b10, #[.int .u32 (nx : Nat), .slice ba bn bc, .slice pa 0 pc])] R1 → Calls Try.prog 17 #[.agg #[.int .u32 (nx : Nat), .slice ba bn bc, .slice pa 0 pc]] w' fun e w2 => e = .returned (.int .i64 (256 - (an : Int))) ∧ New w' w2 := fun w' h => by
        have := Room_S h HIN.out HAG.out.ok
        rwa [hroom] at this
      have v1 : IntKind.i64.wrap (256 - (an : Int)) = 256 - (an : Int) := IntWalk.i64_in _ (by have := HAN.out; omega)
      clear hroom hby hl0 hps hp1 hi0 hi2
      go_wp2_with (first
        | ((with_reducible refine at_load (T := 23) ?_); refine wl_ldc rfl _ _ rfl _ (hv.vars.row (by first | exact .head _ | exact .tail _ (.head _) | exact .tail _ (.tail _ (.head _)) | exact .tail _ (.tail _ (.tail _ (.head _))) | exact .tail _ (.tail _ (.tail _ (.tail _ (.head _)))) | exact .tail _ (.tail _ (.tail _ (.tail _ (.tail _ (.head _))))) | exact .tail _ (.tail _ (.tail _ (.tail _ (.tail _ (.tail _ (.head _)))))) | exact .tail _ (.tail _ (.tail _ (.tail _ (.tail _ (.tail _ (.tail _ (.head _))))))))) _ Try.underlying23 rfl _ rfl ?_)
        | ((with_reducible refine at_load (T := 24) ?_); refine wl_ldc rfl _ _ rfl _ (hv.vars.row (by first | exact .head _ | exact .tail _ (.head _) | exact .tail _ (.tail _ (.head _)) | exact .tail _ (.tail _ (.tail _ (.head _))) | exact .tail _ (.tail _ (.tail _ (.tail _ (.head _)))) | exact .tail _ (.tail _ (.tail _ (.tail _ (.tail _ (.head _))))) | exact .tail _ (.tail _ (.tail _ (.tail _ (.tail _ (.tail _ (.head _)))))) | exact .tail _ (.tail _ (.tail _ (.tail _ (.tail _ (.tail _ (.tail _ (.head _))))))))) _ Try.underlying24 rfl _ rfl ?_)
        | ((with_reducible refine at_load (T := 26) ?_); refine wl_ldv rfl _ rfl _ (hv.vars.row (by first | exact .head _ | exact .tail _ (.head _) | exact .tail _ (.tail _ (.head _)) | exact .tail _ (.tail _ (.tail _ (.head _))) | exact .tail _ (.tail _ (.tail _ (.tail _ (.head _)))) | exact .tail _ (.tail _ (.tail _ (.tail _ (.tail _ (.head _))))) | exact .tail _ (.tail _ (.tail _ (.tail _ (.tail _ (.tail _ (.head _)))))) | exact .tail _ (.tail _ (.tail _ (.tail _ (.tail _ (.tail _ (.tail _ (.head _))))))))) 3 _ Try.underlying26 rfl infoStr (by decide) rfl ?_)
        | (go_at_call 16; (with_reducible refine (kB _ hv).mono ?_); rintro e w1 ⟨rfl, rfl⟩)
        | (go_at_call 17; (with_reducible refine (kR _ hv).mono ?_); rintro e w1 ⟨rfl, hn1⟩; replace hv := hv.new hn1; clear hn1)
        | (go_at_call 9; (with_reducible refine (heads25 _).mono ?_); rintro e w1 ⟨rfl, hn1⟩; replace hv := hv.new hn1; clear hn1))
      go_ret
      exact ⟨rfl, hv.below⟩
theorem WindowAll_any (av ov : Value) (all : List Nat) (next : Nat) (n : Int) (ol : List Int) (W : World) (ha : Rd W 1 av (cellsB all)) (hga : goodB all) (hnx : next < 4294967296) (hn1 : -9223372036854775808 ≤ n) (hn2 : n ≤ 9223372036854775807) (ho : Rd W 1 ov (ol.map (Value.int .i64))) :
    Calls Try.prog 6 #[av, .int .u32 (next : Nat), .int .i64 n, ov] W fun e w' => e = .returned (.bool true) ∧ New W w' := by
  obtain ⟨aa, an, ac, rfl, _⟩ := id ha
  obtain ⟨oa, on, oc, rfl, _⟩ := id ho
  have hv := ((Mem.nil W).old ho).old ha
  have hla := len_rd1 ha
  by_cases h0 : an < 1
  · exact All_c1 aa oa an ac on oc next n all ol W _ hv Mem.z (Mem.s Mem.z) hn1 hn2 h0
  · by_cases h1 : 256 < an
    · exact All_c2 aa oa an ac on oc next n all ol W _ hv Mem.z (Mem.s Mem.z) hn1 hn2 (by omega) h1
    · by_cases h2 : n < 1
      · exact All_c3 aa oa an ac on oc next n all ol W _ hv Mem.z (Mem.s Mem.z) hn1 hn2 (by omega) (by omega) h2
      · by_cases h3 : 64 < n
        · exact All_c4 aa oa an ac on oc next n all ol W _ hv Mem.z (Mem.s Mem.z) hn1 hn2 (by omega) (by omega) (by omega) h3
        · by_cases h4 : 60 < on
          · exact All_c5 aa oa an ac on oc next n all ol W _ hv Mem.z (Mem.s Mem.z) hn1 hn2 (by omega) (by omega) (by omega) (by omega) h4
          · obtain ⟨m, rfl⟩ : ∃ m : Nat, n = (m : Int) := ⟨n.toNat, by omega⟩
            exact All_yes aa oa an ac on oc next m all ol W _ hv Mem.z (Mem.s Mem.z) hga hnx (by omega) (by omega) (by omega) (by omega) (by omega)
end Go.Proofs.Ytpbeemgigpaacaa
