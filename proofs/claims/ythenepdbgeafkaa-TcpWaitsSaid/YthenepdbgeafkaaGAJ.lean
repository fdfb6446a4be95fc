import Derived.Test.YthenepdbgeafkaaGAI
import Derived.Laws.Tables
import Derived.Shelf.Abstract
set_option linter.unusedSimpArgs false
set_option linter.unusedVariables false
set_option maxRecDepth 100000
set_option maxHeartbeats 8000000
section
/-
 The part of a span between two places: within.
-/
namespace Go.Proofs.Ythenepdbgeafkaa
open Go.Proofs.Wi Go.RowKit
theorem built_sp0 : Try.prog.built 92 [] = some #[.int .i64 0, .slice none 0 0] := by kernel_rfl
theorem infoB1 : (Try.prog.info? 5).map (·.size) = some 1 := by kernel_rfl
def WithinR (w0 : World) (L : List (Nat × Array Value)) (R : List (Nat × Value × List Value)) (r : Option Sp) (e : Ending) (w' : World) : Prop :=
 match r with
 | none => e = .returned (.tuple #[.agg #[.int .i64 0, .slice none 0 0], .bool false]) ∧ Mem w0 w' L R
 | some y => ∃ ao n cap, e = .returned (.tuple #[.agg #[.int .i64 y.1, .slice ao n cap], .bool true]) ∧ Mem w0 w' L ((1, .slice ao n cap, cellsB y.2) :: R)
theorem within_no00 (x fr tt : Int) (da : Option Addr) (dn dc : Nat) (d : List Nat) (w0 w : World) (L : List (Nat × Array Value)) (R : List (Nat × Value × List Value)) (hv0 : Mem w0 w L R) (hd : (1, .slice da dn dc, cellsB d) ∈ R) (hx1 : -1000000000000 ≤ x) (hx2 : x ≤ 1000000000000) (hf1 : -1000000000000 ≤ fr) (hf2 : fr ≤ 1000000000000) (ht1 : -1000000000000 ≤ tt) (ht2 : tt ≤ 1000000000000) (hdn : dn ≤ 1000000) (hp : ¬ x < fr) (hq : ¬ tt < x + (dn : Int)) (hle : (x + (dn : Int)) ≤ x) :
   Calls Try.prog 79 #[.agg #[.int .i64 x, .slice da dn dc], .int .i64 fr, .int .i64 tt] w (WithinR w0 L R (within (x, d) fr tt)) := by
 have EN1 : Hid (∀ w', Calls Try.prog 65 #[.agg #[.int .i64 x, .slice da dn dc]] w' fun e w2 => e = .returned (.int .i64 (x + (dn : Int))) ∧ New w' w2) := Lib.hid (fun w' => end_any x da dn dc (by omega) (by omega) hdn w')
 have hv := hv0
 have HD := Lib.hid hd
 have HDN := Lib.hid (len_rd1 (hv0.rd hd))
 have hmx : max x fr = x := by omega
 have hmn : min (x + (d.length : Int)) tt = (x + (dn : Int)) := by rw [HDN.out]; omega
 have HMX := Lib.hid hmx
 have HMN := Lib.hid hmn
 have hpg : ¬ fr > x := hp
 clear hv0 hd hmx hmn
 have e : within (x, d) fr tt = none := by
   unfold within
   rw [show max (x, d).1 fr = x from HMX.out, show min ((x, d).1 + ((x, d).2.length : Int)) tt = (x + (dn : Int)) from HMN.out]
   exact if_pos hle
 rw [e]
 have y1 : decide ((x + (dn : Int)) ≤ x) = true := decide_eq_true hle
 clear hx1 hx2 hf1 hf2 ht1 ht2 hdn e
 go_enter Try.func79, Try.ntmps79
 go_wp2_with (first
   | ((with_reducible refine gBx 92 3 ?_); refine nwB hv #[.int .i64 x, .slice da dn dc] 92 ?_; clear hv; intro b3 w2 hv)
   | ((with_reducible refine gAl 92 6 ?_); refine nwB hv #[.int .i64 0, .slice none 0 0] 92 ?_; clear hv; intro b6 w2 hv))
 refine Any.wr2 10 [(1, [1001], none), (4, [1001], none)] [] hv ?_
 simp only [Any.someVals]
 iterate 10 apply Exists.intro
 repeat ((first
  | refine Any.E_off rfl ?_
  | ((with_reducible refine Any.gE 92 ?_); refine Any.eW 1001 2 Try.underlying92 infoSp ?_)
  | ((with_reducible refine Any.gE 3 ?_); refine Any.eC 1001 _ Try.underlying3 ?_)
  | (apply Any.E_val rfl rfl rfl rfl
     case h =>
      intro E' hA K hK
      first
       | (go_big_quiet_op; first
          | (refine hK _ ?_; rfl)
          | (refine ⟨_, fun _ _ => rfl, ?_⟩; refine hK _ ?_; rfl)
          | (apply Exists.intro; refine ⟨fun w1 hw1 => ?_, ?_⟩; · (first
              | (go_at_call 65; exact Any.calls_VE (EN1.out _) hw1))
             refine hK _ ?_; rfl))
     case hD => rfl)); simp only [Act.put, sia, scs, scz])
 try any_goals exact undef
 refine Any.fin2 hv [1000, 1001] ?_; clear hv; intro w9 hv
 go_wp2_with (first
   | ((with_reducible refine at_build (T := 92) ?_); refine wl_build rfl _ rfl built_sp0 ?_)
   | ((with_reducible refine gSt 92 ?_); refine stV hv b6 2 infoSp ?_; clear hv; intro w2 hv))
 refine ret_cell2 Try.results79 rfl (read_row _ b6 92 _ hv.vars.ro 2 _ Try.underlying92 rfl infoSp (by decide) rfl) rfl rfl ⟨rfl, hv.drop.drop⟩
theorem within_yes00 (x fr tt : Int) (da : Option Addr) (dn dc : Nat) (d : List Nat) (w0 w : World) (L : List (Nat × Array Value)) (R : List (Nat × Value × List Value)) (hv0 : Mem w0 w L R) (hd : (1, .slice da dn dc, cellsB d) ∈ R) (hx1 : -1000000000000 ≤ x) (hx2 : x ≤ 1000000000000) (hf1 : -1000000000000 ≤ fr) (hf2 : fr ≤ 1000000000000) (ht1 : -1000000000000 ≤ tt) (ht2 : tt ≤ 1000000000000) (hdn : dn ≤ 1000000) (hp : ¬ x < fr) (hq : ¬ tt < x + (dn : Int)) (hlt : x < (x + (dn : Int))) :
   Calls Try.prog 79 #[.agg #[.int .i64 x, .slice da dn dc], .int .i64 fr, .int .i64 tt] w (WithinR w0 L R (within (x, d) fr tt)) := by
 have hdc : dn ≤ dc := by
   obtain ⟨_, _, _, e, _, g, _⟩ := hv0.rd hd
   cases e; exact g
 have EN1 : Hid (∀ w', Calls Try.prog 65 #[.agg #[.int .i64 x, .slice da dn dc]] w' fun e w2 => e = .returned (.int .i64 (x + (dn : Int))) ∧ New w' w2) := Lib.hid (fun w' => end_any x da dn dc (by omega) (by omega) hdn w')
 have hv := hv0
 have HD := Lib.hid hd
 have HDN := Lib.hid (len_rd1 (hv0.rd hd))
 have hmx : max x fr = x := by omega
 have hmn : min (x + (d.length : Int)) tt = (x + (dn : Int)) := by rw [HDN.out]; omega
 have HMX := Lib.hid hmx
 have HMN := Lib.hid hmn
 have hpg : ¬ fr > x := hp
 clear hv0 hd hmx hmn
 have ql : IntKind.i64.wrap (x - x) = 0 := by rw [Int.sub_self]; rfl
 have qh : IntKind.i64.wrap (x + (dn : Int) - x) = (dn : Int) := by rw [show x + (dn : Int) - x = (dn : Int) from by omega]; exact IntWalk.i64_in _ (by omega)
 have qh2 : IntKind.i64.wrap (dn : Int) = (dn : Int) := IntWalk.i64_in _ (by omega)
 have e : within (x, d) fr tt = some (x, (d.drop 0).take (dn - 0)) := by
   unfold within
   rw [show max (x, d).1 fr = x from HMX.out, show min ((x, d).1 + ((x, d).2.length : Int)) tt = (x + (dn : Int)) from HMN.out, if_neg (by omega)]
   simp only [Option.some.injEq, Prod.mk.injEq, true_and]
   congr 1
   · omega
   · congr 1
     omega
 rw [e]
 have HLH : Hid (0 ≤ dn) := Lib.hid (by omega)
 have HHN : Hid (dn ≤ dn) := Lib.hid (by omega)
 have HHC : Hid (dn ≤ dc) := Lib.hid (by omega)
 have HCE : Hid (((cellsB d).drop (0 * 1)).take ((dn - 0) * 1) = cellsB ((d.drop 0).take (dn - 0))) := Lib.hid (by simp [cellsB, List.map_take, List.map_drop])
 have y1 : decide ((x + (dn : Int)) ≤ x) = false := decide_eq_false (by omega)
 clear hx1 hx2 hf1 hf2 ht1 ht2 hdn e hdc hlt
 go_enter Try.func79, Try.ntmps79
 go_wp2_with (first
   | ((with_reducible refine gBx 92 3 ?_); refine nwB hv #[.int .i64 x, .slice da dn dc] 92 ?_; clear hv; intro b3 w2 hv)
   | ((with_reducible refine gAl 92 6 ?_); refine nwB hv #[.int .i64 0, .slice none 0 0] 92 ?_; clear hv; intro b6 w2 hv))
 refine Any.wr2 10 [(1, [1001], none), (4, [1001], none)] [] hv ?_
 simp only [Any.someVals]
 iterate 10 apply Exists.intro
 repeat ((first
  | refine Any.E_off rfl ?_
  | ((with_reducible refine Any.gE 92 ?_); refine Any.eW 1001 2 Try.underlying92 infoSp ?_)
  | ((with_reducible refine Any.gE 3 ?_); refine Any.eC 1001 _ Try.underlying3 ?_)
  | (apply Any.E_val rfl rfl rfl rfl
     case h =>
      intro E' hA K hK
      first
       | (go_big_quiet_op; first
          | (refine hK _ ?_; rfl)
          | (refine ⟨_, fun _ _ => rfl, ?_⟩; refine hK _ ?_; rfl)
          | (apply Exists.intro; refine ⟨fun w1 hw1 => ?_, ?_⟩; · (first
              | (go_at_call 65; exact Any.calls_VE (EN1.out _) hw1))
             refine hK _ ?_; rfl))
     case hD => rfl)); simp only [Act.put, sia, scs, scz])
 try any_goals exact undef
 refine Any.fin2 hv [1000, 1001] ?_; clear hv; intro w9 hv
 go_wp2_with (first
   | ((with_reducible refine gLd 23 ?_); refine ldC hv _ _ _ Try.underlying23 ?_)
   | ((with_reducible refine gLd 3 ?_); refine ldC hv _ _ _ Try.underlying3 ?_)
   | ((with_reducible refine at_slice (T := 23) ?_); refine wl_slice_lhm rfl rfl hv HD.out Try.underlying23 infoB1 0 dn dn rfl rfl rfl HLH.out HHN.out (Nat.le_refl _) HHC.out ?_; intro ao hv1; replace hv := hv1; clear hv1)
   | ((with_reducible refine at_build (T := 92) ?_); refine wl_build rfl _ rfl (built_sp _ _ _ _) ?_)
   | ((with_reducible refine gSt 92 ?_); refine stV hv b6 2 infoSp ?_; clear hv; intro w2 hv))
 rw [HCE.out] at hv
 refine ret_cell2 Try.results79 rfl (read_row _ b6 92 _ hv.vars.ro 2 _ Try.underlying92 rfl infoSp (by decide) rfl) rfl rfl ⟨_, _, _, rfl, hv.drop.drop⟩
theorem within_no01 (x fr tt : Int) (da : Option Addr) (dn dc : Nat) (d : List Nat) (w0 w : World) (L : List (Nat × Array Value)) (R : List (Nat × Value × List Value)) (hv0 : Mem w0 w L R) (hd : (1, .slice da dn dc, cellsB d) ∈ R) (hx1 : -1000000000000 ≤ x) (hx2 : x ≤ 1000000000000) (hf1 : -1000000000000 ≤ fr) (hf2 : fr ≤ 1000000000000) (ht1 : -1000000000000 ≤ tt) (ht2 : tt ≤ 1000000000000) (hdn : dn ≤ 1000000) (hp : ¬ x < fr) (hq : tt < x + (dn : Int)) (hle : tt ≤ x) :
   Calls Try.prog 79 #[.agg #[.int .i64 x, .slice da dn dc], .int .i64 fr, .int .i64 tt] w (WithinR w0 L R (within (x, d) fr tt)) := by
 have EN1 : Hid (∀ w', Calls Try.prog 65 #[.agg #[.int .i64 x, .slice da dn dc]] w' fun e w2 => e = .returned (.int .i64 (x + (dn : Int))) ∧ New w' w2) := Lib.hid (fun w' => end_any x da dn dc (by omega) (by omega) hdn w')
 have hv := hv0
 have HD := Lib.hid hd
 have HDN := Lib.hid (len_rd1 (hv0.rd hd))
 have hmx : max x fr = x := by omega
 have hmn : min (x + (d.length : Int)) tt = tt := by rw [HDN.out]; omega
 have HMX := Lib.hid hmx
 have HMN := Lib.hid hmn
 have hpg : ¬ fr > x := hp
 clear hv0 hd hmx hmn
 have e : within (x, d) fr tt = none := by
   unfold within
   rw [show max (x, d).1 fr = x from HMX.out, show min ((x, d).1 + ((x, d).2.length : Int)) tt = tt from HMN.out]
   exact if_pos hle
 rw [e]
 have y1 : decide (tt ≤ x) = true := decide_eq_true hle
 clear hx1 hx2 hf1 hf2 ht1 ht2 hdn e
 go_enter Try.func79, Try.ntmps79
 go_wp2_with (first
   | ((with_reducible refine gBx 92 3 ?_); refine nwB hv #[.int .i64 x, .slice da dn dc] 92 ?_; clear hv; intro b3 w2 hv)
   | ((with_reducible refine gAl 92 6 ?_); refine nwB hv #[.int .i64 0, .slice none 0 0] 92 ?_; clear hv; intro b6 w2 hv))
 refine Any.wr2 10 [(1, [1001], none), (4, [1001], none)] [] hv ?_
 simp only [Any.someVals]
 iterate 10 apply Exists.intro
 repeat ((first
  | refine Any.E_off rfl ?_
  | ((with_reducible refine Any.gE 92 ?_); refine Any.eW 1001 2 Try.underlying92 infoSp ?_)
  | ((with_reducible refine Any.gE 3 ?_); refine Any.eC 1001 _ Try.underlying3 ?_)
  | (apply Any.E_val rfl rfl rfl rfl
     case h =>
      intro E' hA K hK
      first
       | (go_big_quiet_op; first
          | (refine hK _ ?_; rfl)
          | (refine ⟨_, fun _ _ => rfl, ?_⟩; refine hK _ ?_; rfl)
          | (apply Exists.intro; refine ⟨fun w1 hw1 => ?_, ?_⟩; · (first
              | (go_at_call 65; exact Any.calls_VE (EN1.out _) hw1))
             refine hK _ ?_; rfl))
     case hD => rfl)); simp only [Act.put, sia, scs, scz])
 try any_goals exact undef
 refine Any.fin2 hv [1000, 1001] ?_; clear hv; intro w9 hv
 go_wp2_with (first
   | ((with_reducible refine at_build (T := 92) ?_); refine wl_build rfl _ rfl built_sp0 ?_)
   | ((with_reducible refine gSt 92 ?_); refine stV hv b6 2 infoSp ?_; clear hv; intro w2 hv))
 refine ret_cell2 Try.results79 rfl (read_row _ b6 92 _ hv.vars.ro 2 _ Try.underlying92 rfl infoSp (by decide) rfl) rfl rfl ⟨rfl, hv.drop.drop⟩
theorem within_yes01 (x fr tt : Int) (da : Option Addr) (dn dc : Nat) (d : List Nat) (w0 w : World) (L : List (Nat × Array Value)) (R : List (Nat × Value × List Value)) (hv0 : Mem w0 w L R) (hd : (1, .slice da dn dc, cellsB d) ∈ R) (hx1 : -1000000000000 ≤ x) (hx2 : x ≤ 1000000000000) (hf1 : -1000000000000 ≤ fr) (hf2 : fr ≤ 1000000000000) (ht1 : -1000000000000 ≤ tt) (ht2 : tt ≤ 1000000000000) (hdn : dn ≤ 1000000) (hp : ¬ x < fr) (hq : tt < x + (dn : Int)) (hlt : x < tt) :
   Calls Try.prog 79 #[.agg #[.int .i64 x, .slice da dn dc], .int .i64 fr, .int .i64 tt] w (WithinR w0 L R (within (x, d) fr tt)) := by
 have hdc : dn ≤ dc := by
   obtain ⟨_, _, _, e, _, g, _⟩ := hv0.rd hd
   cases e; exact g
 have EN1 : Hid (∀ w', Calls Try.prog 65 #[.agg #[.int .i64 x, .slice da dn dc]] w' fun e w2 => e = .returned (.int .i64 (x + (dn : Int))) ∧ New w' w2) := Lib.hid (fun w' => end_any x da dn dc (by omega) (by omega) hdn w')
 have hv := hv0
 have HD := Lib.hid hd
 have HDN := Lib.hid (len_rd1 (hv0.rd hd))
 have hmx : max x fr = x := by omega
 have hmn : min (x + (d.length : Int)) tt = tt := by rw [HDN.out]; omega
 have HMX := Lib.hid hmx
 have HMN := Lib.hid hmn
 have hpg : ¬ fr > x := hp
 clear hv0 hd hmx hmn
 have ql : IntKind.i64.wrap (x - x) = 0 := by rw [Int.sub_self]; rfl
 obtain ⟨h, hh⟩ : ∃ h : Nat, tt - x = (h : Int) := ⟨(tt - x).toNat, by omega⟩
 have qh : IntKind.i64.wrap (tt - x) = (h : Int) := by rw [hh]; exact IntWalk.i64_in _ (by omega)
 have e : within (x, d) fr tt = some (x, (d.drop 0).take (h - 0)) := by
   unfold within
   rw [show max (x, d).1 fr = x from HMX.out, show min ((x, d).1 + ((x, d).2.length : Int)) tt = tt from HMN.out, if_neg (by omega)]
   simp only [Option.some.injEq, Prod.mk.injEq, true_and]
   congr 1
   · omega
   · congr 1
     omega
 rw [e]
 have HLH : Hid (0 ≤ h) := Lib.hid (by omega)
 have HHN : Hid (h ≤ dn) := Lib.hid (by omega)
 have HHC : Hid (h ≤ dc) := Lib.hid (by omega)
 have HCE : Hid (((cellsB d).drop (0 * 1)).take ((h - 0) * 1) = cellsB ((d.drop 0).take (h - 0))) := Lib.hid (by simp [cellsB, List.map_take, List.map_drop])
 have y1 : decide (tt ≤ x) = false := decide_eq_false (by omega)
 clear hx1 hx2 hf1 hf2 ht1 ht2 hdn e hdc hlt hh
 go_enter Try.func79, Try.ntmps79
 go_wp2_with (first
   | ((with_reducible refine gBx 92 3 ?_); refine nwB hv #[.int .i64 x, .slice da dn dc] 92 ?_; clear hv; intro b3 w2 hv)
   | ((with_reducible refine gAl 92 6 ?_); refine nwB hv #[.int .i64 0, .slice none 0 0] 92 ?_; clear hv; intro b6 w2 hv))
 refine Any.wr2 10 [(1, [1001], none), (4, [1001], none)] [] hv ?_
 simp only [Any.someVals]
 iterate 10 apply Exists.intro
 repeat ((first
  | refine Any.E_off rfl ?_
  | ((with_reducible refine Any.gE 92 ?_); refine Any.eW 1001 2 Try.underlying92 infoSp ?_)
  | ((with_reducible refine Any.gE 3 ?_); refine Any.eC 1001 _ Try.underlying3 ?_)
  | (apply Any.E_val rfl rfl rfl rfl
     case h =>
      intro E' hA K hK
      first
       | (go_big_quiet_op; first
          | (refine hK _ ?_; rfl)
          | (refine ⟨_, fun _ _ => rfl, ?_⟩; refine hK _ ?_; rfl)
          | (apply Exists.intro; refine ⟨fun w1 hw1 => ?_, ?_⟩; · (first
              | (go_at_call 65; exact Any.calls_VE (EN1.out _) hw1))
             refine hK _ ?_; rfl))
     case hD => rfl)); simp only [Act.put, sia, scs, scz])
 try any_goals exact undef
 refine Any.fin2 hv [1000, 1001] ?_; clear hv; intro w9 hv
 go_wp2_with (first
   | ((with_reducible refine gLd 23 ?_); refine ldC hv _ _ _ Try.underlying23 ?_)
   | ((with_reducible refine gLd 3 ?_); refine ldC hv _ _ _ Try.underlying3 ?_)
   | ((with_reducible refine at_slice (T := 23) ?_); refine wl_slice_lhm rfl rfl hv HD.out Try.underlying23 infoB1 0 h h rfl rfl rfl HLH.out HHN.out (Nat.le_refl _) HHC.out ?_; intro ao hv1; replace hv := hv1; clear hv1)
   | ((with_reducible refine at_build (T := 92) ?_); refine wl_build rfl _ rfl (built_sp _ _ _ _) ?_)
   | ((with_reducible refine gSt 92 ?_); refine stV hv b6 2 infoSp ?_; clear hv; intro w2 hv))
 rw [HCE.out] at hv
 refine ret_cell2 Try.results79 rfl (read_row _ b6 92 _ hv.vars.ro 2 _ Try.underlying92 rfl infoSp (by decide) rfl) rfl rfl ⟨_, _, _, rfl, hv.drop.drop⟩
theorem within_no10 (x fr tt : Int) (da : Option Addr) (dn dc : Nat) (d : List Nat) (w0 w : World) (L : List (Nat × Array Value)) (R : List (Nat × Value × List Value)) (hv0 : Mem w0 w L R) (hd : (1, .slice da dn dc, cellsB d) ∈ R) (hx1 : -1000000000000 ≤ x) (hx2 : x ≤ 1000000000000) (hf1 : -1000000000000 ≤ fr) (hf2 : fr ≤ 1000000000000) (ht1 : -1000000000000 ≤ tt) (ht2 : tt ≤ 1000000000000) (hdn : dn ≤ 1000000) (hp : x < fr) (hq : ¬ tt < x + (dn : Int)) (hle : (x + (dn : Int)) ≤ fr) :
   Calls Try.prog 79 #[.agg #[.int .i64 x, .slice da dn dc], .int .i64 fr, .int .i64 tt] w (WithinR w0 L R (within (x, d) fr tt)) := by
 have EN1 : Hid (∀ w', Calls Try.prog 65 #[.agg #[.int .i64 x, .slice da dn dc]] w' fun e w2 => e = .returned (.int .i64 (x + (dn : Int))) ∧ New w' w2) := Lib.hid (fun w' => end_any x da dn dc (by omega) (by omega) hdn w')
 have hv := hv0
 have HD := Lib.hid hd
 have HDN := Lib.hid (len_rd1 (hv0.rd hd))
 have hmx : max x fr = fr := by omega
 have hmn : min (x + (d.length : Int)) tt = (x + (dn : Int)) := by rw [HDN.out]; omega
 have HMX := Lib.hid hmx
 have HMN := Lib.hid hmn
 have hpg : fr > x := hp
 clear hv0 hd hmx hmn
 have e : within (x, d) fr tt = none := by
   unfold within
   rw [show max (x, d).1 fr = fr from HMX.out, show min ((x, d).1 + ((x, d).2.length : Int)) tt = (x + (dn : Int)) from HMN.out]
   exact if_pos hle
 rw [e]
 have y1 : decide ((x + (dn : Int)) ≤ fr) = true := decide_eq_true hle
 clear hx1 hx2 hf1 hf2 ht1 ht2 hdn e
 go_enter Try.func79, Try.ntmps79
 go_wp2_with (first
   | ((with_reducible refine gBx 92 3 ?_); refine nwB hv #[.int .i64 x, .slice da dn dc] 92 ?_; clear hv; intro b3 w2 hv)
   | ((with_reducible refine gAl 92 6 ?_); refine nwB hv #[.int .i64 0, .slice none 0 0] 92 ?_; clear hv; intro b6 w2 hv))
 refine Any.wr2 10 [(1, [1001], none), (4, [1001], none)] [] hv ?_
 simp only [Any.someVals]
 iterate 10 apply Exists.intro
 repeat ((first
  | refine Any.E_off rfl ?_
  | ((with_reducible refine Any.gE 92 ?_); refine Any.eW 1001 2 Try.underlying92 infoSp ?_)
  | ((with_reducible refine Any.gE 3 ?_); refine Any.eC 1001 _ Try.underlying3 ?_)
  | (apply Any.E_val rfl rfl rfl rfl
     case h =>
      intro E' hA K hK
      first
       | (go_big_quiet_op; first
          | (refine hK _ ?_; rfl)
          | (refine ⟨_, fun _ _ => rfl, ?_⟩; refine hK _ ?_; rfl)
          | (apply Exists.intro; refine ⟨fun w1 hw1 => ?_, ?_⟩; · (first
              | (go_at_call 65; exact Any.calls_VE (EN1.out _) hw1))
             refine hK _ ?_; rfl))
     case hD => rfl)); simp only [Act.put, sia, scs, scz])
 try any_goals exact undef
 refine Any.fin2 hv [1000, 1001] ?_; clear hv; intro w9 hv
 go_wp2_with (first
   | ((with_reducible refine at_build (T := 92) ?_); refine wl_build rfl _ rfl built_sp0 ?_)
   | ((with_reducible refine gSt 92 ?_); refine stV hv b6 2 infoSp ?_; clear hv; intro w2 hv))
 refine ret_cell2 Try.results79 rfl (read_row _ b6 92 _ hv.vars.ro 2 _ Try.underlying92 rfl infoSp (by decide) rfl) rfl rfl ⟨rfl, hv.drop.drop⟩
theorem within_yes10 (x fr tt : Int) (da : Option Addr) (dn dc : Nat) (d : List Nat) (w0 w : World) (L : List (Nat × Array Value)) (R : List (Nat × Value × List Value)) (hv0 : Mem w0 w L R) (hd : (1, .slice da dn dc, cellsB d) ∈ R) (hx1 : -1000000000000 ≤ x) (hx2 : x ≤ 1000000000000) (hf1 : -1000000000000 ≤ fr) (hf2 : fr ≤ 1000000000000) (ht1 : -1000000000000 ≤ tt) (ht2 : tt ≤ 1000000000000) (hdn : dn ≤ 1000000) (hp : x < fr) (hq : ¬ tt < x + (dn : Int)) (hlt : fr < (x + (dn : Int))) :
   Calls Try.prog 79 #[.agg #[.int .i64 x, .slice da dn dc], .int .i64 fr, .int .i64 tt] w (WithinR w0 L R (within (x, d) fr tt)) := by
 have hdc : dn ≤ dc := by
   obtain ⟨_, _, _, e, _, g, _⟩ := hv0.rd hd
   cases e; exact g
 have EN1 : Hid (∀ w', Calls Try.prog 65 #[.agg #[.int .i64 x, .slice da dn dc]] w' fun e w2 => e = .returned (.int .i64 (x + (dn : Int))) ∧ New w' w2) := Lib.hid (fun w' => end_any x da dn dc (by omega) (by omega) hdn w')
 have hv := hv0
 have HD := Lib.hid hd
 have HDN := Lib.hid (len_rd1 (hv0.rd hd))
 have hmx : max x fr = fr := by omega
 have hmn : min (x + (d.length : Int)) tt = (x + (dn : Int)) := by rw [HDN.out]; omega
 have HMX := Lib.hid hmx
 have HMN := Lib.hid hmn
 have hpg : fr > x := hp
 clear hv0 hd hmx hmn
 obtain ⟨l, hl⟩ : ∃ l : Nat, fr - x = (l : Int) := ⟨(fr - x).toNat, by omega⟩
 have ql : IntKind.i64.wrap (fr - x) = (l : Int) := by rw [hl]; exact IntWalk.i64_in _ (by omega)
 have qh : IntKind.i64.wrap (x + (dn : Int) - x) = (dn : Int) := by rw [show x + (dn : Int) - x = (dn : Int) from by omega]; exact IntWalk.i64_in _ (by omega)
 have qh2 : IntKind.i64.wrap (dn : Int) = (dn : Int) := IntWalk.i64_in _ (by omega)
 have e : within (x, d) fr tt = some (fr, (d.drop l).take (dn - l)) := by
   unfold within
   rw [show max (x, d).1 fr = fr from HMX.out, show min ((x, d).1 + ((x, d).2.length : Int)) tt = (x + (dn : Int)) from HMN.out, if_neg (by omega)]
   simp only [Option.some.injEq, Prod.mk.injEq, true_and]
   congr 1
   · omega
   · congr 1
     omega
 rw [e]
 have HLH : Hid (l ≤ dn) := Lib.hid (by omega)
 have HHN : Hid (dn ≤ dn) := Lib.hid (by omega)
 have HHC : Hid (dn ≤ dc) := Lib.hid (by omega)
 have HCE : Hid (((cellsB d).drop (l * 1)).take ((dn - l) * 1) = cellsB ((d.drop l).take (dn - l))) := Lib.hid (by simp [cellsB, List.map_take, List.map_drop])
 have y1 : decide ((x + (dn : Int)) ≤ fr) = false := decide_eq_false (by omega)
 clear hx1 hx2 hf1 hf2 ht1 ht2 hdn e hdc hlt hl
 go_enter Try.func79, Try.ntmps79
 go_wp2_with (first
   | ((with_reducible refine gBx 92 3 ?_); refine nwB hv #[.int .i64 x, .slice da dn dc] 92 ?_; clear hv; intro b3 w2 hv)
   | ((with_reducible refine gAl 92 6 ?_); refine nwB hv #[.int .i64 0, .slice none 0 0] 92 ?_; clear hv; intro b6 w2 hv))
 refine Any.wr2 10 [(1, [1001], none), (4, [1001], none)] [] hv ?_
 simp only [Any.someVals]
 iterate 10 apply Exists.intro
 repeat ((first
  | refine Any.E_off rfl ?_
  | ((with_reducible refine Any.gE 92 ?_); refine Any.eW 1001 2 Try.underlying92 infoSp ?_)
  | ((with_reducible refine Any.gE 3 ?_); refine Any.eC 1001 _ Try.underlying3 ?_)
  | (apply Any.E_val rfl rfl rfl rfl
     case h =>
      intro E' hA K hK
      first
       | (go_big_quiet_op; first
          | (refine hK _ ?_; rfl)
          | (refine ⟨_, fun _ _ => rfl, ?_⟩; refine hK _ ?_; rfl)
          | (apply Exists.intro; refine ⟨fun w1 hw1 => ?_, ?_⟩; · (first
              | (go_at_call 65; exact Any.calls_VE (EN1.out _) hw1))
             refine hK _ ?_; rfl))
     case hD => rfl)); simp only [Act.put, sia, scs, scz])
 try any_goals exact undef
 refine Any.fin2 hv [1000, 1001] ?_; clear hv; intro w9 hv
 go_wp2_with (first
   | ((with_reducible refine gLd 23 ?_); refine ldC hv _ _ _ Try.underlying23 ?_)
   | ((with_reducible refine gLd 3 ?_); refine ldC hv _ _ _ Try.underlying3 ?_)
   | ((with_reducible refine at_slice (T := 23) ?_); refine wl_slice_lhm rfl rfl hv HD.out Try.underlying23 infoB1 l dn dn rfl rfl rfl HLH.out HHN.out (Nat.le_refl _) HHC.out ?_; intro ao hv1; replace hv := hv1; clear hv1)
   | ((with_reducible refine at_build (T := 92) ?_); refine wl_build rfl _ rfl (built_sp _ _ _ _) ?_)
   | ((with_reducible refine gSt 92 ?_); refine stV hv b6 2 infoSp ?_; clear hv; intro w2 hv))
 rw [HCE.out] at hv
 refine ret_cell2 Try.results79 rfl (read_row _ b6 92 _ hv.vars.ro 2 _ Try.underlying92 rfl infoSp (by decide) rfl) rfl rfl ⟨_, _, _, rfl, hv.drop.drop⟩
theorem within_no11 (x fr tt : Int) (da : Option Addr) (dn dc : Nat) (d : List Nat) (w0 w : World) (L : List (Nat × Array Value)) (R : List (Nat × Value × List Value)) (hv0 : Mem w0 w L R) (hd : (1, .slice da dn dc, cellsB d) ∈ R) (hx1 : -1000000000000 ≤ x) (hx2 : x ≤ 1000000000000) (hf1 : -1000000000000 ≤ fr) (hf2 : fr ≤ 1000000000000) (ht1 : -1000000000000 ≤ tt) (ht2 : tt ≤ 1000000000000) (hdn : dn ≤ 1000000) (hp : x < fr) (hq : tt < x + (dn : Int)) (hle : tt ≤ fr) :
   Calls Try.prog 79 #[.agg #[.int .i64 x, .slice da dn dc], .int .i64 fr, .int .i64 tt] w (WithinR w0 L R (within (x, d) fr tt)) := by
 have EN1 : Hid (∀ w', Calls Try.prog 65 #[.agg #[.int .i64 x, .slice da dn dc]] w' fun e w2 => e = .returned (.int .i64 (x + (dn : Int))) ∧ New w' w2) := Lib.hid (fun w' => end_any x da dn dc (by omega) (by omega) hdn w')
 have hv := hv0
 have HD := Lib.hid hd
 have HDN := Lib.hid (len_rd1 (hv0.rd hd))
 have hmx : max x fr = fr := by omega
 have hmn : min (x + (d.length : Int)) tt = tt := by rw [HDN.out]; omega
 have HMX := Lib.hid hmx
 have HMN := Lib.hid hmn
 have hpg : fr > x := hp
 clear hv0 hd hmx hmn
 have e : within (x, d) fr tt = none := by
   unfold within
   rw [show max (x, d).1 fr = fr from HMX.out, show min ((x, d).1 + ((x, d).2.length : Int)) tt = tt from HMN.out]
   exact if_pos hle
 rw [e]
 have y1 : decide (tt ≤ fr) = true := decide_eq_true hle
 clear hx1 hx2 hf1 hf2 ht1 ht2 hdn e
 go_enter Try.func79, Try.ntmps79
 go_wp2_with (first
   | ((with_reducible refine gBx 92 3 ?_); refine nwB hv #[.int .i64 x, .slice da dn dc] 92 ?_; clear hv; intro b3 w2 hv)
   | ((with_reducible refine gAl 92 6 ?_); refine nwB hv #[.int .i64 0, .slice none 0 0] 92 ?_; clear hv; intro b6 w2 hv))
 refine Any.wr2 10 [(1, [1001], none), (4, [1001], none)] [] hv ?_
 simp only [Any.someVals]
 iterate 10 apply Exists.intro
 repeat ((first
  | refine Any.E_off rfl ?_
  | ((with_reducible refine Any.gE 92 ?_); refine Any.eW 1001 2 Try.underlying92 infoSp ?_)
  | ((with_reducible refine Any.gE 3 ?_); refine Any.eC 1001 _ Try.underlying3 ?_)
  | (apply Any.E_val rfl rfl rfl rfl
     case h =>
      intro E' hA K hK
      first
       | (go_big_quiet_op; first
          | (refine hK _ ?_; rfl)
          | (refine ⟨_, fun _ _ => rfl, ?_⟩; refine hK _ ?_; rfl)
          | (apply Exists.intro; refine ⟨fun w1 hw1 => ?_, ?_⟩; · (first
              | (go_at_call 65; exact Any.calls_VE (EN1.out _) hw1))
             refine hK _ ?_; rfl))
     case hD => rfl)); simp only [Act.put, sia, scs, scz])
 try any_goals exact undef
 refine Any.fin2 hv [1000, 1001] ?_; clear hv; intro w9 hv
 go_wp2_with (first
   | ((with_reducible refine at_build (T := 92) ?_); refine wl_build rfl _ rfl built_sp0 ?_)
   | ((with_reducible refine gSt 92 ?_); refine stV hv b6 2 infoSp ?_; clear hv; intro w2 hv))
 refine ret_cell2 Try.results79 rfl (read_row _ b6 92 _ hv.vars.ro 2 _ Try.underlying92 rfl infoSp (by decide) rfl) rfl rfl ⟨rfl, hv.drop.drop⟩
theorem within_yes11 (x fr tt : Int) (da : Option Addr) (dn dc : Nat) (d : List Nat) (w0 w : World) (L : List (Nat × Array Value)) (R : List (Nat × Value × List Value)) (hv0 : Mem w0 w L R) (hd : (1, .slice da dn dc, cellsB d) ∈ R) (hx1 : -1000000000000 ≤ x) (hx2 : x ≤ 1000000000000) (hf1 : -1000000000000 ≤ fr) (hf2 : fr ≤ 1000000000000) (ht1 : -1000000000000 ≤ tt) (ht2 : tt ≤ 1000000000000) (hdn : dn ≤ 1000000) (hp : x < fr) (hq : tt < x + (dn : Int)) (hlt : fr < tt) :
   Calls Try.prog 79 #[.agg #[.int .i64 x, .slice da dn dc], .int .i64 fr, .int .i64 tt] w (WithinR w0 L R (within (x, d) fr tt)) := by
 have hdc : dn ≤ dc := by
   obtain ⟨_, _, _, e, _, g, _⟩ := hv0.rd hd
   cases e; exact g
 have EN1 : Hid (∀ w', Calls Try.prog 65 #[.agg #[.int .i64 x, .slice da dn dc]] w' fun e w2 => e = .returned (.int .i64 (x + (dn : Int))) ∧ New w' w2) := Lib.hid (fun w' => end_any x da dn dc (by omega) (by omega) hdn w')
 have hv := hv0
 have HD := Lib.hid hd
 have HDN := Lib.hid (len_rd1 (hv0.rd hd))
 have hmx : max x fr = fr := by omega
 have hmn : min (x + (d.length : Int)) tt = tt := by rw [HDN.out]; omega
 have HMX := Lib.hid hmx
 have HMN := Lib.hid hmn
 have hpg : fr > x := hp
 clear hv0 hd hmx hmn
 obtain ⟨l, hl⟩ : ∃ l : Nat, fr - x = (l : Int) := ⟨(fr - x).toNat, by omega⟩
 have ql : IntKind.i64.wrap (fr - x) = (l : Int) := by rw [hl]; exact IntWalk.i64_in _ (by omega)
 obtain ⟨h, hh⟩ : ∃ h : Nat, tt - x = (h : Int) := ⟨(tt - x).toNat, by omega⟩
 have qh : IntKind.i64.wrap (tt - x) = (h : Int) := by rw [hh]; exact IntWalk.i64_in _ (by omega)
 have e : within (x, d) fr tt = some (fr, (d.drop l).take (h - l)) := by
   unfold within
   rw [show max (x, d).1 fr = fr from HMX.out, show min ((x, d).1 + ((x, d).2.length : Int)) tt = tt from HMN.out, if_neg (by omega)]
   simp only [Option.some.injEq, Prod.mk.injEq, true_and]
   congr 1
   · omega
   · congr 1
     omega
 rw [e]
 have HLH : Hid (l ≤ h) := Lib.hid (by omega)
 have HHN : Hid (h ≤ dn) := Lib.hid (by omega)
 have HHC : Hid (h ≤ dc) := Lib.hid (by omega)
 have HCE : Hid (((cellsB d).drop (l * 1)).take ((h - l) * 1) = cellsB ((d.drop l).take (h - l))) := Lib.hid (by simp [cellsB, List.map_take, List.map_drop])
 have y1 : decide (tt ≤ fr) = false := decide_eq_false (by omega)
 clear hx1 hx2 hf1 hf2 ht1 ht2 hdn e hdc hlt hl hh
 go_enter Try.func79, Try.ntmps79
 go_wp2_with (first
   | ((with_reducible refine gBx 92 3 ?_); refine nwB hv #[.int .i64 x, .slice da dn dc] 92 ?_; clear hv; intro b3 w2 hv)
   | ((with_reducible refine gAl 92 6 ?_); refine nwB hv #[.int .i64 0, .slice none 0 0] 92 ?_; clear hv; intro b6 w2 hv))
 refine Any.wr2 10 [(1, [1001], none), (4, [1001], none)] [] hv ?_
 simp only [Any.someVals]
 iterate 10 apply Exists.intro
 repeat ((first
  | refine Any.E_off rfl ?_
  | ((with_reducible refine Any.gE 92 ?_); refine Any.eW 1001 2 Try.underlying92 infoSp ?_)
  | ((with_reducible refine Any.gE 3 ?_); refine Any.eC 1001 _ Try.underlying3 ?_)
  | (apply Any.E_val rfl rfl rfl rfl
     case h =>
      intro E' hA K hK
      first
       | (go_big_quiet_op; first
          | (refine hK _ ?_; rfl)
          | (refine ⟨_, fun _ _ => rfl, ?_⟩; refine hK _ ?_; rfl)
          | (apply Exists.intro; refine ⟨fun w1 hw1 => ?_, ?_⟩; · (first
              | (go_at_call 65; exact Any.calls_VE (EN1.out _) hw1))
             refine hK _ ?_; rfl))
     case hD => rfl)); simp only [Act.put, sia, scs, scz])
 try any_goals exact undef
 refine Any.fin2 hv [1000, 1001] ?_; clear hv; intro w9 hv
 go_wp2_with (first
   | ((with_reducible refine gLd 23 ?_); refine ldC hv _ _ _ Try.underlying23 ?_)
   | ((with_reducible refine gLd 3 ?_); refine ldC hv _ _ _ Try.underlying3 ?_)
   | ((with_reducible refine at_slice (T := 23) ?_); refine wl_slice_lhm rfl rfl hv HD.out Try.underlying23 infoB1 l h h rfl rfl rfl HLH.out HHN.out (Nat.le_refl _) HHC.out ?_; intro ao hv1; replace hv := hv1; clear hv1)
   | ((with_reducible refine at_build (T := 92) ?_); refine wl_build rfl _ rfl (built_sp _ _ _ _) ?_)
   | ((with_reducible refine gSt 92 ?_); refine stV hv b6 2 infoSp ?_; clear hv; intro w2 hv))
 rw [HCE.out] at hv
 refine ret_cell2 Try.results79 rfl (read_row _ b6 92 _ hv.vars.ro 2 _ Try.underlying92 rfl infoSp (by decide) rfl) rfl rfl ⟨_, _, _, rfl, hv.drop.drop⟩
theorem within_any (x fr tt : Int) (da : Option Addr) (dn dc : Nat) (d : List Nat) (w0 w : World) (L : List (Nat × Array Value)) (R : List (Nat × Value × List Value)) (hv0 : Mem w0 w L R) (hd : (1, .slice da dn dc, cellsB d) ∈ R) (hx1 : -1000000000000 ≤ x) (hx2 : x ≤ 1000000000000) (hf1 : -1000000000000 ≤ fr) (hf2 : fr ≤ 1000000000000) (ht1 : -1000000000000 ≤ tt) (ht2 : tt ≤ 1000000000000) (hdn : dn ≤ 1000000) : Calls Try.prog 79 #[.agg #[.int .i64 x, .slice da dn dc], .int .i64 fr, .int .i64 tt] w (WithinR w0 L R (within (x, d) fr tt)) := by
 by_cases hp : x < fr <;> by_cases hq : tt < x + (dn : Int)
 · by_cases hle : tt ≤ fr
   · exact within_no11 x fr tt da dn dc d w0 w L R hv0 hd hx1 hx2 hf1 hf2 ht1 ht2 hdn hp hq hle
   · exact within_yes11 x fr tt da dn dc d w0 w L R hv0 hd hx1 hx2 hf1 hf2 ht1 ht2 hdn hp hq (by omega)
 · by_cases hle : (x + (dn : Int)) ≤ fr
   · exact within_no10 x fr tt da dn dc d w0 w L R hv0 hd hx1 hx2 hf1 hf2 ht1 ht2 hdn hp hq hle
   · exact within_yes10 x fr tt da dn dc d w0 w L R hv0 hd hx1 hx2 hf1 hf2 ht1 ht2 hdn hp hq (by omega)
 · by_cases hle : tt ≤ x
   · exact within_no01 x fr tt da dn dc d w0 w L R hv0 hd hx1 hx2 hf1 hf2 ht1 ht2 hdn hp hq hle
   · exact within_yes01 x fr tt da dn dc d w0 w L R hv0 hd hx1 hx2 hf1 hf2 ht1 ht2 hdn hp hq (by omega)
 · by_cases hle : (x + (dn : Int)) ≤ x
   · exact within_no00 x fr tt da dn dc d w0 w L R hv0 hd hx1 hx2 hf1 hf2 ht1 ht2 hdn hp hq hle
   · exact within_yes00 x fr tt da dn dc d w0 w L R hv0 hd hx1 hx2 hf1 hf2 ht1 ht2 hdn hp hq (by omega)
end Go.Proofs.Ythenepdbgeafkaa
end

section
/-
 The parts of a span that are in none of some: fresh.
-/
namespace Go.Proofs.Ythenepdbgeafkaa
open Go.Proofs.Wi Go.RowKit
theorem spOf_app (l l' : List SpV) : spOf (l ++ l') = spOf l ++ spOf l' := by simp [spOf]
def AddR (w0 : World) (bf bo bx : Nat) (fr : Int) (X : Array Value) (L : List (Nat × Array Value)) (R : List (Nat × Value × List Value)) (S : List SpV) (r : Option Sp) (e : Ending) (w' : World) : Prop :=
 ∃ (v : Value) (O : List (Nat × Array Value)) (S' : List SpV) (R' : List (Nat × Value × List Value)), e = .returned (.tuple #[]) ∧ Mem w0 w' ((bf, #[.int .i64 fr]) :: (bo, #[v]) :: (bx, X) :: (O ++ L)) (R' ++ R) ∧ OwnL 2 v (cellsS (S ++ S')) O ∧ spOf S' = r.toList ∧ AllS (R' ++ R) S' ∧ S'.length ≤ 1
theorem add_any (x fr tt : Int) (da : Option Addr) (dn dc : Nat) (d : List Nat) (bf bo bx : Nat) (v : Value) (O : List (Nat × Array Value)) (S : List SpV) (w0 w : World) (L : List (Nat × Array Value)) (R : List (Nat × Value × List Value)) (hv0 : Mem w0 w ((bf, #[.int .i64 fr]) :: (bo, #[v]) :: (bx, #[.int .i64 x, .slice da dn dc]) :: (O ++ L)) R) (hO : OwnL 2 v (cellsS S) O) (hS : S.length ≤ 5000) (hd : (1, .slice da dn dc, cellsB d) ∈ R) (hx1 : -1000000000000 ≤ x) (hx2 : x ≤ 1000000000000) (hf1 : -1000000000000 ≤ fr) (hf2 : fr ≤ 1000000000000) (ht1 : -1000000000000 ≤ tt) (ht2 : tt ≤ 1000000000000) (hdn : dn ≤ 1000000) :
   Calls Try.prog 82 #[.int .i64 tt, .pointer (some ⟨bx, 0, none⟩), .pointer (some ⟨bf, 0, none⟩), .pointer (some ⟨bo, 0, none⟩)] w (AddR w0 bf bo bx fr #[.int .i64 x, .slice da dn dc] L R S (within (x, d) fr tt)) := by
 have hv := hv0
 obtain ⟨va, vn, vc, rfl, _⟩ := id hO.slice
 have HO := Lib.hid hO
 have HD := Lib.hid hd
 have hsl : (cellsS S).length = S.length * 2 := cellsS_len S
 have kW0 := fun w' L' R' (h : Mem w0 w' L' R') h2 => within_any x fr tt da dn dc d w0 w' L' R' h h2 hx1 hx2 hf1 hf2 ht1 ht2 hdn
 cases hr : within (x, d) fr tt with
 | none =>
   rw [hr] at kW0
   have kW : ∀ w' L' R', Mem w0 w' L' R' → (1, .slice da dn dc, cellsB d) ∈ R' → Calls Try.prog 79 #[.agg #[.int .i64 x, .slice da dn dc], .int .i64 fr, .int .i64 tt] w' fun e w2 => e = .returned (.tuple #[.agg #[.int .i64 0, .slice none 0 0], .bool false]) ∧ Mem w0 w2 L' R' := kW0
   clear hv0 hO hS hd hx1 hx2 hf1 hf2 ht1 ht2 hdn hsl kW0 hr
   go_enter Try.func82, Try.ntmps82
   go_wp2_with (first
     | ((with_reducible refine gLd 92 ?_); refine ldV hv bx 2 Try.underlying92 infoSp ?_)
     | ((with_reducible refine gLd 3 ?_); refine ldC hv bf 0 _ Try.underlying3 ?_)
     | (go_at_call 79; (with_reducible refine (kW _ _ _ hv HD.out).mono ?_); rintro e w1 ⟨rfl, hv1⟩; replace hv := hv1; clear hv1)
     | ((with_reducible refine gAl 92 5 ?_); refine nwB hv #[.int .i64 0, .slice none 0 0] 92 ?_; clear hv; intro b5 w2 hv)
     | ((with_reducible refine gSt 92 ?_); refine stV hv b5 2 infoSp ?_; clear hv; intro w2 hv))
   go_end0
   exact ⟨_, O, [], [], rfl, hv.drop, by rw [List.append_nil]; exact HO.out, rfl, fun p hp => (List.not_mem_nil hp).elim, Nat.zero_le _⟩
 | some y =>
   rw [hr] at kW0
   obtain ⟨y1, yd⟩ := y
   have kW : ∀ w' L' R', Mem w0 w' L' R' → (1, .slice da dn dc, cellsB d) ∈ R' → Calls Try.prog 79 #[.agg #[.int .i64 x, .slice da dn dc], .int .i64 fr, .int .i64 tt] w' fun e w2 => ∃ ao n cap, e = .returned (.tuple #[.agg #[.int .i64 y1, .slice ao n cap], .bool true]) ∧ Mem w0 w2 L' ((1, .slice ao n cap, cellsB yd) :: R') := kW0
   have hB0 : Hid (∀ (ya : Option Addr) (yn yc : Nat), ∀ z ∈ ([.int .i64 y1, .slice ya yn yc] : List Value), z.oneCell' = true) := Lib.hid (fun ya yn yc z hz => by
     rcases List.mem_cons.1 hz with rfl | hz
     · rfl
     · rw [List.mem_singleton.1 hz]; rfl)
   have hB1 : Hid (((cellsS S).length + 2) / 2 ≤ maxLen) := Lib.hid (by rw [hsl]; unfold maxLen; omega)
   have hB2 : Hid (((cellsS S).length + 2) / 2 * 32 ≤ 140737488355328) := Lib.hid (by rw [hsl]; omega)
   clear hv0 hO hS hd hx1 hx2 hf1 hf2 ht1 ht2 hdn hsl kW0 hr
   go_enter Try.func82, Try.ntmps82
   go_wp2_with (first
     | ((with_reducible refine gLd 92 ?_); refine ldV hv bx 2 Try.underlying92 infoSp ?_)
     | ((with_reducible refine gLd 3 ?_); refine ldC hv bf 0 _ Try.underlying3 ?_)
     | (go_at_call 79; (with_reducible refine (kW _ _ _ hv HD.out).mono ?_); rintro e w1 ⟨ya, yn, yc, rfl, hv1⟩; replace hv := hv1; clear hv1)
     | ((with_reducible refine gAl 92 5 ?_); refine nwB hv #[.int .i64 0, .slice none 0 0] 92 ?_; clear hv; intro b5 w2 hv)
     | ((with_reducible refine gSt 92 ?_); refine stV hv b5 2 infoSp ?_; clear hv; intro w2 hv)
     | ((with_reducible refine gLd 92 ?_); refine ldV hv b5 2 Try.underlying92 infoSp ?_)
     | ((with_reducible refine gLd 89 ?_); refine ldC hv bo 0 _ Try.underlying89 ?_)
     | ((with_reducible refine at_append (t := 89) ?_); replace hv := hv.bsl' (k := 2) (n := 1) (c := [.int .i64 y1, .slice ya yn yc]) ⟨rfl, made_alloc _ #[.int .i64 y1, .slice ya yn yc] 92⟩ rfl rfl (by unfold maxLen; omega); refine wl_appO (A := [_, _, _, _]) (B := L) rfl rfl HO.out hv (.agg #[.int .i64 0, .slice none 0 0]) 32 Try.underlying89 infoSpz rfl (by decide) rfl (hv.rd Mem.z) (hB0.out _ _ _) hB1.out hB2.out ?_; intro v2 w7 O2 hO2 hv1; replace hv := hv1; clear hv1; obtain ⟨ua, un, uc, rfl, _⟩ := id hO2.slice; replace hO2 := Lib.hid hO2; simp only [List.cons_append, List.nil_append] at hv)
     | ((with_reducible refine gSt 89 ?_); refine stC hv bo 0 (.slice ua un uc) ?_; clear hv; intro w2 hv))
   go_end0
   exact ⟨_, O2, [(y1, .slice ya yn yc, yd)], [_, _], rfl, hv.drop, by rw [cellsS_snoc]; exact hO2.out, rfl, fun p hp => by rw [List.mem_singleton.1 hp]; exact Mem.s Mem.z, Nat.le_refl _⟩
end Go.Proofs.Ythenepdbgeafkaa
end

section
/-
 fresh: the loop.
-/
namespace Go.Proofs.Ythenepdbgeafkaa
open Go.Proofs.Wi Go.RowKit
def FreshR (w0 : World) (L : List (Nat × Array Value)) (R : List (Nat × Value × List Value)) (m : Nat) (c : List Sp) (e : Ending) (w' : World) : Prop :=
 ∃ ao n cap S R', e = .returned (.slice ao n cap) ∧ Mem w0 w' L ((2, .slice ao n cap, cellsS S) :: (R' ++ R)) ∧ spOf S = c ∧ AllS (R' ++ R) S ∧ S.length ≤ m
theorem fresh_any (x : Int) (da : Option Addr) (dn dc : Nat) (d : List Nat) (ha : Option Addr) (hn hc : Nat) (H : List SpV) (w0 w : World) (L : List (Nat × Array Value)) (R : List (Nat × Value × List Value)) (hv0 : Mem w0 w L R) (hd : (1, .slice da dn dc, cellsB d) ∈ R) (hh : (2, .slice ha hn hc, cellsS H) ∈ R) (hal : AllS R H) (hHl : hn ≤ 1000) (hb : ∀ p ∈ H, -1000000000000 ≤ p.1 ∧ p.1 ≤ 900000000000 ∧ p.2.2.length ≤ 1000000) (hx1 : -1000000000000 ≤ x) (hx2 : x ≤ 900000000000) (hdn : dn ≤ 1000000) :
   Calls Try.prog 80 #[.agg #[.int .i64 x, .slice da dn dc], .slice ha hn hc] w (FreshR w0 L R (hn + 1) (fresh (x, d) x (spOf H))) := by
 have hv := hv0
 have HD := Lib.hid hd
 have HH := Lib.hid hh
 have HAL := Lib.hid hal
 have HB := Lib.hid hb
 have HLN := Lib.hid (len_rdS (hv0.rd hh))
 have HDN := Lib.hid (len_rd1 (hv0.rd hd))
 have HX : Hid (-1000000000000 ≤ x ∧ x ≤ 1000000000000 ∧ dn ≤ 1000000) := Lib.hid ⟨hx1, by omega, hdn⟩
 have kE := fun w' => end_any x da dn dc (by omega) (by omega) hdn w'
 obtain ⟨c, hc0⟩ : ∃ c, fresh (x, d) x (spOf H) = c := ⟨_, rfl⟩
 rw [hc0]
 have HC := Lib.hid hc0
 clear hv0 hd hh hal hb hdn hc0
 go_enter Try.func80, Try.ntmps80
 go_wp2_with (first
   | ((with_reducible refine gBx 92 2 ?_); refine nwB hv #[.int .i64 x, .slice da dn dc] 92 ?_; clear hv; intro b2 w2 hv)
   | ((with_reducible refine gAl 89 5 ?_); refine nwB hv #[.slice none 0 0] 89 ?_; clear hv; intro b5 w2 hv)
   | ((with_reducible refine gAl 3 6 ?_); refine nwB hv #[.int .i64 0] 3 ?_; clear hv; intro b6 w2 hv)
   | ((with_reducible refine gLd 3 ?_); refine ldC hv b2 0 _ Try.underlying3 ?_)
   | ((with_reducible refine gSt 3 ?_); refine stC hv b6 0 (.int .i64 x) ?_; clear hv; intro w2 hv))
 go_loopw [15] (fun i wr => ∃ (k : Nat) (fr : Int) (v : Value) (O : List (Nat × Array Value)) (S : List SpV) (R' : List (Nat × Value × List Value)), k ≤ hn ∧ i = .int .i64 k ∧ Mem w0 wr ((b6, #[.int .i64 fr]) :: (b5, #[v]) :: (b2, #[.int .i64 x, .slice da dn dc]) :: (O ++ L)) (R' ++ R) ∧ Hid (OwnL 2 v (cellsS S) O) ∧ Hid (AllS (R' ++ R) S) ∧ Hid (S.length ≤ k) ∧ Hid (spOf S ++ fresh (x, d) fr (spOf (H.drop k)) = c) ∧ Hid (-1000000000000 ≤ fr ∧ fr ≤ 1000000000000)) (fun i _ => hn - (intOf i).toNat)
 case atStart => exact ⟨0, x, _, [], [], [], Nat.zero_le _, rfl, hv, Lib.hid (OwnL.nil 2), Lib.hid (fun p hp => (List.not_mem_nil hp).elim), Lib.hid (Nat.zero_le _), Lib.hid HC.out, Lib.hid ⟨hx1, by omega⟩⟩
 case round =>
   clear hv
   obtain ⟨k, fr, v, O, S, R', hk, rfl, hv, HO, HAS, HSK, HEQ, HFR⟩ := hrel
   obtain ⟨va, vn, vc, rfl, _⟩ := id HO.out.slice
   have HS5 : Hid (S.length ≤ 5000) := Lib.hid (by have := HSK.out; omega)
   have HDR : Hid ((1, .slice da dn dc, cellsB d) ∈ R' ++ R) := Lib.hid (List.mem_append_right _ HD.out)
   have HHR : Hid ((2, .slice ha hn hc, cellsS H) ∈ R' ++ R) := Lib.hid (List.mem_append_right _ HH.out)
   by_cases hk2 : k < hn
   · have hki : (k : Int) < (hn : Int) := by omega
     have hkl : k < H.length := by rw [HLN.out]; exact hk2
     obtain ⟨⟨hx, dv, ed⟩, hxe⟩ : ∃ z, H[k] = z := ⟨_, rfl⟩
     have hdm := HAL.out H[k] (List.getElem_mem hkl)
     have hbm := HB.out H[k] (List.getElem_mem hkl)
     rw [hxe] at hdm hbm
     simp only at hdm hbm
     obtain ⟨ea, en, ec, rfl, _⟩ := id (hv.rd (List.mem_append_right _ hdm))
     have hen : ed.length = en := len_rd1 (hv.rd (List.mem_append_right _ hdm))
     have HK : Hid (((cellsS H).drop (k * 2)).take 2 = [.int .i64 hx, .slice ea en ec]) := Lib.hid (by rw [cellsS_part H k hkl, hxe])
     have HDK := Lib.hid (spOf_drop H hkl hxe)
     obtain ⟨hb1, ho1, _, _, e, _⟩ := (hv.rd HHR.out).some (by rw [cellsS_len]; omega)
     cases e
     have HTT : Hid (-1000000000000 ≤ hx ∧ hx ≤ 1000000000000) := Lib.hid ⟨hbm.1, by omega⟩
     have HEN := Lib.hid hen
     have EN1 : Hid (∀ w', Calls Try.prog 65 #[.agg #[.int .i64 hx, .slice ea en ec]] w' fun e w2 => e = .returned (.int .i64 (hx + (en : Int))) ∧ New w' w2) := Lib.hid (fun w' => end_any hx ea en ec (by omega) (by omega) (by omega) w')
     have HBE : Hid (-1000000000000 ≤ hx + (en : Int) ∧ hx + (en : Int) ≤ 1000000000000) := Lib.hid (by omega)
     have HKN : Hid (k < hn) := Lib.hid hk2
     have HKB : Hid (k ≤ 1000) := Lib.hid (by omega)
     clear hxe hdm hbm hkl hen hk2 hk
     go_wp2_with (first
       | ((with_reducible refine at_load (T := 92) ?_); refine wl_rdv rfl (hv.rd HHR.out) (k * 2) rfl 2 _ Try.underlying92 rfl infoSp (by decide) #[.int .i64 hx, .slice ea en ec] HK.out rfl ?_)
       | ((with_reducible refine gAl 92 9 ?_); refine nwB hv #[.int .i64 0, .slice none 0 0] 92 ?_; clear hv; intro b9 w2 hv)
       | ((with_reducible refine gSt 92 ?_); refine stV hv b9 2 infoSp ?_; clear hv; intro w2 hv)
       | ((with_reducible refine gLd 3 ?_); refine ldC hv b9 0 _ Try.underlying3 ?_)
       | (go_at_call 82; (refine (add_any x fr hx da dn dc d b6 b5 b2 (.slice va vn vc) O S w0 _ ((b9, #[.int .i64 hx, .slice ea en ec]) :: L) _ (hv.perm (perm4 _ _ _ _ O L)) HO.out HS5.out HDR.out HX.out.1 HX.out.2.1 HFR.out.1 HFR.out.2 HTT.out.1 HTT.out.2 HX.out.2.2).mono ?_); rintro e w7 ⟨v2, O2, S2, R2, rfl, hv1, hO2, hs2, ha2, hl2⟩; replace hv := hv1.perm (perm4 (b9, #[.int .i64 hx, .slice ea en ec]) _ _ _ O2 L).symm; clear hv1; obtain ⟨ua, un, uc, rfl, _⟩ := id hO2.slice; have HO2 := Lib.hid hO2; have HS2 := Lib.hid hs2; have HA2 := Lib.hid ha2; have HL2 := Lib.hid hl2; clear hO2 hs2 ha2 hl2))
     have HEQ2 : Hid (spOf (S ++ S2) ++ fresh (x, d) (max fr (hx + (en : Int))) (spOf (H.drop (k + 1))) = c) := Lib.hid (by
       have := HEQ.out
       rw [HDK.out] at this
       unfold fresh at this
       simp only [HEN.out] at this
       rw [spOf_app, HS2.out, List.append_assoc]
       exact this)
     have HAS2 : Hid (AllS ((R2 ++ R') ++ R) (S ++ S2)) := Lib.hid (fun p hp => by
       rw [List.append_assoc]
       rcases List.mem_append.1 hp with hp | hp
       · exact List.mem_append_right _ (HAS.out p hp)
       · exact HA2.out p hp)
     have HSK2 : Hid ((S ++ S2).length ≤ k + 1) := Lib.hid (by rw [List.length_append]; have := HSK.out; have := HL2.out; omega)
     rw [← List.append_assoc] at hv
     by_cases hm : fr < hx + (en : Int)
     · have hmx : max fr (hx + (en : Int)) = hx + (en : Int) := by omega
       rw [hmx] at HEQ2
       have hmg : hx + (en : Int) > fr := hm
       clear hmx
       refine Any.wr4 5 [(0, [1001], none), (1, [1000], none), (4, [1001], some 1001)] [(4, .put)] hv ?_
       simp only [Any.someVals]
       iterate 5 apply Exists.intro
       repeat ((first
        | refine Any.E_off rfl ?_
        | ((with_reducible refine Any.gE 3 ?_); refine Any.eC 1001 _ Try.underlying3 ?_)
        | ((with_reducible refine Any.gE 92 ?_); refine Any.eW 1000 2 Try.underlying92 infoSp ?_)
        | (apply Any.E_val rfl rfl rfl rfl
           case h =>
            intro E' hA K hK
            first
             | (go_big_quiet_op; first
                | (refine hK _ ?_; rfl)
                | (refine ⟨_, fun _ _ => rfl, ?_⟩; refine hK _ ?_; rfl)
                | (apply Exists.intro; refine ⟨fun w1 hw1 => ?_, ?_⟩; · (first
                    | (go_at_call 65; exact Any.calls_VE (EN1.out _) hw1))
                   refine hK _ ?_; rfl))
           case hD => rfl)
        | ((with_reducible refine Any.at_estore (T := 3) ?_); refine Any.E_putc (T := 3) rfl rfl rfl rfl rfl rfl (by kernel_rfl) rfl (by simp) ?_)); simp only [Act.put, sia, scs, scz])
       try any_goals exact undef
       refine Any.fin4 hv [1000, 1001, 1002, 1003] ?_; clear hv; intro w9 hv
       go_wp2
       have hkb := HKB.out
       go_roundw
       case rel => exact ⟨k + 1, hx + (en : Int), _, O2, S ++ S2, R2 ++ R', by have := HKN.out; omega, by go_num, hv.drop, HO2, HAS2, HSK2, HEQ2, HBE⟩
       case measure => simp [intOf]; have := HKN.out; omega
     · have hmx : max fr (hx + (en : Int)) = fr := by omega
       rw [hmx] at HEQ2
       have hmg : ¬ hx + (en : Int) > fr := by omega
       clear hmx
       refine Any.wr4 5 [(0, [1001], none), (1, [1000], none), (4, [1001], some 1001)] [(4, .put)] hv ?_
       simp only [Any.someVals]
       iterate 5 apply Exists.intro
       repeat ((first
        | refine Any.E_off rfl ?_
        | ((with_reducible refine Any.gE 3 ?_); refine Any.eC 1001 _ Try.underlying3 ?_)
        | ((with_reducible refine Any.gE 92 ?_); refine Any.eW 1000 2 Try.underlying92 infoSp ?_)
        | (apply Any.E_val rfl rfl rfl rfl
           case h =>
            intro E' hA K hK
            first
             | (go_big_quiet_op; first
                | (refine hK _ ?_; rfl)
                | (refine ⟨_, fun _ _ => rfl, ?_⟩; refine hK _ ?_; rfl)
                | (apply Exists.intro; refine ⟨fun w1 hw1 => ?_, ?_⟩; · (first
                    | (go_at_call 65; exact Any.calls_VE (EN1.out _) hw1))
                   refine hK _ ?_; rfl))
           case hD => rfl)
        | ((with_reducible refine Any.at_estore (T := 3) ?_); refine Any.E_putc (T := 3) rfl rfl rfl rfl rfl rfl (by kernel_rfl) rfl (by simp) ?_)); simp only [Act.put, sia, scs, scz])
       try any_goals exact undef
       refine Any.fin4 hv [1000, 1001, 1002, 1003] ?_; clear hv; intro w9 hv
       go_wp2
       have hkb := HKB.out
       go_roundw
       case rel => exact ⟨k + 1, fr, _, O2, S ++ S2, R2 ++ R', by have := HKN.out; omega, by go_num, hv.drop, HO2, HAS2, HSK2, HEQ2, HFR⟩
       case measure => simp [intOf]; have := HKN.out; omega
   · have hki : ¬ (k : Int) < (hn : Int) := by omega
     have HTT : Hid (-1000000000000 ≤ x + (dn : Int) ∧ x + (dn : Int) ≤ 1000000000000) := Lib.hid (by have := HX.out.2.2; omega)
     have HDK : Hid (H.drop k = []) := Lib.hid (List.drop_eq_nil_of_le (by rw [HLN.out]; omega))
     have HSK3 : Hid (k = hn) := Lib.hid (by omega)
     clear hk hk2
     go_wp2_with (first
       | ((with_reducible refine gLd 92 ?_); refine ldV hv b2 2 Try.underlying92 infoSp ?_)
       | (go_at_call 65; (with_reducible refine (kE _).mono ?_); rintro e w1 ⟨rfl, hn1⟩; replace hv := hv.new hn1; clear hn1)
       | (go_at_call 82; (refine (add_any x fr (x + (dn : Int)) da dn dc d b6 b5 b2 (.slice va vn vc) O S w0 _ L _ hv HO.out HS5.out HDR.out HX.out.1 HX.out.2.1 HFR.out.1 HFR.out.2 HTT.out.1 HTT.out.2 HX.out.2.2).mono ?_); rintro e w7 ⟨v2, O2, S2, R2, rfl, hv1, hO2, hs2, ha2, hl2⟩; replace hv := hv1; clear hv1; obtain ⟨ua, un, uc, rfl, _⟩ := id hO2.slice; have HO2 := Lib.hid hO2; have HS2 := Lib.hid hs2; have HA2 := Lib.hid ha2; have HL2 := Lib.hid hl2; clear hO2 hs2 ha2 hl2)
       | ((with_reducible refine gLd 89 ?_); refine ldC hv b5 0 _ Try.underlying89 ?_))
     go_ret
     refine ⟨_, _, _, S ++ S2, R2 ++ R', rfl, ?_, ?_, ?_, ?_⟩
     · rw [List.append_assoc]
       exact HO2.out.yield (A := []) (B := L) (by rw [List.nil_append]; exact hv.drop.drop.drop)
     · have := HEQ.out
       rw [HDK.out] at this
       unfold fresh at this
       rw [spOf_app, HS2.out, ← HDN.out]
       exact this
     · intro p hp
       rw [List.append_assoc]
       rcases List.mem_append.1 hp with hp | hp
       · exact List.mem_append_right _ (HAS.out p hp)
       · exact HA2.out p hp
     · rw [List.length_append]
       have := HSK.out
       have := HL2.out
       have := HSK3.out
       omega
end Go.Proofs.Ythenepdbgeafkaa
end
