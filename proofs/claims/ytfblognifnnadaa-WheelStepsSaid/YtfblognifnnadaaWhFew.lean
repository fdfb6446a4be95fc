/-
  A wheel in memory; is it not great: the reference's Few.
-/
import Derived.Test.YtfblognifnnadaaWhRef
set_option linter.unusedVariables false
set_option linter.unusedSimpArgs false
namespace Go.Proofs.Wh
open Go Go.RowKit
/-- A wheel's cells: the time, eight slices. -/
def rowW (now : Nat) (sv : List Value) : Array Value := (Value.int .u64 (now : Nat) :: sv).toArray
theorem rowW_get {now : Nat} {sv : List Value} {i : Nat} {v : Value} (h : sv[i]? = some v) : (rowW now sv)[1 + i]? = some v := by
  unfold rowW
  rw [List.getElem?_toArray, Nat.add_comm, List.getElem?_cons_succ]; exact h
def encT (t : Tm) : List Value := [.int .u64 (t.1 : Nat), .int .i64 t.2]
def cellsT (l : List Tm) : List Value := l.flatMap encT
theorem cellsT_len (l : List Tm) : (cellsT l).length = l.length * 2 := len_flat (en := encT) (fun _ => rfl) l
/-- The slices read the slots. -/
def InW (R : List (Nat × Value × List Value)) (sv : List Value) (S : List (List Tm)) : Prop := sv.length = 8 ∧ S.length = 8 ∧ ∀ (i : Nat) (v : Value) (l : List Tm), sv[i]? = some v → S[i]? = some l → (2, v, cellsT l) ∈ R
def fewW (S : List (List Tm)) : Bool := S.all fun l => decide (l.length ≤ 60)
theorem len_rdT {w : World} {a : Option Addr} {n c : Nat} {l : List Tm} (h : Rd w 2 (.slice a n c) (cellsT l)) : l.length = n := by
  obtain ⟨_, _, _, e, g, _⟩ := h
  cases e
  rw [cellsT_len] at g; omega
end Go.Proofs.Wh
namespace Go.Proofs.Ytfblognifnnadaa
open Go.Proofs.Wh Go.RowKit
set_option maxRecDepth 100000 in
set_option maxHeartbeats 4000000 in
theorem WFew_any (now : Nat) (sv : List Value) (S : List (List Tm)) (w0 w : World) (L : List (Nat × Array Value)) (R : List (Nat × Value × List Value)) (hv0 : Mem w0 w L R) (hi : InW R sv S) : Calls Try.prog 6 #[.agg (rowW now sv)] w fun e w' => e = .returned (.bool (fewW S)) ∧ New w w' := by
  have hv : Mem w w [] R := ⟨Vars.nil w, fun x hx => ⟨(hv0.rds x hx).1, fun _ _ _ _ _ _ p hp => (List.not_mem_nil hp).elim⟩⟩
  have HI := Lib.hid hi
  obtain ⟨c, hc⟩ : ∃ c, fewW S = c := ⟨_, rfl⟩
  rw [hc]
  have HC := Lib.hid hc
  clear hi hv0 hc
  go_enter Try.func6, Try.ntmps6
  go_wp2_with (first
    | ((with_reducible refine at_box (T := 26) (dst := some 1) ?_); refine wl_newb rfl (rowW now sv) 26 (fun _ => rfl) ?_; intro b1 w2 hm2; replace hv := hv.madeAt hm2; clear hm2))
  go_loopw [3] (fun iv wr => ∃ i : Nat, i ≤ 8 ∧ iv = .int .i64 (i : Nat) ∧ Mem w wr [(b1, rowW now sv)] R ∧ Hid (fewW (S.drop i) = c)) (fun iv _ => 8 - (intOf iv).toNat)
  case atStart => exact ⟨0, Nat.zero_le _, rfl, hv, Lib.hid (by rw [List.drop_zero]; exact HC.out)⟩
  case round =>
    clear hv
    obtain ⟨i, hi0, rfl, hv, HO⟩ := hrel
    by_cases hi : i < 8
    · have hki : (i : Int) < 8 := by omega
      have hsi : i < sv.length := by rw [HI.out.1]; exact hi
      have hSi : i < S.length := by rw [HI.out.2.1]; exact hi
      obtain ⟨l, hl⟩ : ∃ l, S[i] = l := ⟨_, rfl⟩
      have hm := HI.out.2.2 i sv[i] S[i] (List.getElem?_eq_getElem hsi) (List.getElem?_eq_getElem hSi)
      obtain ⟨v, hvv⟩ : ∃ v, sv[i] = v := ⟨_, rfl⟩
      have hg := rowW_get (now := now) (List.getElem?_eq_getElem hsi)
      rw [hvv, hl] at hm
      rw [hvv] at hg
      obtain ⟨sa, sn, sc, rfl, _⟩ := id (hv.rd hm)
      have hln := len_rdT (hv.rd hm)
      have HG := Lib.hid hg
      have HD : Hid (S.drop i = l :: S.drop (i + 1)) := Lib.hid (by rw [List.drop_eq_getElem_cons hSi, hl])
      have HK := Lib.hid hi
      by_cases h6 : 60 < sn
      · have y1 : decide ((60 : Int) < (sn : Int)) = true := decide_eq_true (by omega)
        have y2 : (60 : Int) < (sn : Int) := by omega
        have HO2 : Hid (false = c) := Lib.hid (by
          have := HO.out
          rw [HD.out] at this
          unfold fewW at this
          rw [List.all_cons, decide_eq_false (by omega), Bool.false_and] at this
          exact this)
        clear hsi hSi hl hm hvv hg hln hi hi0 h6
        go_wp2_with (first
          | ((with_reducible refine at_load (T := 23) ?_); refine wl_ldc rfl b1 (1 + i) rfl _ (hv.vars.row (by first | exact .head _ | exact .tail _ (.head _) | exact .tail _ (.tail _ (.head _)) | exact .tail _ (.tail _ (.tail _ (.head _))) | exact .tail _ (.tail _ (.tail _ (.tail _ (.head _)))) | exact .tail _ (.tail _ (.tail _ (.tail _ (.tail _ (.head _))))) | exact .tail _ (.tail _ (.tail _ (.tail _ (.tail _ (.tail _ (.head _)))))) | exact .tail _ (.tail _ (.tail _ (.tail _ (.tail _ (.tail _ (.tail _ (.head _))))))))) _ Try.underlying23 rfl (.slice sa sn sc) HG.out ?_))
        go_ret
        exact ⟨congrArg (fun b => Ending.returned (.bool b)) HO2.out, hv.below⟩
      · have y1 : decide ((60 : Int) < (sn : Int)) = false := decide_eq_false (by omega)
        have y2 : ¬ (60 : Int) < (sn : Int) := by omega
        have HO2 : Hid (fewW (S.drop (i + 1)) = c) := Lib.hid (by
          have := HO.out
          rw [HD.out] at this
          unfold fewW at this
          rw [List.all_cons, decide_eq_true (by omega), Bool.true_and] at this
          exact this)
        clear hsi hSi hl hm hvv hg hln hi hi0 h6
        go_wp2_with (first
          | ((with_reducible refine at_load (T := 23) ?_); refine wl_ldc rfl b1 (1 + i) rfl _ (hv.vars.row (by first | exact .head _ | exact .tail _ (.head _) | exact .tail _ (.tail _ (.head _)) | exact .tail _ (.tail _ (.tail _ (.head _))) | exact .tail _ (.tail _ (.tail _ (.tail _ (.head _)))) | exact .tail _ (.tail _ (.tail _ (.tail _ (.tail _ (.head _))))) | exact .tail _ (.tail _ (.tail _ (.tail _ (.tail _ (.tail _ (.head _)))))) | exact .tail _ (.tail _ (.tail _ (.tail _ (.tail _ (.tail _ (.tail _ (.head _))))))))) _ Try.underlying23 rfl (.slice sa sn sc) HG.out ?_))
        have hkn := HK.out
        go_roundw
        case rel => exact ⟨i + 1, by omega, by go_num, hv, HO2⟩
        case measure => simp [intOf]; omega
    · have hki : ¬ (i : Int) < 8 := by omega
      have HO2 : Hid (true = c) := Lib.hid (by
        have := HO.out
        rw [List.drop_eq_nil_of_le (by rw [HI.out.2.1]; omega)] at this
        exact this)
      clear hi hi0
      go_wp2
      go_ret
      exact ⟨congrArg (fun b => Ending.returned (.bool b)) HO2.out, hv.below⟩
end Go.Proofs.Ytfblognifnnadaa
