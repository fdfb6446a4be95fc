/-
  Streams and spans in memory: the walks of Diff, end, spans, Check, Room.
-/
import Derived.Test.YtpbeemgigpaacaaOwl
import Derived.Test.YtpbeemgigpaacaaWiPlain3
import Derived.Test.YtpbeemgigpaacaaProg
import Derived.WalkMore
import Derived.Laws.Cover3
set_option linter.unusedVariables false
set_option linter.unusedSimpArgs false
namespace Go.Proofs.Wi
open Go Go.RowKit
def cellsB (l : List Nat) : List Value := l.map fun n => Value.int .u8 (n : Nat)
theorem cellsB_len (l : List Nat) : (cellsB l).length = l.length := by simp [cellsB]
theorem cellsB_one (l : List Nat) : ∀ x ∈ cellsB l, x.oneCell' = true := by
  intro x hx
  obtain ⟨n, _, rfl⟩ := List.mem_map.1 hx; rfl
/-- A piece, a span: with the slice that holds its bytes. -/
abbrev PcV := Nat × Value × List Nat
abbrev SpV := Int × Value × List Nat
def encP (p : PcV) : List Value := [.int .u32 (p.1 : Nat), p.2.1]
def encS (p : SpV) : List Value := [.int .i64 p.1, p.2.1]
def cellsP (l : List PcV) : List Value := l.flatMap encP
def cellsS (l : List SpV) : List Value := l.flatMap encS
theorem flat_len {α : Type} {enc : α → List Value} {k : Nat} (h : ∀ x, (enc x).length = k) (l : List α) : (l.flatMap enc).length = l.length * k := by
  induction l with
  | nil => simp
  | cons x r ih => rw [List.flatMap_cons, List.length_append, h, ih, List.length_cons, Nat.add_mul]; omega
theorem flat_part {α : Type} {enc : α → List Value} {k : Nat} (h : ∀ x, (enc x).length = k) : ∀ (l : List α) (i : Nat) (hi : i < l.length), ((l.flatMap enc).drop (i * k)).take k = enc l[i] := by
  intro l
  induction l with
  | nil => intro i hi; simp at hi
  | cons x r ih =>
    intro i hi
    rw [List.flatMap_cons]
    cases i with
    | zero => rw [Nat.zero_mul, List.drop_zero, List.take_left' (h x)]; rfl
    | succ i =>
      have e : (i + 1) * k = (enc x).length + i * k := by rw [h, Nat.add_mul]; omega
      rw [e, ← List.drop_drop, List.drop_left' rfl, ih i (by simpa using hi)]; rfl
theorem cellsP_len (l : List PcV) : (cellsP l).length = l.length * 2 := flat_len (enc := encP) (fun _ => rfl) l
theorem cellsS_len (l : List SpV) : (cellsS l).length = l.length * 2 := flat_len (enc := encS) (fun _ => rfl) l
theorem cellsP_part (l : List PcV) (i : Nat) (hi : i < l.length) : ((cellsP l).drop (i * 2)).take 2 = [.int .u32 (l[i].1 : Nat), l[i].2.1] := flat_part (enc := encP) (fun _ => rfl) l i hi
theorem cellsS_part (l : List SpV) (i : Nat) (hi : i < l.length) : ((cellsS l).drop (i * 2)).take 2 = [.int .i64 l[i].1, l[i].2.1] := flat_part (enc := encS) (fun _ => rfl) l i hi
theorem cellsS_snoc (l : List SpV) (x : SpV) : cellsS (l ++ [x]) = cellsS l ++ [.int .i64 x.1, x.2.1] := by simp [cellsS, encS]
theorem cellsP_snoc (l : List PcV) (x : PcV) : cellsP (l ++ [x]) = cellsP l ++ [.int .u32 (x.1 : Nat), x.2.1] := by simp [cellsP, encP]
/-- Their bytes are read. -/
def AllP (R : List (Nat × Value × List Value)) (l : List PcV) : Prop := ∀ p ∈ l, (1, p.2.1, cellsB p.2.2) ∈ R
def AllS (R : List (Nat × Value × List Value)) (l : List SpV) : Prop := ∀ p ∈ l, (1, p.2.1, cellsB p.2.2) ∈ R
theorem AllS.mono {R R' : List (Nat × Value × List Value)} {l : List SpV} (h : AllS R l) (hs : ∀ x ∈ R, x ∈ R') : AllS R' l := fun p hp => hs _ (h p hp)
theorem AllP.mono {R R' : List (Nat × Value × List Value)} {l : List PcV} (h : AllP R l) (hs : ∀ x ∈ R, x ∈ R') : AllP R' l := fun p hp => hs _ (h p hp)
def spOf (l : List SpV) : List Sp := l.map fun p => (p.1, p.2.2)
def spV (next : Nat) (l : List PcV) : List SpV := l.map fun p => (dif p.1 next, p.2.1, p.2.2)
def stOf (next : Nat) (b : List Nat) (l : List PcV) : St := ⟨next, b, l.map fun p => (p.1, p.2.2)⟩
theorem spOf_spV (next : Nat) (b : List Nat) (l : List PcV) : spOf (spV next l) = spans (stOf next b l) := by simp [spOf, spV, spans, stOf]
theorem spV_all {R : List (Nat × Value × List Value)} {next : Nat} {l : List PcV} (h : AllP R l) : AllS R (spV next l) := fun p hp => by
  obtain ⟨x, hx, rfl⟩ := List.mem_map.1 hp
  exact h x hx
theorem dif_lo (a b : Nat) : -2147483648 ≤ dif a b := by unfold dif; split <;> omega
theorem dif_hi (a b : Nat) : dif a b ≤ 2147483647 := by unfold dif; split <;> omega
theorem len_rd1 {w : World} {a : Option Addr} {n c : Nat} {d : List Nat} (h : Rd w 1 (.slice a n c) (cellsB d)) : d.length = n := by
  obtain ⟨_, _, _, e, g, _⟩ := h
  cases e
  rw [cellsB_len] at g; omega
theorem len_rdP {w : World} {a : Option Addr} {n c : Nat} {l : List PcV} (h : Rd w 2 (.slice a n c) (cellsP l)) : l.length = n := by
  obtain ⟨_, _, _, e, g, _⟩ := h
  cases e
  rw [cellsP_len] at g; omega
theorem len_rdS {w : World} {a : Option Addr} {n c : Nat} {l : List SpV} (h : Rd w 2 (.slice a n c) (cellsS l)) : l.length = n := by
  obtain ⟨_, _, _, e, g, _⟩ := h
  cases e
  rw [cellsS_len] at g; omega
end Go.Proofs.Wi
namespace Go.Proofs.Ytpbeemgigpaacaa
open Go.Proofs.Wi Go.RowKit
theorem infoSp : (Try.prog.info? 51).map (·.size) = some 2 := by kernel_rfl
theorem infoPc : (Try.prog.info? 45).map (·.size) = some 2 := by kernel_rfl
theorem infoStr : (Try.prog.info? 26).map (·.size) = some 3 := by kernel_rfl
theorem infoSpz : (Try.prog.info? 51).map (fun i => (i.zero, i.size, i.bytes)) = some (some (.agg #[.int .i64 0, .slice none 0 0]), 2, 32) := by kernel_rfl
theorem ret_i {a b : Int} (h : a = b) : Ending.returned (.int .i64 a) = .returned (.int .i64 b) := by rw [h]
theorem built_sp (x : Int) (a : Option Addr) (n c : Nat) : Try.prog.built 51 [(0, .int .i64 x), (1, .slice a n c)] = some #[.int .i64 x, .slice a n c] := by kernel_rfl
theorem Diff_any (a b : Nat) (w : World) : Calls Try.prog 22 #[.int .u32 (a : Nat), .int .u32 (b : Nat)] w fun e w' => e = .returned (.int .i64 (dif a b)) ∧ w = w' := by
  go_enter Try.func22, Try.ntmps22
  go_wp2
  go_ret
  refine ⟨ret_i ?_, rfl⟩
  simp [IntKind.wrap, IntKind.bits, IntKind.signed, dif, wrap32, wrap64]
  omega
theorem RDiff_any (a b : Nat) (ha : a < 4294967296) (hb : b < 4294967296) (w : World) : Calls Try.prog 19 #[.int .u32 (a : Nat), .int .u32 (b : Nat)] w fun e w' => e = .returned (.int .i64 (dif a b)) ∧ w = w' := by
  have q0 : IntKind.i64.wrap (a : Int) = (a : Int) := IntWalk.i64_in _ (by omega)
  have q1 : IntKind.i64.wrap (b : Int) = (b : Int) := IntWalk.i64_in _ (by omega)
  have q2 : IntKind.i64.wrap ((a : Int) - (b : Int)) = (a : Int) - (b : Int) := IntWalk.i64_in _ (by omega)
  by_cases h1 : (2147483648 : Int) ≤ (a : Int) - (b : Int)
  · have q3 : IntKind.i64.wrap ((a : Int) - (b : Int) - 4294967296) = (a : Int) - (b : Int) - 4294967296 := IntWalk.i64_in _ (by omega)
    have e : dif a b = (a : Int) - (b : Int) - 4294967296 := by unfold dif; rw [if_neg (by omega)]; omega
    rw [e]
    clear ha hb e
    go_enter Try.func19, Try.ntmps19
    go_wp2
    go_ret
    exact ⟨rfl, rfl⟩
  · by_cases h2 : (a : Int) - (b : Int) < -2147483648
    · have q3 : IntKind.i64.wrap ((a : Int) - (b : Int) + 4294967296) = (a : Int) - (b : Int) + 4294967296 := IntWalk.i64_in _ (by omega)
      have e : dif a b = (a : Int) - (b : Int) + 4294967296 := by unfold dif; rw [if_pos (by omega)]; omega
      rw [e]
      clear ha hb e
      go_enter Try.func19, Try.ntmps19
      go_wp2
      go_ret
      exact ⟨rfl, rfl⟩
    · have e : dif a b = (a : Int) - (b : Int) := by unfold dif; split <;> omega
      rw [e]
      clear ha hb e
      go_enter Try.func19, Try.ntmps19
      go_wp2
      go_ret
      exact ⟨rfl, rfl⟩
theorem end_any (x : Int) (a : Option Addr) (n c : Nat) (h1 : -4611686018427387904 ≤ x) (h2 : x ≤ 4611686018427387904) (h3 : n ≤ 1000000) (w : World) : Calls Try.prog 27 #[.agg #[.int .i64 x, .slice a n c]] w fun e w' => e = .returned (.int .i64 (x + n)) ∧ New w w' := by
  have hv := Mem.nil w
  have q : IntKind.i64.wrap (x + (n : Int)) = x + (n : Int) := IntWalk.i64_in _ (by omega)
  clear h1 h2 h3
  go_enter Try.func27, Try.ntmps27
  go_wp2_with (first
    | ((with_reducible refine at_box (T := 51) (dst := some 1) ?_); refine wl_newb rfl #[.int .i64 x, .slice a n c] 51 (fun _ => rfl) ?_; intro b1 w2 hm2; replace hv := hv.madeAt hm2; clear hm2)
    | ((with_reducible refine at_load (T := 3) ?_); refine wl_ldc rfl _ _ rfl _ (hv.vars.row (by first | exact .head _ | exact .tail _ (.head _) | exact .tail _ (.tail _ (.head _)) | exact .tail _ (.tail _ (.tail _ (.head _))) | exact .tail _ (.tail _ (.tail _ (.tail _ (.head _)))) | exact .tail _ (.tail _ (.tail _ (.tail _ (.tail _ (.head _))))) | exact .tail _ (.tail _ (.tail _ (.tail _ (.tail _ (.tail _ (.head _)))))) | exact .tail _ (.tail _ (.tail _ (.tail _ (.tail _ (.tail _ (.tail _ (.head _))))))))) _ Try.underlying3 rfl _ rfl ?_)
    | ((with_reducible refine at_load (T := 23) ?_); refine wl_ldc rfl _ _ rfl _ (hv.vars.row (by first | exact .head _ | exact .tail _ (.head _) | exact .tail _ (.tail _ (.head _)) | exact .tail _ (.tail _ (.tail _ (.head _))) | exact .tail _ (.tail _ (.tail _ (.tail _ (.head _)))) | exact .tail _ (.tail _ (.tail _ (.tail _ (.tail _ (.head _))))) | exact .tail _ (.tail _ (.tail _ (.tail _ (.tail _ (.tail _ (.head _)))))) | exact .tail _ (.tail _ (.tail _ (.tail _ (.tail _ (.tail _ (.tail _ (.head _))))))))) _ Try.underlying23 rfl _ rfl ?_))
  go_ret
  exact ⟨rfl, hv.below⟩
set_option maxRecDepth 100000 in
set_option maxHeartbeats 4000000 in
theorem spans_any (next : Nat) (ba pa : Option Addr) (bn bc pn pc : Nat) (l : List PcV) (w0 w : World) (L : List (Nat × Array Value)) (R : List (Nat × Value × List Value)) (hv0 : Mem w0 w L R) (hp : (2, .slice pa pn pc, cellsP l) ∈ R) (hal : AllP R l) (hpn : pn ≤ 1000) :
    Calls Try.prog 20 #[.agg #[.int .u32 (next : Nat), .slice ba bn bc, .slice pa pn pc]] w fun e w' => ∃ ao n cap, e = .returned (.slice ao n cap) ∧ Mem w0 w' L ((2, .slice ao n cap, cellsS (spV next l)) :: R) := by
  have hv := hv0
  have HP := Lib.hid hp
  have HA := Lib.hid hal
  have HN := Lib.hid (len_rdP (hv0.rd hp))
  have HM := Lib.hid hpn
  have hB3 : 1 ≤ maxLen := by unfold maxLen; omega
  clear hv0 hp hal hpn
  go_enter Try.func20, Try.ntmps20
  go_wp2_with (first
    | ((with_reducible refine at_box (T := 26) (dst := some 1) ?_); refine wl_newb rfl #[.int .u32 (next : Nat), .slice ba bn bc, .slice pa pn pc] 26 (fun _ => rfl) ?_; intro b1 w2 hm2; replace hv := hv.madeAt hm2; clear hm2)
    | ((with_reducible refine at_load (T := 24) ?_); refine wl_ldc rfl _ _ rfl _ (hv.vars.row (by first | exact .head _ | exact .tail _ (.head _) | exact .tail _ (.tail _ (.head _)) | exact .tail _ (.tail _ (.tail _ (.head _))) | exact .tail _ (.tail _ (.tail _ (.tail _ (.head _)))) | exact .tail _ (.tail _ (.tail _ (.tail _ (.tail _ (.head _))))) | exact .tail _ (.tail _ (.tail _ (.tail _ (.tail _ (.tail _ (.head _)))))) | exact .tail _ (.tail _ (.tail _ (.tail _ (.tail _ (.tail _ (.tail _ (.head _))))))))) _ Try.underlying24 rfl _ rfl ?_))
  go_loopw [3, 9] (fun v i wr => ∃ (k : Nat) (O : List (Nat × Array Value)), k ≤ pn ∧ i = .int .i64 (k : Nat) ∧ OwnL 2 v (cellsS (spV next (l.take k))) O ∧ Mem w0 wr (O ++ [(b1, #[.int .u32 (next : Nat), .slice ba bn bc, .slice pa pn pc])] ++ L) R) (fun _ i _ => pn - (intOf i).toNat)
  case atStart => exact ⟨0, [], Nat.zero_le _, rfl, OwnL.nil 2, hv⟩
  case round =>
    clear hv
    obtain ⟨k, O, hk, rfl, hO, hv⟩ := hrel
    by_cases hk2 : k < pn
    · have hki : (k : Int) < (pn : Int) := by omega
      have hkb : (k : Int) ≤ 1000 := by have := HM.out; omega
      have hkl : k < l.length := by rw [HN.out]; exact hk2
      obtain ⟨⟨sq, dv, d⟩, hx⟩ : ∃ x, l[k] = x := ⟨_, rfl⟩
      have hdm := HA.out l[k] (List.getElem_mem hkl)
      rw [hx] at hdm
      obtain ⟨da, dn, dc, rfl, _⟩ := id (hv.rd hdm)
      have HK : Hid (((cellsP l).drop (k * 2)).take 2 = [.int .u32 (sq : Nat), .slice da dn dc]) := Lib.hid (by rw [cellsP_part l k hkl, hx])
      have HT : Hid (cellsS (spV next (l.take k)) ++ [.int .i64 (dif sq next), .slice da dn dc] = cellsS (spV next (l.take (k + 1)))) := Lib.hid (by
        rw [List.take_succ_eq_append_getElem hkl, hx]
        simp only [spV, List.map_append, List.map_cons, List.map_nil]
        rw [cellsS_snoc])
      have hln : (cellsS (spV next (l.take k))).length = k * 2 := by rw [cellsS_len]; simp only [spV, List.length_map, List.length_take]; omega
      have hB0 : Hid (∀ y ∈ ([.int .i64 (dif sq next), .slice da dn dc] : List Value), y.oneCell' = true) := Lib.hid (fun y hy => by
        rcases List.mem_cons.1 hy with rfl | hy
        · rfl
        · rw [List.mem_singleton.1 hy]; rfl)
      have hB1 : Hid (((cellsS (spV next (l.take k))).length + ([.int .i64 (dif sq next), .slice da dn dc] : List Value).length) / 2 ≤ maxLen) := Lib.hid (by rw [hln]; simp only [List.length_cons, List.length_nil]; have := HM.out; unfold maxLen; omega)
      have hB2 : Hid (((cellsS (spV next (l.take k))).length + ([.int .i64 (dif sq next), .slice da dn dc] : List Value).length) / 2 * 32 ≤ 140737488355328) := Lib.hid (by rw [hln]; simp only [List.length_cons, List.length_nil]; have := HM.out; omega)
      have hC1 : Hid (([.int .i64 (dif sq next), .slice da dn dc] : List Value).length / 2 ≤ maxLen) := Lib.hid (by simp only [List.length_cons, List.length_nil]; unfold maxLen; omega)
      have hC2 : Hid (([.int .i64 (dif sq next), .slice da dn dc] : List Value).length / 2 * 32 ≤ 140737488355328) := Lib.hid (by simp only [List.length_cons, List.length_nil]; omega)
      obtain ⟨pb, po, _, _, e, _⟩ := (hv.rd HP.out).some (by rw [cellsP_len]; omega)
      cases e
      clear hx hdm hln hkl
      rcases hO with ⟨rfl, hc0, rfl⟩ | ⟨x0, hrow, rfl⟩
      · have HC0 := Lib.hid hc0
        clear hc0
        simp only [List.nil_append, List.cons_append] at hv
        go_wp2_with (first
          | ((with_reducible refine at_load (T := 45) ?_); refine wl_rdv rfl (hv.rd HP.out) (k * 2) rfl 2 _ Try.underlying45 rfl infoPc (by decide) #[.int .u32 (sq : Nat), .slice da dn dc] HK.out rfl ?_)
          | ((with_reducible refine at_alloc (T := 45) (dst := some 5) ?_); refine wl_newb rfl #[.int .u32 0, .slice none 0 0] 45 (fun _ => rfl) ?_; intro b5 w2 hm2; replace hv := hv.madeAt hm2; clear hm2)
          | ((with_reducible refine at_store (T := 45) ?_); refine wl_stv rfl b5 rfl _ rfl _ (hv.vars.row (by first | exact .head _ | exact .tail _ (.head _) | exact .tail _ (.tail _ (.head _)) | exact .tail _ (.tail _ (.tail _ (.head _))) | exact .tail _ (.tail _ (.tail _ (.tail _ (.head _)))) | exact .tail _ (.tail _ (.tail _ (.tail _ (.tail _ (.head _))))) | exact .tail _ (.tail _ (.tail _ (.tail _ (.tail _ (.tail _ (.head _)))))) | exact .tail _ (.tail _ (.tail _ (.tail _ (.tail _ (.tail _ (.tail _ (.head _))))))))) (hv.vars.sft (by first | exact .head _ | exact .tail _ (.head _) | exact .tail _ (.tail _ (.head _)) | exact .tail _ (.tail _ (.tail _ (.head _))) | exact .tail _ (.tail _ (.tail _ (.tail _ (.head _)))) | exact .tail _ (.tail _ (.tail _ (.tail _ (.tail _ (.head _))))) | exact .tail _ (.tail _ (.tail _ (.tail _ (.tail _ (.tail _ (.head _)))))) | exact .tail _ (.tail _ (.tail _ (.tail _ (.tail _ (.tail _ (.tail _ (.head _))))))))) 2 infoPc rfl rfl (by simp [Value.oneCell']) ?_; intro w2 hw2; (first | (replace hv := hv.set 0 rfl hw2) | (replace hv := hv.set 1 rfl hw2) | (replace hv := hv.set 2 rfl hw2) | (replace hv := hv.set 3 rfl hw2)); clear hw2; simp only [List.set] at hv))
        refine Any.wp_region_walk [⟨[], none⟩, ⟨[], none⟩, ⟨[1000], none⟩, ⟨[], none⟩, ⟨[1001], none⟩, ⟨[], none⟩, ⟨[], none⟩, ⟨[1000], none⟩, ⟨[], none⟩, ⟨[], some 6⟩, ⟨[6], some 7⟩, ⟨[], none⟩] [.val, .val, .val, .val, .val, .val, .val, .val, .val, .bsl 1 #[.int .i64 (dif sq next), .slice da dn dc], .own (AppRow · 2 [.int .i64 (dif sq next), .slice da dn dc]), .pure] (by kernel_rfl) (by kernel_rfl) (hv.vars.keep (List.sublist_append_left [(b5, #[.int .u32 (sq : Nat), .slice da dn dc]), (b1, #[.int .u32 (next : Nat), .slice ba bn bc, .slice (some ⟨pb, po, none⟩) pn pc])] L)) ?_
        simp only [List.length_cons, List.length_nil, Nat.zero_add, Any.someVals]
        iterate 12 apply Exists.intro
        repeat (first
          | (refine Any.E_off rfl ?_; simp only [Act.put, List.setIfInBounds_toArray, List.set_cons_succ, List.set_cons_zero])
          | (apply Any.E_pureq rfl rfl rfl
             case h => intro K hK; go_big_quiet_op; (refine hK _ ?_; rfl)
             case hr => exact fun _ => rfl
             simp only [Act.put, List.setIfInBounds_toArray, List.set_cons_succ, List.set_cons_zero])
          | (apply Any.E_val rfl rfl rfl rfl
             case h =>
               intro E' hA K hK
               first
                 | ((with_reducible refine Any.at_qload (T := 22) ?_); refine Any.q_ldc 1000 hA (by decide) rfl rfl _ Try.underlying22 rfl _ rfl ?_; refine hK _ ?_; rfl)
                 | ((with_reducible refine Any.at_qload (T := 22) ?_); refine Any.q_ldc 1001 hA (by decide) rfl rfl _ Try.underlying22 rfl _ rfl ?_; refine hK _ ?_; rfl)
                 | ((with_reducible refine Any.at_qload (T := 23) ?_); refine Any.q_ldc 1000 hA (by decide) rfl rfl _ Try.underlying23 rfl _ rfl ?_; refine hK _ ?_; rfl)
                 | ((with_reducible refine Any.at_qbuild (T := 51) ?_); refine Any.q_build [(0, .int .i64 (dif sq next)), (1, .slice da dn dc)] rfl (built_sp _ _ _ _) ?_; refine hK _ ?_; rfl)
                 | (go_big_quiet_op; first
                   | (refine hK _ ?_; rfl)
                   | (refine ⟨_, fun _ _ => rfl, ?_⟩; refine hK _ ?_; rfl)
                   | (apply Exists.intro; refine ⟨fun w1 hw1 => ?_, ?_⟩; · (first
                       | (go_at_call 22; exact Any.calls_VEq (Diff_any _ _ _) hw1))
                      refine hK _ ?_; rfl))
             case hD => rfl
             simp only [Act.put, List.setIfInBounds_toArray, List.set_cons_succ, List.set_cons_zero])
          | ((with_reducible refine Any.at_ealloc ?_); refine Any.E_lay rfl rfl rfl (fun _ => rfl) ?_; intro B; simp only [Act.put, List.setIfInBounds_toArray, List.set_cons_succ, List.set_cons_zero])
          | ((with_reducible refine Any.at_eapp (t := 47) ?_); refine Any.E_appnil (j := 6) rfl rfl rfl rfl rfl (by decide) rfl rfl rfl hB3 (List.cons_ne_nil _ _) (.agg #[.int .i64 0, .slice none 0 0]) 32 Try.underlying47 infoSpz rfl (by decide) hB0.out hC1.out hC2.out ?_; intro v9 x9 ha9; simp only [Act.put, List.setIfInBounds_toArray, List.set_cons_succ, List.set_cons_zero])
          | ((with_reducible refine Any.at_ebsl ?_); refine Any.E_bsl (t := 51) rfl rfl rfl (fun w' => (by unfold execOp; go_simp)) ?_; intro B; simp only [Act.put, List.setIfInBounds_toArray, List.set_cons_succ, List.set_cons_zero]))
        try any_goals exact undef
        refine Any.E_nil ?_
        intro w9 hE9
        replace hv : Mem w0 w9 ([x9, (b1, #[.int .u32 (next : Nat), .slice ba bn bc, .slice (some ⟨pb, po, none⟩) pn pc])] ++ L) R := hE9.memr hv [7, 1001] (by decide)
        clear hE9
        simp only [List.cons_append, List.nil_append] at hv
        go_wp2
        go_roundw
        case rel => exact ⟨k + 1, [x9], by omega, by go_num, OwnL.row (by rw [← HT.out, HC0.out]; exact ha9), hv⟩
        case measure => simp [intOf]; omega
      · simp only [List.nil_append, List.cons_append] at hv
        go_wp2_with (first
          | ((with_reducible refine at_load (T := 45) ?_); refine wl_rdv rfl (hv.rd HP.out) (k * 2) rfl 2 _ Try.underlying45 rfl infoPc (by decide) #[.int .u32 (sq : Nat), .slice da dn dc] HK.out rfl ?_)
          | ((with_reducible refine at_alloc (T := 45) (dst := some 5) ?_); refine wl_newb rfl #[.int .u32 0, .slice none 0 0] 45 (fun _ => rfl) ?_; intro b5 w2 hm2; replace hv := hv.madeAt hm2; clear hm2)
          | ((with_reducible refine at_store (T := 45) ?_); refine wl_stv rfl b5 rfl _ rfl _ (hv.vars.row (by first | exact .head _ | exact .tail _ (.head _) | exact .tail _ (.tail _ (.head _)) | exact .tail _ (.tail _ (.tail _ (.head _))) | exact .tail _ (.tail _ (.tail _ (.tail _ (.head _)))) | exact .tail _ (.tail _ (.tail _ (.tail _ (.tail _ (.head _))))) | exact .tail _ (.tail _ (.tail _ (.tail _ (.tail _ (.tail _ (.head _)))))) | exact .tail _ (.tail _ (.tail _ (.tail _ (.tail _ (.tail _ (.tail _ (.head _))))))))) (hv.vars.sft (by first | exact .head _ | exact .tail _ (.head _) | exact .tail _ (.tail _ (.head _)) | exact .tail _ (.tail _ (.tail _ (.head _))) | exact .tail _ (.tail _ (.tail _ (.tail _ (.head _)))) | exact .tail _ (.tail _ (.tail _ (.tail _ (.tail _ (.head _))))) | exact .tail _ (.tail _ (.tail _ (.tail _ (.tail _ (.tail _ (.head _)))))) | exact .tail _ (.tail _ (.tail _ (.tail _ (.tail _ (.tail _ (.tail _ (.head _))))))))) 2 infoPc rfl rfl (by simp [Value.oneCell']) ?_; intro w2 hw2; (first | (replace hv := hv.set 0 rfl hw2) | (replace hv := hv.set 1 rfl hw2) | (replace hv := hv.set 2 rfl hw2) | (replace hv := hv.set 3 rfl hw2)); clear hw2; simp only [List.set] at hv))
        refine Any.wp_region_walk [⟨[], none⟩, ⟨[], none⟩, ⟨[1000], none⟩, ⟨[], none⟩, ⟨[1002], none⟩, ⟨[], none⟩, ⟨[], none⟩, ⟨[1000], none⟩, ⟨[], none⟩, ⟨[], some 6⟩, ⟨[6], some 1001⟩, ⟨[], none⟩] [.val, .val, .val, .val, .val, .val, .val, .val, .val, .bsl 1 #[.int .i64 (dif sq next), .slice da dn dc], .own (AppRow · 2 (cellsS (spV next (l.take k)) ++ [.int .i64 (dif sq next), .slice da dn dc])), .pure] (by kernel_rfl) (by kernel_rfl) (hv.vars.keep (List.sublist_append_left [(b5, #[.int .u32 (sq : Nat), .slice da dn dc]), x0, (b1, #[.int .u32 (next : Nat), .slice ba bn bc, .slice (some ⟨pb, po, none⟩) pn pc])] L)) ?_
        simp only [List.length_cons, List.length_nil, Nat.zero_add, Any.someVals]
        iterate 12 apply Exists.intro
        repeat (first
          | (refine Any.E_off rfl ?_; simp only [Act.put, List.setIfInBounds_toArray, List.set_cons_succ, List.set_cons_zero])
          | (apply Any.E_pureq rfl rfl rfl
             case h => intro K hK; go_big_quiet_op; (refine hK _ ?_; rfl)
             case hr => exact fun _ => rfl
             simp only [Act.put, List.setIfInBounds_toArray, List.set_cons_succ, List.set_cons_zero])
          | (apply Any.E_val rfl rfl rfl rfl
             case h =>
               intro E' hA K hK
               first
                 | ((with_reducible refine Any.at_qload (T := 22) ?_); refine Any.q_ldc 1000 hA (by decide) rfl rfl _ Try.underlying22 rfl _ rfl ?_; refine hK _ ?_; rfl)
                 | ((with_reducible refine Any.at_qload (T := 22) ?_); refine Any.q_ldc 1002 hA (by decide) rfl rfl _ Try.underlying22 rfl _ rfl ?_; refine hK _ ?_; rfl)
                 | ((with_reducible refine Any.at_qload (T := 23) ?_); refine Any.q_ldc 1000 hA (by decide) rfl rfl _ Try.underlying23 rfl _ rfl ?_; refine hK _ ?_; rfl)
                 | ((with_reducible refine Any.at_qbuild (T := 51) ?_); refine Any.q_build [(0, .int .i64 (dif sq next)), (1, .slice da dn dc)] rfl (built_sp _ _ _ _) ?_; refine hK _ ?_; rfl)
                 | (go_big_quiet_op; first
                   | (refine hK _ ?_; rfl)
                   | (refine ⟨_, fun _ _ => rfl, ?_⟩; refine hK _ ?_; rfl)
                   | (apply Exists.intro; refine ⟨fun w1 hw1 => ?_, ?_⟩; · (first
                       | (go_at_call 22; exact Any.calls_VEq (Diff_any _ _ _) hw1))
                      refine hK _ ?_; rfl))
             case hD => rfl
             simp only [Act.put, List.setIfInBounds_toArray, List.set_cons_succ, List.set_cons_zero])
          | ((with_reducible refine Any.at_ealloc ?_); refine Any.E_lay rfl rfl rfl (fun _ => rfl) ?_; intro B; simp only [Act.put, List.setIfInBounds_toArray, List.set_cons_succ, List.set_cons_zero])
          | ((with_reducible refine Any.at_eapp (t := 47) ?_); refine Any.E_app (j := 6) rfl rfl rfl rfl rfl hrow rfl (by decide) rfl rfl rfl hB3 (.agg #[.int .i64 0, .slice none 0 0]) 32 Try.underlying47 infoSpz rfl (by decide) hB0.out hB1.out hB2.out ?_; intro v9 x9 ha9; simp only [Act.put, List.setIfInBounds_toArray, List.set_cons_succ, List.set_cons_zero])
          | ((with_reducible refine Any.at_ebsl ?_); refine Any.E_bsl (t := 51) rfl rfl rfl (fun w' => (by unfold execOp; go_simp)) ?_; intro B; simp only [Act.put, List.setIfInBounds_toArray, List.set_cons_succ, List.set_cons_zero]))
        try any_goals exact undef
        refine Any.E_nil ?_
        intro w9 hE9
        replace hv : Mem w0 w9 ([x9, (b1, #[.int .u32 (next : Nat), .slice ba bn bc, .slice (some ⟨pb, po, none⟩) pn pc])] ++ L) R := hE9.memr hv [1001, 1002] (by decide)
        clear hE9
        simp only [List.cons_append, List.nil_append] at hv
        go_wp2
        go_roundw
        case rel => exact ⟨k + 1, [x9], by omega, by go_num, OwnL.row (by rw [← HT.out]; exact ha9), hv⟩
        case measure => simp [intOf]; omega
    · have hki : ¬ (k : Int) < (pn : Int) := by omega
      have hkl : l.take k = l := List.take_of_length_le (by rw [HN.out]; omega)
      rw [hkl] at hO
      obtain ⟨ao, n, cap, rfl, _⟩ := id hO.slice
      go_wp2
      go_ret
      refine ⟨_, _, _, rfl, ?_⟩
      have := hO.yield (A := []) (B := [(b1, #[.int .u32 (next : Nat), .slice ba bn bc, .slice pa pn pc])] ++ L) (by rw [List.nil_append, ← List.append_assoc]; exact hv)
      exact this.drop
end Go.Proofs.Ytpbeemgigpaacaa
