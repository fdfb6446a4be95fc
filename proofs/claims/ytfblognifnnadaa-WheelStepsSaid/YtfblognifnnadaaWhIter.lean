/-
  All timers, slot by slot: the iterator.
-/
import Derived.Test.YtfblognifnnadaaWhRChk
import Derived.Test.YtfblognifnnadaaIn
set_option linter.unusedVariables false
set_option linter.unusedSimpArgs false
namespace Go
open Go.RowKit
theorem MadeAt.row {w w' : World} {b : Nat} {c : Array Value} (h : MadeAt w w' b c) : w'.rowD b = c := by rw [h.at']; exact h.made.row
theorem MadeAt.soft {w w' : World} {b : Nat} {c : Array Value} (h : MadeAt w w' b c) : w'.soft b = true := by rw [h.at']; exact h.made.soft
theorem MadeAt.wrote {w w2 w3 : World} {b : Nat} {c c0 : Array Value} (h : MadeAt w w2 b c0) (hw : Wrote w2 w3 b c) : New w w3 := hw.below h.made.new (Nat.le_of_eq h.at'.symm)
theorem MadeAt.filled {w w2 w3 : World} {b : Nat} {c c0 : Array Value} (h : MadeAt w w2 b c0) (hw : Wrote w2 w3 b c) : MadeAt w w3 b c := ⟨h.at', ⟨h.wrote hw, by rw [← h.at']; exact hw.row, by rw [← h.at']; exact hw.soft⟩⟩
end Go
namespace Go.Proofs.Wh
open Go Go.RowKit
/-- What the iterator reads. -/
structure ItS (n₀ bp bw : Nat) (sv : List Value) (S : List (List Tm)) (W : World) : Prop where
  p : (W.rowD bp)[0]? = some (.pointer (some ⟨bw, 0, none⟩))
  r : ∀ (i : Nat) (v : Value), sv[i]? = some v → (W.rowD bw)[1 + i]? = some v
  s : ∀ (i : Nat) (v : Value) (l : List Tm), sv[i]? = some v → S[i]? = some l → Rd W 2 v (cellsT l) ∧ (cellsT l ≠ [] → ∀ b o n cap, v = .slice (some ⟨b, o, none⟩) n cap → b < n₀)
/-- What a round keeps. -/
structure WhK (n₀ bp bw : Nat) (W W' : World) : Prop where
  b : Below n₀ W W'
  p : W'.rowD bp = W.rowD bp
  r : W'.rowD bw = W.rowD bw
theorem WhK.trans {n₀ bp bw : Nat} {A B C : World} (h : WhK n₀ bp bw A B) (k : WhK n₀ bp bw B C) : WhK n₀ bp bw A C := ⟨h.b.trans k.b, k.p.trans h.p, k.r.trans h.r⟩
theorem WhK.refl (n₀ bp bw : Nat) (A : World) : WhK n₀ bp bw A A := ⟨Below.refl _ _, rfl, rfl⟩
theorem WhK.turn {n₀ bp bw : Nat} {w : World} (hn : n₀ ≤ w.heap.size) (h1 : bp < w.heap.size) (h2 : bw < w.heap.size) (W : World) (l : Nat) (o o' : Obj) (hl : w.heap.size ≤ l) (h : W.heap[l]? = some o) (a : o.isCells = false) (b : o.isWalk = false) : WhK n₀ bp bw W (W.putObj l o') := by
  have hb := belowK_b (n₀ := w.heap.size) (w := w) (Nat.le_refl _) W l o o' hl h a b
  exact ⟨hb.mono hn, rowD_congr (hb.block bp h1), rowD_congr (hb.block bw h2)⟩
theorem ItS.kept {n₀ bp bw : Nat} {sv : List Value} {S : List (List Tm)} {W W' : World} (h : ItS n₀ bp bw sv S W) (k : WhK n₀ bp bw W W') : ItS n₀ bp bw sv S W' :=
  ⟨by rw [k.p]; exact h.p, fun i v hv => by rw [k.r]; exact h.r i v hv, fun i v l hv hl => ⟨(h.s i v l hv hl).1.belowN k.b (h.s i v l hv hl).2, (h.s i v l hv hl).2⟩⟩
theorem rowD_new {W W' : World} {b i : Nat} {v : Value} (h : (W.rowD b)[i]? = some v) (hn : New W W') : (W'.rowD b)[i]? = some v := by
  have hsz : 0 < (W.rowD b).size := by have := (Array.getElem?_eq_some_iff.1 h).1; omega
  obtain ⟨t, fr, ht⟩ := rowD_block hsz
  rw [hn.row (Array.getElem?_eq_some_iff.1 ht).1]; exact h
theorem ItS.new {n₀ bp bw : Nat} {sv : List Value} {S : List (List Tm)} {W W' : World} (h : ItS n₀ bp bw sv S W) (hn : New W W') : ItS n₀ bp bw sv S W' :=
  ⟨rowD_new h.p hn, fun i v hv => rowD_new (h.r i v hv) hn, fun i v l hv hl => ⟨(h.s i v l hv hl).1.new hn, (h.s i v l hv hl).2⟩⟩
/-- How many timers are ahead of slot i. -/
def offS (S : List (List Tm)) (i : Nat) : Nat := (S.take i).flatten.length
theorem offS_zero (S : List (List Tm)) : offS S 0 = 0 := rfl
theorem offS_succ {S : List (List Tm)} {i : Nat} {l : List Tm} (h : S[i]? = some l) : offS S (i + 1) = offS S i + l.length := by
  obtain ⟨h1, h2⟩ := List.getElem?_eq_some_iff.1 h
  unfold offS
  rw [List.take_succ_eq_append_getElem h1, h2, List.flatten_append, List.length_append]
  simp
theorem offS_all {S : List (List Tm)} (h : S.length ≤ 8) : offS S 8 = S.flatten.length := by unfold offS; rw [List.take_of_length_le h]
theorem flat_at {S : List (List Tm)} {i k : Nat} {l : List Tm} (h : S[i]? = some l) (hk : k < l.length) : S.flatten[offS S i + k]? = l[k]? := by
  obtain ⟨h1, h2⟩ := List.getElem?_eq_some_iff.1 h
  have e : S.flatten = (S.take i).flatten ++ (l ++ (S.drop (i + 1)).flatten) := by
    have e0 : S = S.take i ++ l :: S.drop (i + 1) := by rw [← h2, List.getElem_cons_drop, List.take_append_drop]
    have e1 := congrArg List.flatten e0
    rw [List.flatten_append, List.flatten_cons] at e1
    exact e1
  rw [e]
  unfold offS
  rw [List.getElem?_append_right (by omega), Nat.add_sub_cancel_left, List.getElem?_append_left hk]
/-- What a round is handed. -/
def encF (S : List (List Tm)) (x : Fin S.flatten.length) : Array Value := #[.agg #[.int .u64 ((S.flatten[x.1]).1 : Nat), .int .i64 (S.flatten[x.1]).2]]
theorem encF_at {S : List (List Tm)} {i k : Nat} {l : List Tm} {x1 : Nat} {x2 : Int} (h : S[i]? = some l) (hk : l[k]? = some (x1, x2)) (hlt : offS S i + k < S.flatten.length) : encF S ⟨offS S i + k, hlt⟩ = #[.agg #[.int .u64 (x1 : Nat), .int .i64 x2]] := by
  have e := flat_at h (List.getElem?_eq_some_iff.1 hk).1
  rw [hk, List.getElem?_eq_getElem hlt, Option.some.injEq] at e
  unfold encF
  simp only [e]
end Go.Proofs.Wh
namespace Go.Proofs.Ytfblognifnnadaa
open Go.Proofs.Wh Go.RowKit Go.Shelf
attribute [local go_sem] Oper.semAt_some
set_option maxRecDepth 100000 in
set_option maxHeartbeats 4000000 in
/-- The maker: a box. -/
theorem all_in (n bw : Nat) (w : World) :
    CallsIn Fence.wide n Try.prog 25 #[.pointer (some ⟨bw, 0, none⟩)] w fun e w' => ∃ bp, e = .returned (.func (.func 54) #[] #[.pointer (some ⟨bp, 0, none⟩)]) ∧ MadeAt w w' bp #[.pointer (some ⟨bw, 0, none⟩)] := by
  refine callsIn_of_wp Try.func25 rfl trivial ?_ rfl
  simp only [Try.ntmps25, List.size_toArray, List.length_cons, List.length_nil, Nat.reduceAdd, Nat.reduceSub, Array.replicate_succ, Array.replicate_zero, List.push_toArray, List.append_toArray, List.nil_append, List.cons_append]
  gi_wp2
  go_ret
  exact ⟨_, rfl, rfl, made_alloc w _ _⟩
set_option maxRecDepth 100000 in
set_option maxHeartbeats 4000000 in
theorem all1_in (n : Nat) (hn1 : 1 ≤ n) (y bp bw n₀ : Nat) (sv : List Value) (S : List (List Tm)) (hsv : sv.length = 8) (hSl : S.length = 8) (hlen : ∀ l ∈ S, l.length ≤ 1000) (J Jx : List (Fin S.flatten.length) → World → Prop)
    (hJab : ∀ s W W', J s W → New W W' → J s W') (hY : ∀ pre x W, J pre W → pre.length < S.flatten.length → YieldAt Fence.wide (n - 1) Try.prog y (encF S x) W fun e W' =>
      (e = .returned (.bool true) ∧ J (pre ++ [x]) W' ∧ WhK n₀ bp bw W W') ∨ (e = .returned (.bool false) ∧ Jx (pre ++ [x]) W'))
    (W : World) (hs : ItS n₀ bp bw sv S W) (h0 : J [] W) :
    CallsIn Fence.wide n Try.prog 54 #[.func (.yield y) #[] #[], .pointer (some ⟨bp, 0, none⟩)] W fun e W' => (∃ v, e = .returned v) ∧
      ((∃ ys, ys = List.finRange S.flatten.length ∧ J ys W') ∨ (∃ pre, (∃ k, k ≤ S.flatten.length ∧ pre = fstN S.flatten.length k) ∧ Jx pre W')) := by
  refine callsIn_of_wp Try.func54 rfl trivial ?_ rfl
  simp only [Try.ntmps54, List.size_toArray, List.length_cons, List.length_nil, Nat.reduceAdd, Nat.reduceSub, Array.replicate_succ, Array.replicate_zero, List.push_toArray, List.append_toArray, List.nil_append, List.cons_append]
  have HSV := Lib.hid hsv
  have HSZ := Lib.hid hSl
  have HLE := Lib.hid hlen
  have HY := Lib.hid hY
  have HS := Lib.hid hs
  obtain ⟨N, hN⟩ : ∃ N, N = S.flatten.length := ⟨_, rfl⟩
  have HN := Lib.hid hN
  clear hsv hSl hlen hs hY hN
  gi_wp2
  gi_loopw [6] (fun iv wr => ∃ i : Nat, i ≤ 8 ∧ iv = .int .i64 (i : Nat) ∧ J (fstN S.flatten.length (offS S i)) wr ∧ Hid (ItS n₀ bp bw sv S wr)) (fun iv _ => 8 - (intOf iv).toNat)
  case atStart => exact ⟨0, Nat.zero_le _, rfl, h0, HS⟩
  case round =>
    clear h0 HS
    obtain ⟨i, hi0, rfl, hJ, HS⟩ := hrel
    by_cases hi : i < 8
    · have hki : (i : Int) < 8 := by omega
      have hsi : i < sv.length := by rw [HSV.out]; exact hi
      have hSi : i < S.length := by rw [HSZ.out]; exact hi
      obtain ⟨l, hl⟩ : ∃ l, S[i] = l := ⟨_, rfl⟩
      obtain ⟨v, hvv⟩ : ∃ v, sv[i] = v := ⟨_, rfl⟩
      have HSL : Hid (S[i]? = some l) := Lib.hid (by rw [List.getElem?_eq_getElem hSi, hl])
      have HV0 : Hid (sv[i]? = some v) := Lib.hid (by rw [List.getElem?_eq_getElem hsi, hvv])
      have hll := HLE.out S[i] (List.getElem_mem hSi)
      rw [hl] at hll
      have HL1 := Lib.hid hll
      obtain ⟨sa, sn, sc, rfl, hq9⟩ := id (HS.out.s i v l HV0.out HSL.out).1
      clear hq9
      have HV := HV0
      have HLN := Lib.hid (len_rdT (HS.out.s i _ l HV0.out HSL.out).1)
      have HI8 := Lib.hid hi
      clear hsi hSi hl hvv hll hi0 HV0 hi
      gi_wp2_with (first
        | ((with_reducible refine ati_load (T := 71) ?_); refine wi_ldc (fun _ => trivial) rfl bp 0 rfl _ rfl _ Try.underlying71 rfl _ HS.out.p ?_)
        | ((with_reducible refine ati_load (T := 23) ?_); refine wi_ldc (fun _ => trivial) rfl bw (1 + i) rfl _ rfl _ Try.underlying23 rfl (.slice sa sn sc) (HS.out.r i _ HV.out) ?_))
      gi_loopw [16] (fun kv wr => ∃ k : Nat, k ≤ sn ∧ kv = .int .i64 (k : Nat) ∧ J (fstN S.flatten.length (offS S i + k)) wr ∧ Hid (ItS n₀ bp bw sv S wr)) (fun kv _ => sn - (intOf kv).toNat)
      case atStart => exact ⟨0, Nat.zero_le _, rfl, hJ, HS⟩
      case round =>
        clear hJ HS
        obtain ⟨k, hk0, rfl, hJ, HS⟩ := hrel
        by_cases hk : k < sn
        · have c1 : (k : Int) < (sn : Int) := by omega
          have hkl : k < l.length := by rw [HLN.out]; exact hk
          obtain ⟨⟨x1, x2⟩, hx⟩ : ∃ x, l[k] = x := ⟨_, rfl⟩
          have HK : Hid (((cellsT l).drop (k * 2)).take 2 = [.int .u64 (x1 : Nat), .int .i64 x2]) := Lib.hid (by rw [cellsT_part l k hkl, hx])
          have hlt : offS S i + k < S.flatten.length := by
            have := flat_at HSL.out hkl
            rw [List.getElem?_eq_getElem hkl] at this
            exact (List.getElem?_eq_some_iff.1 this).1
          have HYX : Hid (∀ w3, J (fstN S.flatten.length (offS S i + k)) w3 → YieldAt Fence.wide (n - 1) Try.prog y #[.agg #[.int .u64 (x1 : Nat), .int .i64 x2]] w3 fun e W' =>
              (e = .returned (.bool true) ∧ J (fstN S.flatten.length (offS S i + (k + 1))) W' ∧ WhK n₀ bp bw w3 W') ∨ (e = .returned (.bool false) ∧ Jx (fstN S.flatten.length (offS S i + (k + 1))) W')) := Lib.hid (fun w3 h3 => by
            have h := HY.out _ ⟨offS S i + k, hlt⟩ w3 h3 (by rw [fstN_len (Nat.le_of_lt hlt)]; exact hlt)
            rw [encF_at HSL.out (by rw [List.getElem?_eq_getElem hkl, hx]) hlt, ← fstN_succ hlt] at h
            exact h)
          have HLT := Lib.hid hlt
          have HKN := Lib.hid hk
          have hkb : (k : Int) ≤ 5000 := by have := HL1.out; have := HLN.out; omega
          obtain ⟨sb, so, _, _, e, hq8⟩ := (HS.out.s i _ l HV.out HSL.out).1.some (by rw [cellsT_len]; omega)
          clear hq8
          cases e
          clear hkl hx hlt hk0 hk
          gi_wp2_with (first
            | ((with_reducible refine ati_load (T := 63) ?_); refine wi_rdv (fun _ => trivial) rfl (HS.out.s i _ l HV.out HSL.out).1 (k * 2) rfl 2 _ Try.underlying63 rfl infoTm (by decide) #[.int .u64 (x1 : Nat), .int .i64 x2] HK.out rfl ?_)
            | ((with_reducible refine ati_alloc (T := 63) ?_); refine wi_newb (fun _ => trivial) (fun _ h => by cases h) rfl #[.int .u64 0, .int .i64 0] 63 (fun _ => rfl) ?_; intro b5 w2 hm2)
            | ((with_reducible refine ati_store (T := 63) ?_); refine wi_stv (fun _ => trivial) rfl b5 rfl _ rfl _ hm2.row hm2.soft 2 infoTm rfl rfl (by simp [Value.oneCell']) ?_; intro w3 hw3; have hn3 := hm2.wrote hw3; have hb5 := hw3.row; have hY3 := HYX.out w3 (hJab _ _ _ hJ hn3); obtain ⟨fn, tmps, assign, body, hy, hR⟩ := hY3; replace HS := Lib.hid (HS.out.new hn3); clear hJ hn3 hm2 hw3)
            | ((with_reducible refine ati_load (T := 63) ?_); refine wi_ldv (fun _ => trivial) rfl b5 rfl _ hb5 2 _ Try.underlying63 rfl infoTm (by decide) rfl ?_))
          refine hR.mono ?_
          rintro e W4 (⟨rfl, hJ4, hk4⟩ | ⟨rfl, hJx4⟩)
          · replace HS := Lib.hid (HS.out.kept hk4)
            clear hk4
            gi_wp2
            have hkn := HKN.out
            go_roundw
            case rel => exact ⟨k + 1, by omega, by go_num, hJ4, HS⟩
            case measure => simp [intOf]; omega
          · gi_wp2
            refine bodyPost_ret (results_none rfl _ _ _) rfl ?_
            exact ⟨⟨_, rfl⟩, .inr ⟨_, ⟨_, by have := HLT.out; omega, rfl⟩, hJx4⟩⟩
        · have c1 : ¬ (k : Int) < (sn : Int) := by omega
          have HO : Hid (offS S i + k = offS S (i + 1)) := Lib.hid (by rw [offS_succ HSL.out, HLN.out]; omega)
          rw [HO.out] at hJ
          clear hk hk0
          gi_wp2
          have hin := HI8.out
          go_roundw
          case rel => exact ⟨i + 1, by omega, by go_num, hJ, HS⟩
          case measure => simp [intOf]; omega
    · have hki : ¬ (i : Int) < 8 := by omega
      obtain rfl : i = 8 := by omega
      rw [offS_all (Nat.le_of_eq HSZ.out)] at hJ
      clear hi hi0
      gi_wp2
      go_end0
      rw [fstN_all] at hJ
      exact ⟨⟨_, rfl⟩, .inl hJ⟩
theorem all_stops (n : Nat) (hn1 : 1 ≤ n) (bp bw n₀ : Nat) (sv : List Value) (S : List (List Tm)) (hsv : sv.length = 8) (hSl : S.length = 8) (hlen : ∀ l ∈ S, l.length ≤ 1000) (w : World) (hs : ItS n₀ bp bw sv S w) :
    SeqStopsK Fence.wide n Try.prog 54 #[.pointer (some ⟨bp, 0, none⟩)] (encF S) (WhK n₀ bp bw) (fun ys => ys = List.finRange S.flatten.length) (fun pre => ∃ k, k ≤ S.flatten.length ∧ pre = fstN S.flatten.length k) S.flatten.length w :=
  fun l J Jx W hW hJ _ hY h0 => all1_in n hn1 l bp bw n₀ sv S hsv hSl hlen J Jx (fun s W W' h hn => hJ s W W' none h (hn.grown none) (fun r e => by cases e)) hY W (hs.new hW) h0
end Go.Proofs.Ytfblognifnnadaa
