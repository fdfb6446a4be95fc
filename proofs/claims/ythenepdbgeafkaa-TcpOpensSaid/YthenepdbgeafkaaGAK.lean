import Derived.Test.YthenepdbgeafkaaGAI
import Derived.Test.YthenepdbgeafkaaGAA
import Derived.Test.YthenepdbgeafkaaProg
import Derived.WalkMore
import Derived.Laws.Cover3
import Derived.Laws.Tables
import Derived.Shelf.Abstract
set_option linter.unusedSimpArgs false
set_option linter.unusedVariables false
set_option maxRecDepth 100000
set_option maxHeartbeats 4000000
section
/-
 Streams and spans in memory: the walks of Diff, end, spans, Check, Room.
-/
namespace Go.Proofs.Wi
open Go Go.RowKit
def cellsB (l : List Nat) : List Value := l.map fun n => Value.int .u8 (n : Nat)
theorem cellsB_len (l : List Nat) : (cellsB l).length = l.length := by simp [cellsB]
theorem cellsB_one (l : List Nat) : ∀ x ∈ cellsB l, x.oneCell' = true := by
 intro x hx
 obtain ⟨n, _, rfl⟩ := List.mem_map.1 hx; rfl
abbrev PcV := Nat × Value × List Nat
abbrev SpV := Int × Value × List Nat
def encP (p : PcV) : List Value := [.int .u32 (p.1 : Nat), p.2.1]
def encS (p : SpV) : List Value := [.int .i64 p.1, p.2.1]
def cellsP (l : List PcV) : List Value := l.flatMap encP
def cellsS (l : List SpV) : List Value := l.flatMap encS
theorem flat_len {α : Type} {enc : α → List Value} {k : Nat} (h : ∀ x, (enc x).length = k) (l : List α) : (l.flatMap enc).length = l.length * k := by
 induction l with
 | nil => simp
 | cons x r ih => rw [List.flatMap_cons, List.length_append, h, ih, List.length_cons, Nat.add_mul]; omega
theorem flat_part {α : Type} {enc : α → List Value} {k : Nat} (h : ∀ x, (enc x).length = k) : ∀ (l : List α) (i : Nat) (hi : i < l.length), ((l.flatMap enc).drop (i * k)).take k = enc l[i] := by
 intro l
 induction l with
 | nil => intro i hi; simp at hi
 | cons x r ih =>
   intro i hi
   rw [List.flatMap_cons]
   cases i with
   | zero => rw [Nat.zero_mul, List.drop_zero, List.take_left' (h x)]; rfl
   | succ i =>
     have e : (i + 1) * k = (enc x).length + i * k := by rw [h, Nat.add_mul]; omega
     rw [e, ← List.drop_drop, List.drop_left' rfl, ih i (by simpa using hi)]; rfl
theorem cellsP_len (l : List PcV) : (cellsP l).length = l.length * 2 := flat_len (enc := encP) (fun _ => rfl) l
theorem cellsS_len (l : List SpV) : (cellsS l).length = l.length * 2 := flat_len (enc := encS) (fun _ => rfl) l
theorem cellsP_part (l : List PcV) (i : Nat) (hi : i < l.length) : ((cellsP l).drop (i * 2)).take 2 = [.int .u32 (l[i].1 : Nat), l[i].2.1] := flat_part (enc := encP) (fun _ => rfl) l i hi
theorem cellsS_part (l : List SpV) (i : Nat) (hi : i < l.length) : ((cellsS l).drop (i * 2)).take 2 = [.int .i64 l[i].1, l[i].2.1] := flat_part (enc := encS) (fun _ => rfl) l i hi
theorem cellsS_snoc (l : List SpV) (x : SpV) : cellsS (l ++ [x]) = cellsS l ++ [.int .i64 x.1, x.2.1] := by simp [cellsS, encS]
theorem cellsP_snoc (l : List PcV) (x : PcV) : cellsP (l ++ [x]) = cellsP l ++ [.int .u32 (x.1 : Nat), x.2.1] := by simp [cellsP, encP]
def AllP (R : LR) (l : List PcV) : Prop := ∀ p ∈ l, (1, p.2.1, cellsB p.2.2) ∈ R
def AllS (R : LR) (l : List SpV) : Prop := ∀ p ∈ l, (1, p.2.1, cellsB p.2.2) ∈ R
theorem AllS.mono {R R' : LR} {l : List SpV} (h : AllS R l) (hs : ∀ x ∈ R, x ∈ R') : AllS R' l := fun p hp => hs _ (h p hp)
theorem AllP.mono {R R' : LR} {l : List PcV} (h : AllP R l) (hs : ∀ x ∈ R, x ∈ R') : AllP R' l := fun p hp => hs _ (h p hp)
def spOf (l : List SpV) : List Sp := l.map fun p => (p.1, p.2.2)
def spV (next : Nat) (l : List PcV) : List SpV := l.map fun p => (dif p.1 next, p.2.1, p.2.2)
def stOf (next : Nat) (b : List Nat) (l : List PcV) : St := ⟨next, b, l.map fun p => (p.1, p.2.2)⟩
theorem spOf_spV (next : Nat) (b : List Nat) (l : List PcV) : spOf (spV next l) = spans (stOf next b l) := by simp [spOf, spV, spans, stOf]
theorem spV_all {R : LR} {next : Nat} {l : List PcV} (h : AllP R l) : AllS R (spV next l) := fun p hp => by
 obtain ⟨x, hx, rfl⟩ := List.mem_map.1 hp
 exact h x hx
theorem dif_lo (a b : Nat) : -2147483648 ≤ dif a b := by unfold dif; split <;> omega
theorem dif_hi (a b : Nat) : dif a b ≤ 2147483647 := by unfold dif; split <;> omega
theorem len_rd1 {w : World} {a : Option Addr} {n c : Nat} {d : List Nat} (h : Rd w 1 (.slice a n c) (cellsB d)) : d.length = n := by
 obtain ⟨_, _, _, e, g, _⟩ := h
 cases e
 rw [cellsB_len] at g; omega
theorem len_rdP {w : World} {a : Option Addr} {n c : Nat} {l : List PcV} (h : Rd w 2 (.slice a n c) (cellsP l)) : l.length = n := by
 obtain ⟨_, _, _, e, g, _⟩ := h
 cases e
 rw [cellsP_len] at g; omega
theorem len_rdS {w : World} {a : Option Addr} {n c : Nat} {l : List SpV} (h : Rd w 2 (.slice a n c) (cellsS l)) : l.length = n := by
 obtain ⟨_, _, _, e, g, _⟩ := h
 cases e
 rw [cellsS_len] at g; omega
end Go.Proofs.Wi
namespace Go.Proofs.Ythenepdbgeafkaa
open Go.Proofs.Wi Go.RowKit
theorem infoSp : (Try.prog.info? 92).map (·.size) = some 2 := by kernel_rfl
theorem infoPc : (Try.prog.info? 95).map (·.size) = some 2 := by kernel_rfl
theorem infoStr : (Try.prog.info? 27).map (·.size) = some 3 := by kernel_rfl
theorem infoSpz : (Try.prog.info? 92).map (fun i => (i.zero, i.size, i.bytes)) = some (some (.agg #[.int .i64 0, .slice none 0 0]), 2, 32) := by kernel_rfl
theorem ret_i {a b : Int} (h : a = b) : Ending.returned (.int .i64 a) = .returned (.int .i64 b) := by rw [h]
theorem built_sp (x : Int) (a : Option Addr) (n c : Nat) : Try.prog.built 92 [(0, .int .i64 x), (1, .slice a n c)] = some #[.int .i64 x, .slice a n c] := by kernel_rfl
theorem Diff_any (a b : Nat) (w : World) : Calls Try.prog 68 #[.int .u32 a, .int .u32 b] w fun e w' => e = .returned (.int .i64 (dif a b)) ∧ w = w' := by
 go_enter Try.func68, Try.ntmps68
 go_wp2
 go_ret
 refine ⟨ret_i ?_, rfl⟩
 simp [IntKind.wrap, IntKind.bits, IntKind.signed, dif, wrap32, wrap64]
 omega
theorem end_any (x : Int) (a : Option Addr) (n c : Nat) (h1 : -4611686018427387904 ≤ x) (h2 : x ≤ 4611686018427387904) (h3 : n ≤ 1000000) (w : World) : Calls Try.prog 65 #[.agg #[.int .i64 x, .slice a n c]] w fun e w' => e = .returned (.int .i64 (x + n)) ∧ New w w' := by
 have hv := Mem.nil w
 have q : IntKind.i64.wrap (x + (n : Int)) = x + (n : Int) := IntWalk.i64_in _ (by omega)
 clear h1 h2 h3
 go_enter Try.func65, Try.ntmps65
 go_wp2_with (first
   | ((with_reducible refine gBx 92 1 ?_); refine nwB hv #[.int .i64 x, .slice a n c] 92 ?_; clear hv; intro b1 w2 hv)
   | ((with_reducible refine gLd 3 ?_); refine ldC hv _ _ _ Try.underlying3 ?_)
   | ((with_reducible refine gLd 23 ?_); refine ldC hv _ _ _ Try.underlying23 ?_))
 go_ret
 exact ⟨rfl, hv.below⟩
theorem spans_any (next : Nat) (ba pa : Option Addr) (bn bc pn pc : Nat) (l : List PcV) (w0 w : World) (L : LV) (R : LR) (hv0 : Mem w0 w L R) (hp : (2, .slice pa pn pc, cellsP l) ∈ R) (hal : AllP R l) (hpn : pn ≤ 1000) :
   Calls Try.prog 64 #[.agg #[.int .u32 next, .slice ba bn bc, .slice pa pn pc]] w fun e w' => ∃ ao n cap, e = .returned (.slice ao n cap) ∧ Mem w0 w' L ((2, .slice ao n cap, cellsS (spV next l)) :: R) := by
 have hv := hv0
 have HP := Lib.hid hp
 have HA := Lib.hid hal
 have HN := Lib.hid (len_rdP (hv0.rd hp))
 have HM := Lib.hid hpn
 have hB3 : 1 ≤ maxLen := by unfold maxLen; omega
 clear hv0 hp hal hpn
 go_enter Try.func64, Try.ntmps64
 go_wp2_with (first
   | ((with_reducible refine gBx 27 1 ?_); refine nwB hv #[.int .u32 next, .slice ba bn bc, .slice pa pn pc] 27 ?_; clear hv; intro b1 w2 hv)
   | ((with_reducible refine gLd 25 ?_); refine ldC hv _ _ _ Try.underlying25 ?_))
 go_loopw [3, 9] (fun v i wr => ∃ (k : Nat) (O : LV), k ≤ pn ∧ i = .int .i64 k ∧ OwnL 2 v (cellsS (spV next (l.take k))) O ∧ Mem w0 wr (O ++ [(b1, #[.int .u32 next, .slice ba bn bc, .slice pa pn pc])] ++ L) R) (fun _ i _ => pn - (intOf i).toNat)
 case atStart => exact ⟨0, [], Nat.zero_le _, rfl, OwnL.nil 2, hv⟩
 case round =>
   clear hv
   obtain ⟨k, O, hk, rfl, hO, hv⟩ := hrel
   by_cases hk2 : k < pn
   · have hki : (k : Int) < (pn : Int) := by omega
     have hkb : (k : Int) ≤ 1000 := by have := HM.out; omega
     have hkl : k < l.length := by rw [HN.out]; exact hk2
     obtain ⟨⟨sq, dv, d⟩, hx⟩ : ∃ x, l[k] = x := ⟨_, rfl⟩
     have hdm := HA.out l[k] (List.getElem_mem hkl)
     rw [hx] at hdm
     obtain ⟨da, dn, dc, rfl, _⟩ := id (hv.rd hdm)
     have HK : Hid (((cellsP l).drop (k * 2)).take 2 = [.int .u32 sq, .slice da dn dc]) := Lib.hid (by rw [cellsP_part l k hkl, hx])
     have HT : Hid (cellsS (spV next (l.take k)) ++ [.int .i64 (dif sq next), .slice da dn dc] = cellsS (spV next (l.take (k + 1)))) := Lib.hid (by
       rw [List.take_succ_eq_append_getElem hkl, hx]
       simp only [spV, List.map_append, List.map_cons, List.map_nil]
       rw [cellsS_snoc])
     have hln : (cellsS (spV next (l.take k))).length = k * 2 := by rw [cellsS_len]; simp only [spV, List.length_map, List.length_take]; omega
     have hB0 : Hid (∀ y ∈ ([.int .i64 (dif sq next), .slice da dn dc] : List Value), y.oneCell' = true) := Lib.hid (fun y hy => by
       rcases List.mem_cons.1 hy with rfl | hy
       · rfl
       · rw [List.mem_singleton.1 hy]; rfl)
     have hB1 : Hid (((cellsS (spV next (l.take k))).length + ([.int .i64 (dif sq next), .slice da dn dc] : List Value).length) / 2 ≤ maxLen) := Lib.hid (by rw [hln]; simp only [List.length_cons, List.length_nil]; have := HM.out; unfold maxLen; omega)
     have hB2 : Hid (((cellsS (spV next (l.take k))).length + ([.int .i64 (dif sq next), .slice da dn dc] : List Value).length) / 2 * 32 ≤ 140737488355328) := Lib.hid (by rw [hln]; simp only [List.length_cons, List.length_nil]; have := HM.out; omega)
     have hC1 : Hid (([.int .i64 (dif sq next), .slice da dn dc] : List Value).length / 2 ≤ maxLen) := Lib.hid (by simp only [List.length_cons, List.length_nil]; unfold maxLen; omega)
     have hC2 : Hid (([.int .i64 (dif sq next), .slice da dn dc] : List Value).length / 2 * 32 ≤ 140737488355328) := Lib.hid (by simp only [List.length_cons, List.length_nil]; omega)
     obtain ⟨pb, po, _, _, e, _⟩ := (hv.rd HP.out).some (by rw [cellsP_len]; omega)
     cases e
     clear hx hdm hln hkl
     rcases hO with ⟨rfl, hc0, rfl⟩ | ⟨x0, hrow, rfl⟩
     · have HC0 := Lib.hid hc0
       clear hc0
       simp only [List.nil_append, List.cons_append] at hv
       go_wp2_with (first
         | ((with_reducible refine at_load (T := 95) ?_); refine wl_rdv rfl (hv.rd HP.out) (k * 2) rfl 2 _ Try.underlying95 rfl infoPc (by decide) #[.int .u32 sq, .slice da dn dc] HK.out rfl ?_)
         | ((with_reducible refine gAl 95 5 ?_); refine nwB hv #[.int .u32 0, .slice none 0 0] 95 ?_; clear hv; intro b5 w2 hv)
         | ((with_reducible refine gSt 95 ?_); refine stV hv b5 2 infoPc ?_; clear hv; intro w2 hv))
       refine Any.wr2 12 [(2, [1000], none), (4, [1001], none), (7, [1000], none), (9, [], some 6), (10, [6], some 7)] [(9, .bsl 1 #[.int .i64 (dif sq next), .slice da dn dc]), (10, .own (AppRow · 2 [.int .i64 (dif sq next), .slice da dn dc])), (11, .pure)] hv ?_
       simp only [Any.someVals]
       iterate 12 apply Exists.intro
       repeat ((first
        | refine Any.E_off rfl ?_
        | refine Any.ePq ?_
        | ((with_reducible refine Any.gE 22 ?_); refine Any.eC 1000 _ Try.underlying22 ?_)
        | ((with_reducible refine Any.gE 22 ?_); refine Any.eC 1001 _ Try.underlying22 ?_)
        | ((with_reducible refine Any.gE 23 ?_); refine Any.eC 1000 _ Try.underlying23 ?_)
        | (apply Any.E_val rfl rfl rfl rfl
           case h =>
            intro E' hA K hK
            first
             | ((with_reducible refine Any.at_qbuild (T := 92) ?_); refine Any.q_build [(0, .int .i64 (dif sq next)), (1, .slice da dn dc)] rfl (built_sp _ _ _ _) ?_; refine hK _ ?_; rfl)
             | (go_big_quiet_op; first
                | (refine hK _ ?_; rfl)
                | (refine ⟨_, fun _ _ => rfl, ?_⟩; refine hK _ ?_; rfl)
                | (apply Exists.intro; refine ⟨fun w1 hw1 => ?_, ?_⟩; · (first
                    | (go_at_call 68; exact Any.calls_VEq (Diff_any _ _ _) hw1))
                   refine hK _ ?_; rfl))
           case hD => rfl)
        | ((with_reducible refine Any.at_ealloc ?_); refine Any.E_lay rfl rfl rfl (fun _ => rfl) ?_; intro B)
        | ((with_reducible refine Any.at_eapp (t := 89) ?_); refine Any.E_appnil (j := 6) rfl rfl rfl rfl rfl (by decide) rfl rfl rfl hB3 (List.cons_ne_nil _ _) (.agg #[.int .i64 0, .slice none 0 0]) 32 Try.underlying89 infoSpz rfl (by decide) hB0.out hC1.out hC2.out ?_; intro v9 x9 ha9)
        | ((with_reducible refine Any.at_ebsl ?_); refine Any.E_bsl (t := 92) rfl rfl rfl (fun w' => (by unfold execOp; go_simp)) ?_; intro B)); simp only [Act.put, sia, scs, scz])
       try any_goals exact undef
       refine Any.fin2 hv [7, 1001] ?_; clear hv; intro w9 hv
       go_wp2
       go_roundw
       case rel => exact ⟨k + 1, [x9], by omega, by go_num, OwnL.row (by rw [← HT.out, HC0.out]; exact ha9), hv⟩
       case measure => simp [intOf]; omega
     · simp only [List.nil_append, List.cons_append] at hv
       go_wp2_with (first
         | ((with_reducible refine at_load (T := 95) ?_); refine wl_rdv rfl (hv.rd HP.out) (k * 2) rfl 2 _ Try.underlying95 rfl infoPc (by decide) #[.int .u32 sq, .slice da dn dc] HK.out rfl ?_)
         | ((with_reducible refine gAl 95 5 ?_); refine nwB hv #[.int .u32 0, .slice none 0 0] 95 ?_; clear hv; intro b5 w2 hv)
         | ((with_reducible refine gSt 95 ?_); refine stV hv b5 2 infoPc ?_; clear hv; intro w2 hv))
       refine Any.wr3 12 [(2, [1000], none), (4, [1002], none), (7, [1000], none), (9, [], some 6), (10, [6], some 1001)] [(9, .bsl 1 #[.int .i64 (dif sq next), .slice da dn dc]), (10, .own (AppRow · 2 (cellsS (spV next (l.take k)) ++ [.int .i64 (dif sq next), .slice da dn dc]))), (11, .pure)] hv ?_
       simp only [Any.someVals]
       iterate 12 apply Exists.intro
       repeat ((first
        | refine Any.E_off rfl ?_
        | refine Any.ePq ?_
        | ((with_reducible refine Any.gE 22 ?_); refine Any.eC 1000 _ Try.underlying22 ?_)
        | ((with_reducible refine Any.gE 22 ?_); refine Any.eC 1002 _ Try.underlying22 ?_)
        | ((with_reducible refine Any.gE 23 ?_); refine Any.eC 1000 _ Try.underlying23 ?_)
        | (apply Any.E_val rfl rfl rfl rfl
           case h =>
            intro E' hA K hK
            first
             | ((with_reducible refine Any.at_qbuild (T := 92) ?_); refine Any.q_build [(0, .int .i64 (dif sq next)), (1, .slice da dn dc)] rfl (built_sp _ _ _ _) ?_; refine hK _ ?_; rfl)
             | (go_big_quiet_op; first
                | (refine hK _ ?_; rfl)
                | (refine ⟨_, fun _ _ => rfl, ?_⟩; refine hK _ ?_; rfl)
                | (apply Exists.intro; refine ⟨fun w1 hw1 => ?_, ?_⟩; · (first
                    | (go_at_call 68; exact Any.calls_VEq (Diff_any _ _ _) hw1))
                   refine hK _ ?_; rfl))
           case hD => rfl)
        | ((with_reducible refine Any.at_ealloc ?_); refine Any.E_lay rfl rfl rfl (fun _ => rfl) ?_; intro B)
        | ((with_reducible refine Any.at_eapp (t := 89) ?_); refine Any.E_app (j := 6) rfl rfl rfl rfl rfl hrow rfl (by decide) rfl rfl rfl hB3 (.agg #[.int .i64 0, .slice none 0 0]) 32 Try.underlying89 infoSpz rfl (by decide) hB0.out hB1.out hB2.out ?_; intro v9 x9 ha9)
        | ((with_reducible refine Any.at_ebsl ?_); refine Any.E_bsl (t := 92) rfl rfl rfl (fun w' => (by unfold execOp; go_simp)) ?_; intro B)); simp only [Act.put, sia, scs, scz])
       try any_goals exact undef
       refine Any.fin3 hv [1001, 1002] ?_; clear hv; intro w9 hv
       go_wp2
       go_roundw
       case rel => exact ⟨k + 1, [x9], by omega, by go_num, OwnL.row (by rw [← HT.out]; exact ha9), hv⟩
       case measure => simp [intOf]; omega
   · have hki : ¬ (k : Int) < (pn : Int) := by omega
     have hkl : l.take k = l := List.take_of_length_le (by rw [HN.out]; omega)
     rw [hkl] at hO
     obtain ⟨ao, n, cap, rfl, _⟩ := id hO.slice
     go_wp2
     go_ret
     refine ⟨_, _, _, rfl, ?_⟩
     have := hO.yield (A := []) (B := [(b1, #[.int .u32 next, .slice ba bn bc, .slice pa pn pc])] ++ L) (by rw [List.nil_append, ← List.append_assoc]; exact hv)
     exact this.drop
end Go.Proofs.Ythenepdbgeafkaa
end

section
/-
 Check and Room, of the program and of the reference.
-/
namespace Go
theorem Mem.base {w0 w : World} {L : LV} {R : LR} (h : Mem w0 w L R) : Mem w w [] R :=
 ⟨Vars.nil w, fun x hx => ⟨(h.rds x hx).1, fun _ _ _ _ _ _ p hp => (List.not_mem_nil hp).elim⟩⟩
end Go
namespace Go.Proofs.Ythenepdbgeafkaa
open Go.Proofs.Wi Go.RowKit
theorem spOf_drop (l : List SpV) {k : Nat} (hk : k < l.length) {x : SpV} (hx : l[k] = x) : spOf (l.drop k) = (x.1, x.2.2) :: spOf (l.drop (k + 1)) := by
 rw [List.drop_eq_getElem_cons hk, hx]; rfl
theorem chkL_bad {r a : Int} {x : Sp} {t : List Sp} (h : x.2.length = 0 ∨ r < x.2.length ∨ x.1 ≤ a ∨ r - x.2.length < x.1) : chkL r a (x :: t) = false := by
 unfold chkL; exact if_pos h
theorem chkL_good {r a : Int} {x : Sp} {t : List Sp} (h : ¬ (x.2.length = 0 ∨ r < x.2.length ∨ x.1 ≤ a ∨ r - x.2.length < x.1)) : chkL r a (x :: t) = chkL r (x.1 + x.2.length) t := by
 conv => lhs; unfold chkL
 exact if_neg h
theorem Check_any (next : Nat) (ba pa : Option Addr) (bn bc pn pc : Nat) (bs : List Nat) (l : List PcV) (w0 w : World) (L : LV) (R : LR) (hv0 : Mem w0 w L R) (hb : (1, .slice ba bn bc, cellsB bs) ∈ R) (hp : (2, .slice pa pn pc, cellsP l) ∈ R) (hal : AllP R l) (hpn : pn ≤ 1000) (hbn : bs.length ≤ 1000000) (hdl : ∀ p ∈ l, p.2.2.length ≤ 1000000) :
   Calls Try.prog 41 #[.agg #[.int .u32 next, .slice ba bn bc, .slice pa pn pc]] w fun e w' => e = .returned (.bool (chk (stOf next bs l))) ∧ New w w' := by
 have hv := hv0.base
 have HBM := Lib.hid hb
 have HP := Lib.hid hp
 have HA := Lib.hid hal
 have HPN := Lib.hid hpn
 have HDL := Lib.hid hdl
 have hbl := len_rd1 (hv0.rd hb)
 have HLP := Lib.hid (len_rdP (hv0.rd hp))
 have hbn2 : bn ≤ 1000000 := by omega
 obtain ⟨ro, hro⟩ : ∃ ro : Int, ro = 256 - (bn : Int) := ⟨_, rfl⟩
 have qro : IntKind.i64.wrap (256 - (bn : Int)) = ro := by rw [← hro]; exact IntWalk.i64_in _ (by omega)
 clear hv0 hb hp hal hpn hdl
 by_cases hr : ro < 0
 · have e : chk (stOf next bs l) = false := by unfold chk; exact if_pos (show 256 < bs.length by omega)
   rw [e]
   clear hbl hbn hro hbn2 e
   go_enter Try.func41, Try.ntmps41
   go_wp2_with (first
     | ((with_reducible refine gBx 27 1 ?_); refine nwB hv #[.int .u32 next, .slice ba bn bc, .slice pa pn pc] 27 ?_; clear hv; intro b1 w2 hv)
     | ((with_reducible refine gLd 23 ?_); refine ldC hv _ _ _ Try.underlying23 ?_))
   go_ret
   exact ⟨rfl, hv.below⟩
 · have e : chk (stOf next bs l) = chkL ro 0 (spOf (spV next l)) := by
     unfold chk
     rw [if_neg (show ¬ 256 < (stOf next bs l).bytes.length from (by show ¬ 256 < bs.length; omega)), spOf_spV next bs l, hro, ← hbl]; rfl
   rw [e]
   obtain ⟨l', hl'⟩ : ∃ l', spV next l = l' := ⟨_, rfl⟩
   have HL2 : Hid (l'.length = pn) := Lib.hid (by rw [← hl', spV, List.length_map]; exact HLP.out)
   have HA2 : Hid (AllS R l') := Lib.hid (by rw [← hl']; exact spV_all HA.out)
   have HX : Hid (∀ p ∈ l', -2147483648 ≤ p.1 ∧ p.1 ≤ 2147483647 ∧ p.2.2.length ≤ 1000000) := Lib.hid (fun p hp => by
     rw [← hl'] at hp
     obtain ⟨y, hy, rfl⟩ := List.mem_map.1 hp
     exact ⟨dif_lo _ _, dif_hi _ _, HDL.out y hy⟩)
   have HEQ := Lib.hid hl'
   have hro1 : ro ≤ 256 := by omega
   have hro2 : 0 ≤ ro := by omega
   rw [hl']
   obtain ⟨c, hc⟩ : ∃ c, chkL ro 0 (spOf l') = c := ⟨_, rfl⟩
   rw [hc]
   have HC := Lib.hid hc
   clear hbl hbn hro hbn2 e hl' hc hr
   go_enter Try.func41, Try.ntmps41
   go_wp2_with (first
     | ((with_reducible refine gBx 27 1 ?_); refine nwB hv #[.int .u32 next, .slice ba bn bc, .slice pa pn pc] 27 ?_; clear hv; intro b1 w2 hv)
     | ((with_reducible refine gLd 23 ?_); refine ldC hv _ _ _ Try.underlying23 ?_)
     | ((with_reducible refine gLd 27 ?_); refine ldV hv b1 3 Try.underlying27 infoStr ?_)
     | (go_at_call 64; (with_reducible refine (spans_any next ba pa bn bc pn pc l _ _ _ _ hv HP.out HA.out HPN.out).mono ?_); rintro e w1 ⟨sa, sn, sc, rfl, hv1⟩; replace hv := hv1; clear hv1))
   rw [show spV next l = l' from HEQ.out] at hv
   have HSN := Lib.hid (len_rdS (hv.rd Mem.z))
   have hsn : sn ≤ 1000 := by rw [← HSN.out, HL2.out]; exact HPN.out
   go_loopw [4, 16] (fun av i wr => ∃ (k : Nat) (a : Int), k ≤ sn ∧ i = .int .i64 k ∧ av = .int .i64 a ∧ Hid (chkL ro a (spOf (l'.drop k)) = c) ∧ 0 ≤ a ∧ a ≤ 1000000 ∧ Mem w wr [(b1, #[.int .u32 next, .slice ba bn bc, .slice pa pn pc])] ((2, .slice sa sn sc, cellsS l') :: R)) (fun _ i _ => sn - (intOf i).toNat)
   case atStart => exact ⟨0, 0, Nat.zero_le _, rfl, rfl, HC, Int.le_refl _, by omega, hv⟩
   case round =>
     clear hv
     obtain ⟨k, a, hk, rfl, rfl, HI, ha0, ha1, hv⟩ := hrel
     by_cases hk2 : k < sn
     · have hki : (k : Int) < (sn : Int) := by omega
       have hkl : k < l'.length := by rw [HSN.out]; exact hk2
       obtain ⟨⟨x, dv, d⟩, hx⟩ : ∃ x, l'[k] = x := ⟨_, rfl⟩
       have hdm := HA2.out l'[k] (List.getElem_mem hkl)
       have hxb := HX.out l'[k] (List.getElem_mem hkl)
       rw [hx] at hdm hxb
       simp only at hdm hxb
       obtain ⟨da, dn, dc, rfl, _⟩ := id (hv.rd (Mem.s hdm))
       have hdn : d.length = dn := len_rd1 (hv.rd (Mem.s hdm))
       have HK : Hid (((cellsS l').drop (k * 2)).take 2 = [.int .i64 x, .slice da dn dc]) := Lib.hid (by rw [cellsS_part l' k hkl, hx])
       have HD := Lib.hid (spOf_drop l' hkl hx)
       obtain ⟨sb, so, _, _, e, _⟩ := (hv.rd Mem.z).some (by rw [cellsS_len]; omega)
       cases e
       have HX1 : Hid (-4611686018427387904 ≤ x) := Lib.hid (by omega)
       have HX2 : Hid (x ≤ 4611686018427387904) := Lib.hid (by omega)
       have HDN : Hid (dn ≤ 1000000) := Lib.hid (by omega)
       have q1 : IntKind.i64.wrap (ro - (dn : Int)) = ro - (dn : Int) := IntWalk.i64_in _ (by omega)
       have q2 : IntKind.i64.wrap (x + (dn : Int)) = x + (dn : Int) := IntWalk.i64_in _ (by omega)
       have HDD : Hid (d.length = dn) := Lib.hid hdn
       have HXB := Lib.hid hxb
       clear hx hdm hkl hdn hxb
       by_cases f1 : dn = 0
       · have hc0 : c = false := by
           have := HI.out
           rw [HD.out, chkL_bad (by simp only [HDD.out]; omega)] at this
           exact this.symm
         subst hc0
         have yf1 : ((dn : Int) == 0) = true := by rw [beq_iff_eq]; omega
         go_wp2_with (first
           | ((with_reducible refine at_load (T := 92) ?_); refine wl_rdv rfl (hv.rd Mem.z) (k * 2) rfl 2 _ Try.underlying92 rfl infoSp (by decide) #[.int .i64 x, .slice da dn dc] HK.out rfl ?_)
           | ((with_reducible refine gAl 92 6 ?_); refine nwB hv #[.int .i64 0, .slice none 0 0] 92 ?_; clear hv; intro b6 w2 hv)
           | ((with_reducible refine gSt 92 ?_); refine stV hv b6 2 infoSp ?_; clear hv; intro w2 hv)
           | ((with_reducible refine gLd 23 ?_); refine ldC hv _ _ _ Try.underlying23 ?_)
           | ((with_reducible refine gLd 3 ?_); refine ldC hv _ _ _ Try.underlying3 ?_))
         go_ret
         exact ⟨rfl, hv.below⟩
       · skip
         by_cases f2 : ro < (dn : Int)
         · have hc0 : c = false := by
             have := HI.out
             rw [HD.out, chkL_bad (by simp only [HDD.out]; omega)] at this
             exact this.symm
           subst hc0
           have yf1 : ((dn : Int) == 0) = false := by rw [beq_eq_false_iff_ne]; omega
           have yf2 : decide (ro < (dn : Int)) = true := decide_eq_true f2
           go_wp2_with (first
             | ((with_reducible refine at_load (T := 92) ?_); refine wl_rdv rfl (hv.rd Mem.z) (k * 2) rfl 2 _ Try.underlying92 rfl infoSp (by decide) #[.int .i64 x, .slice da dn dc] HK.out rfl ?_)
             | ((with_reducible refine gAl 92 6 ?_); refine nwB hv #[.int .i64 0, .slice none 0 0] 92 ?_; clear hv; intro b6 w2 hv)
             | ((with_reducible refine gSt 92 ?_); refine stV hv b6 2 infoSp ?_; clear hv; intro w2 hv)
             | ((with_reducible refine gLd 23 ?_); refine ldC hv _ _ _ Try.underlying23 ?_)
             | ((with_reducible refine gLd 3 ?_); refine ldC hv _ _ _ Try.underlying3 ?_))
           go_ret
           exact ⟨rfl, hv.below⟩
         · skip
           by_cases f3 : x ≤ a
           · have hc0 : c = false := by
               have := HI.out
               rw [HD.out, chkL_bad (by simp only [HDD.out]; omega)] at this
               exact this.symm
             subst hc0
             have yf1 : ((dn : Int) == 0) = false := by rw [beq_eq_false_iff_ne]; omega
             have yf2 : decide (ro < (dn : Int)) = false := decide_eq_false f2
             have yf3 : decide (x ≤ a) = true := decide_eq_true f3
             go_wp2_with (first
               | ((with_reducible refine at_load (T := 92) ?_); refine wl_rdv rfl (hv.rd Mem.z) (k * 2) rfl 2 _ Try.underlying92 rfl infoSp (by decide) #[.int .i64 x, .slice da dn dc] HK.out rfl ?_)
               | ((with_reducible refine gAl 92 6 ?_); refine nwB hv #[.int .i64 0, .slice none 0 0] 92 ?_; clear hv; intro b6 w2 hv)
               | ((with_reducible refine gSt 92 ?_); refine stV hv b6 2 infoSp ?_; clear hv; intro w2 hv)
               | ((with_reducible refine gLd 23 ?_); refine ldC hv _ _ _ Try.underlying23 ?_)
               | ((with_reducible refine gLd 3 ?_); refine ldC hv _ _ _ Try.underlying3 ?_))
             go_ret
             exact ⟨rfl, hv.below⟩
           · skip
             by_cases f4 : ro - (dn : Int) < x
             · have hc0 : c = false := by
                 have := HI.out
                 rw [HD.out, chkL_bad (by simp only [HDD.out]; omega)] at this
                 exact this.symm
               subst hc0
               have yf1 : ((dn : Int) == 0) = false := by rw [beq_eq_false_iff_ne]; omega
               have yf2 : decide (ro < (dn : Int)) = false := decide_eq_false f2
               have yf3 : decide (x ≤ a) = false := decide_eq_false f3
               have yf4 : decide (ro - (dn : Int) < x) = true := decide_eq_true f4
               go_wp2_with (first
                 | ((with_reducible refine at_load (T := 92) ?_); refine wl_rdv rfl (hv.rd Mem.z) (k * 2) rfl 2 _ Try.underlying92 rfl infoSp (by decide) #[.int .i64 x, .slice da dn dc] HK.out rfl ?_)
                 | ((with_reducible refine gAl 92 6 ?_); refine nwB hv #[.int .i64 0, .slice none 0 0] 92 ?_; clear hv; intro b6 w2 hv)
                 | ((with_reducible refine gSt 92 ?_); refine stV hv b6 2 infoSp ?_; clear hv; intro w2 hv)
                 | ((with_reducible refine gLd 23 ?_); refine ldC hv _ _ _ Try.underlying23 ?_)
                 | ((with_reducible refine gLd 3 ?_); refine ldC hv _ _ _ Try.underlying3 ?_))
               go_ret
               exact ⟨rfl, hv.below⟩
             · have HI2 : Hid (chkL ro (x + (dn : Int)) (spOf (l'.drop (k + 1))) = c) := Lib.hid (by
                 have := HI.out
                 rw [HD.out, chkL_good (by simp only [HDD.out]; omega)] at this
                 simp only [HDD.out] at this
                 exact this)
               have yf1 : ((dn : Int) == 0) = false := by rw [beq_eq_false_iff_ne]; omega
               have yf2 : decide (ro < (dn : Int)) = false := decide_eq_false f2
               have yf3 : decide (x ≤ a) = false := decide_eq_false f3
               have yf4 : decide (ro - (dn : Int) < x) = false := decide_eq_false f4
               go_wp2_with (first
                 | ((with_reducible refine at_load (T := 92) ?_); refine wl_rdv rfl (hv.rd Mem.z) (k * 2) rfl 2 _ Try.underlying92 rfl infoSp (by decide) #[.int .i64 x, .slice da dn dc] HK.out rfl ?_)
                 | ((with_reducible refine gAl 92 6 ?_); refine nwB hv #[.int .i64 0, .slice none 0 0] 92 ?_; clear hv; intro b6 w2 hv)
                 | ((with_reducible refine gSt 92 ?_); refine stV hv b6 2 infoSp ?_; clear hv; intro w2 hv)
                 | ((with_reducible refine gLd 92 ?_); refine ldV hv b6 2 Try.underlying92 infoSp ?_)
                 | (go_at_call 65; (with_reducible refine (end_any _ _ _ _ HX1.out HX2.out HDN.out _).mono ?_); rintro e w1 ⟨rfl, hn1⟩; replace hv := hv.new hn1; clear hn1)
                 | ((with_reducible refine gLd 23 ?_); refine ldC hv _ _ _ Try.underlying23 ?_)
                 | ((with_reducible refine gLd 3 ?_); refine ldC hv _ _ _ Try.underlying3 ?_))
               go_roundw
               case rel => exact ⟨k + 1, x + (dn : Int), by omega, by go_num, rfl, HI2, by have := HXB.out; omega, by omega, hv.drop⟩
               case measure => simp [intOf]; omega
     · have hki : ¬ (k : Int) < (sn : Int) := by omega
       have hc0 : c = true := by
         have := HI.out
         rw [List.drop_eq_nil_of_le (by rw [HSN.out]; omega)] at this
         exact this.symm
       subst hc0
       go_wp2
       go_ret
       exact ⟨rfl, hv.below⟩
theorem Room_any (next : Nat) (ba pa : Option Addr) (bn bc pn pc : Nat) (bs : List Nat) (l : List PcV) (w0 w : World) (L : LV) (R : LR) (hv0 : Mem w0 w L R) (hb : (1, .slice ba bn bc, cellsB bs) ∈ R) (hp : (2, .slice pa pn pc, cellsP l) ∈ R) (hal : AllP R l) (hpn : pn ≤ 1000) (hbn : bs.length ≤ 1000000) (hdl : ∀ p ∈ l, p.2.2.length ≤ 1000000) :
   Calls Try.prog 36 #[.agg #[.int .u32 next, .slice ba bn bc, .slice pa pn pc]] w fun e w' => e = .returned (.int .i64 (room (stOf next bs l))) ∧ New w w' := by
 have hv := hv0.base
 have HBM := Lib.hid hb
 have HP := Lib.hid hp
 have HA := Lib.hid hal
 have HPN := Lib.hid hpn
 have HDL := Lib.hid hdl
 have hbl := len_rd1 (hv0.rd hb)
 have HLP := Lib.hid (len_rdP (hv0.rd hp))
 have hbn2 : bn ≤ 1000000 := by omega
 obtain ⟨ro, hro⟩ : ∃ ro : Int, ro = 256 - (bn : Int) := ⟨_, rfl⟩
 have qro : IntKind.i64.wrap (256 - (bn : Int)) = ro := by rw [← hro]; exact IntWalk.i64_in _ (by omega)
 have HBN := Lib.hid hbn
 have e : room (stOf next bs l) = if chk (stOf next bs l) then ro else 0 := by unfold room; rw [hro, ← hbl]; rfl
 rw [e]
 have kC := fun w0' w' L' R' h1 h2 h3 h4 => Check_any next ba pa bn bc pn pc bs l w0' w' L' R' h1 h2 h3 h4 hpn hbn hdl
 generalize chk (stOf next bs l) = c at *
 clear hv0 hb hp hal hpn hdl hbl hbn hro hbn2 e
 cases c
 · go_enter Try.func36, Try.ntmps36
   go_wp2_with (first
     | ((with_reducible refine gBx 27 1 ?_); refine nwB hv #[.int .u32 next, .slice ba bn bc, .slice pa pn pc] 27 ?_; clear hv; intro b1 w2 hv)
     | ((with_reducible refine gLd 27 ?_); refine ldV hv b1 3 Try.underlying27 infoStr ?_)
     | (go_at_call 41; (with_reducible refine (kC _ _ _ _ hv HBM.out HP.out HA.out).mono ?_); rintro e w1 ⟨rfl, hn1⟩; replace hv := hv.new hn1; clear hn1)
     | ((with_reducible refine gLd 23 ?_); refine ldC hv _ _ _ Try.underlying23 ?_))
   go_ret
   exact ⟨rfl, hv.below⟩
 · go_enter Try.func36, Try.ntmps36
   go_wp2_with (first
     | ((with_reducible refine gBx 27 1 ?_); refine nwB hv #[.int .u32 next, .slice ba bn bc, .slice pa pn pc] 27 ?_; clear hv; intro b1 w2 hv)
     | ((with_reducible refine gLd 27 ?_); refine ldV hv b1 3 Try.underlying27 infoStr ?_)
     | (go_at_call 41; (with_reducible refine (kC _ _ _ _ hv HBM.out HP.out HA.out).mono ?_); rintro e w1 ⟨rfl, hn1⟩; replace hv := hv.new hn1; clear hn1)
     | ((with_reducible refine gLd 23 ?_); refine ldC hv _ _ _ Try.underlying23 ?_))
   go_ret
   exact ⟨rfl, hv.below⟩
end Go.Proofs.Ythenepdbgeafkaa
end

section
/-
 The part of a span between two places: within.
-/
namespace Go.Proofs.Ythenepdbgeafkaa
open Go.Proofs.Wi Go.RowKit
theorem built_sp0 : Try.prog.built 92 [] = some #[.int .i64 0, .slice none 0 0] := by kernel_rfl
theorem infoB1 : (Try.prog.info? 5).map (·.size) = some 1 := by kernel_rfl
def WithinR (w0 : World) (L : LV) (R : LR) (r : Option Sp) (e : Ending) (w' : World) : Prop :=
 match r with
 | none => e = .returned (.tuple #[.agg #[.int .i64 0, .slice none 0 0], .bool false]) ∧ Mem w0 w' L R
 | some y => ∃ ao n cap, e = .returned (.tuple #[.agg #[.int .i64 y.1, .slice ao n cap], .bool true]) ∧ Mem w0 w' L ((1, .slice ao n cap, cellsB y.2) :: R)
theorem within_no (x fr tt : Int) (da : Option Addr) (dn dc : Nat) (d : List Nat) (w0 w : World) (L : LV) (R : LR) (hv0 : Mem w0 w L R) (hd : (1, .slice da dn dc, cellsB d) ∈ R) (hx1 : -1000000000000 ≤ x) (hx2 : x ≤ 1000000000000) (hf1 : -1000000000000 ≤ fr) (hf2 : fr ≤ 1000000000000) (ht1 : -1000000000000 ≤ tt) (ht2 : tt ≤ 1000000000000) (hdn : dn ≤ 1000000) (P Q : Int) (hP : (x < fr ∧ fr = P) ∨ (¬ x < fr ∧ x = P)) (hQ : (tt < x + (dn : Int) ∧ tt = Q) ∨ (¬ tt < x + (dn : Int) ∧ x + (dn : Int) = Q)) (hle : Q ≤ P) :
   Calls Try.prog 79 #[.agg #[.int .i64 x, .slice da dn dc], .int .i64 fr, .int .i64 tt] w (WithinR w0 L R (within (x, d) fr tt)) := by
 have EN1 : Hid (∀ w', Calls Try.prog 65 #[.agg #[.int .i64 x, .slice da dn dc]] w' fun e w2 => e = .returned (.int .i64 (x + (dn : Int))) ∧ New w' w2) := Lib.hid (fun w' => end_any x da dn dc (by omega) (by omega) hdn w')
 have hv := hv0
 have HD := Lib.hid hd
 have hld := len_rd1 (hv0.rd hd)
 rw [show within (x, d) fr tt = none from by unfold within; exact if_pos (by simp only [hld]; omega)]
 have y1 : decide (Q ≤ P) = true := decide_eq_true hle
 clear hv0 hd hx1 hx2 hf1 hf2 ht1 ht2 hdn hld
 rcases hP with ⟨hp, rfl⟩ | ⟨hp, rfl⟩
 all_goals rcases hQ with ⟨hq, rfl⟩ | ⟨hq, rfl⟩
 all_goals first
   | (have hpg : fr > x := hp)
   | (have hpg : ¬ fr > x := hp)
 all_goals
   go_enter Try.func79, Try.ntmps79
   go_wp2_with (first
     | ((with_reducible refine gBx 92 3 ?_); refine nwB hv #[.int .i64 x, .slice da dn dc] 92 ?_; clear hv; intro b3 w2 hv)
     | ((with_reducible refine gAl 92 6 ?_); refine nwB hv #[.int .i64 0, .slice none 0 0] 92 ?_; clear hv; intro b6 w2 hv))
   refine Any.wr2 10 [(1, [1001], none), (4, [1001], none)] [] hv ?_
   simp only [Any.someVals]
   iterate 10 apply Exists.intro
   repeat ((first
    | refine Any.E_off rfl ?_
    | ((with_reducible refine Any.gE 92 ?_); refine Any.eW 1001 2 Try.underlying92 infoSp ?_)
    | ((with_reducible refine Any.gE 3 ?_); refine Any.eC 1001 _ Try.underlying3 ?_)
    | (apply Any.E_val rfl rfl rfl rfl
       case h =>
        intro E' hA K hK
        first
         | (go_big_quiet_op; first
            | (refine hK _ ?_; rfl)
            | (refine ⟨_, fun _ _ => rfl, ?_⟩; refine hK _ ?_; rfl)
            | (apply Exists.intro; refine ⟨fun w1 hw1 => ?_, ?_⟩; · (first
                | (go_at_call 65; exact Any.calls_VE (EN1.out _) hw1))
               refine hK _ ?_; rfl))
       case hD => rfl)); simp only [Act.put, sia, scs, scz])
   try any_goals exact undef
   refine Any.fin2 hv [1000, 1001] ?_; clear hv; intro w9 hv
   go_wp2_with (first
     | ((with_reducible refine at_build (T := 92) ?_); refine wl_build rfl _ rfl built_sp0 ?_)
     | ((with_reducible refine gSt 92 ?_); refine stV hv b6 2 infoSp ?_; clear hv; intro w2 hv))
   refine ret_cell2 Try.results79 rfl (read_row _ b6 92 _ hv.vars.ro 2 _ Try.underlying92 rfl infoSp (by decide) rfl) rfl rfl ⟨rfl, hv.drop.drop⟩
theorem within_yes (x fr tt : Int) (da : Option Addr) (dn dc : Nat) (d : List Nat) (w0 w : World) (L : LV) (R : LR) (hv0 : Mem w0 w L R) (hd : (1, .slice da dn dc, cellsB d) ∈ R) (hx1 : -1000000000000 ≤ x) (hx2 : x ≤ 1000000000000) (hf1 : -1000000000000 ≤ fr) (hf2 : fr ≤ 1000000000000) (ht1 : -1000000000000 ≤ tt) (ht2 : tt ≤ 1000000000000) (hdn : dn ≤ 1000000) (P Q : Int) (hP : (x < fr ∧ fr = P) ∨ (¬ x < fr ∧ x = P)) (hQ : (tt < x + (dn : Int) ∧ tt = Q) ∨ (¬ tt < x + (dn : Int) ∧ x + (dn : Int) = Q)) (hlt : P < Q) :
   Calls Try.prog 79 #[.agg #[.int .i64 x, .slice da dn dc], .int .i64 fr, .int .i64 tt] w (WithinR w0 L R (within (x, d) fr tt)) := by
 have hdc : dn ≤ dc := by
   obtain ⟨_, _, _, e, _, g, _⟩ := hv0.rd hd
   cases e; exact g
 have EN1 : Hid (∀ w', Calls Try.prog 65 #[.agg #[.int .i64 x, .slice da dn dc]] w' fun e w2 => e = .returned (.int .i64 (x + (dn : Int))) ∧ New w' w2) := Lib.hid (fun w' => end_any x da dn dc (by omega) (by omega) hdn w')
 have hv := hv0
 have HD := Lib.hid hd
 have hld := len_rd1 (hv0.rd hd)
 obtain ⟨l, hl⟩ : ∃ l : Nat, P - x = (l : Int) := ⟨(P - x).toNat, by omega⟩
 obtain ⟨h, hh⟩ : ∃ h : Nat, Q - x = (h : Int) := ⟨(Q - x).toNat, by omega⟩
 have ql : IntKind.i64.wrap (P - x) = (l : Int) := by rw [hl]; exact IntWalk.i64_in _ (by omega)
 have qh : IntKind.i64.wrap (Q - x) = (h : Int) := by rw [hh]; exact IntWalk.i64_in _ (by omega)
 have qh2 : IntKind.i64.wrap (h : Int) = (h : Int) := IntWalk.i64_in _ (by omega)
 have e : within (x, d) fr tt = some (P, (d.drop l).take (h - l)) := by
   unfold within
   rw [if_neg (by simp only [hld]; omega)]
   simp only [Option.some.injEq, Prod.mk.injEq, hld]
   refine ⟨by omega, ?_⟩
   congr 1
   · omega
   · congr 1
     omega
 rw [e]
 have HLH : Hid (l ≤ h) := Lib.hid (by omega)
 have HHN : Hid (h ≤ dn) := Lib.hid (by omega)
 have HHC : Hid (h ≤ dc) := Lib.hid (by omega)
 have HCE : Hid (((cellsB d).drop (l * 1)).take ((h - l) * 1) = cellsB ((d.drop l).take (h - l))) := Lib.hid (by simp [cellsB, List.map_take, List.map_drop])
 have y1 : decide (Q ≤ P) = false := decide_eq_false (by omega)
 replace hl : ¬ x < fr → l = 0 := fun h => by omega
 clear hv0 hd hx1 hx2 hf1 hf2 ht1 ht2 hdn e hdc hlt hh hld
 rcases hP with ⟨hp, rfl⟩ | ⟨hp, rfl⟩
 all_goals rcases hQ with ⟨hq, rfl⟩ | ⟨hq, rfl⟩
 all_goals try (have hl2 := hl hp; subst hl2)
 all_goals try (clear hl)
 all_goals first
   | (have hpg : fr > x := hp)
   | (have hpg : ¬ fr > x := hp)
 all_goals
   go_enter Try.func79, Try.ntmps79
   go_wp2_with (first
     | ((with_reducible refine gBx 92 3 ?_); refine nwB hv #[.int .i64 x, .slice da dn dc] 92 ?_; clear hv; intro b3 w2 hv)
     | ((with_reducible refine gAl 92 6 ?_); refine nwB hv #[.int .i64 0, .slice none 0 0] 92 ?_; clear hv; intro b6 w2 hv))
   refine Any.wr2 10 [(1, [1001], none), (4, [1001], none)] [] hv ?_
   simp only [Any.someVals]
   iterate 10 apply Exists.intro
   repeat ((first
    | refine Any.E_off rfl ?_
    | ((with_reducible refine Any.gE 92 ?_); refine Any.eW 1001 2 Try.underlying92 infoSp ?_)
    | ((with_reducible refine Any.gE 3 ?_); refine Any.eC 1001 _ Try.underlying3 ?_)
    | (apply Any.E_val rfl rfl rfl rfl
       case h =>
        intro E' hA K hK
        first
         | (go_big_quiet_op; first
            | (refine hK _ ?_; rfl)
            | (refine ⟨_, fun _ _ => rfl, ?_⟩; refine hK _ ?_; rfl)
            | (apply Exists.intro; refine ⟨fun w1 hw1 => ?_, ?_⟩; · (first
                | (go_at_call 65; exact Any.calls_VE (EN1.out _) hw1))
               refine hK _ ?_; rfl))
       case hD => rfl)); simp only [Act.put, sia, scs, scz])
   try any_goals exact undef
   refine Any.fin2 hv [1000, 1001] ?_; clear hv; intro w9 hv
   go_wp2_with (first
     | ((with_reducible refine gLd 23 ?_); refine ldC hv _ _ _ Try.underlying23 ?_)
     | ((with_reducible refine gLd 3 ?_); refine ldC hv _ _ _ Try.underlying3 ?_)
     | ((with_reducible refine at_slice (T := 23) ?_); refine wl_slice_lhm rfl rfl hv HD.out Try.underlying23 infoB1 0 h h rfl rfl rfl HLH.out HHN.out (Nat.le_refl _) HHC.out ?_; intro ao hv1; replace hv := hv1; clear hv1)
     | ((with_reducible refine at_slice (T := 23) ?_); refine wl_slice_lhm rfl rfl hv HD.out Try.underlying23 infoB1 l h h rfl rfl rfl HLH.out HHN.out (Nat.le_refl _) HHC.out ?_; intro ao hv1; replace hv := hv1; clear hv1)
     | ((with_reducible refine at_build (T := 92) ?_); refine wl_build rfl _ rfl (built_sp _ _ _ _) ?_)
     | ((with_reducible refine gSt 92 ?_); refine stV hv b6 2 infoSp ?_; clear hv; intro w2 hv))
   rw [HCE.out] at hv
   refine ret_cell2 Try.results79 rfl (read_row _ b6 92 _ hv.vars.ro 2 _ Try.underlying92 rfl infoSp (by decide) rfl) rfl rfl ⟨_, _, _, rfl, hv.drop.drop⟩
theorem within_any (x fr tt : Int) (da : Option Addr) (dn dc : Nat) (d : List Nat) (w0 w : World) (L : LV) (R : LR) (hv0 : Mem w0 w L R) (hd : (1, .slice da dn dc, cellsB d) ∈ R) (hx1 : -1000000000000 ≤ x) (hx2 : x ≤ 1000000000000) (hf1 : -1000000000000 ≤ fr) (hf2 : fr ≤ 1000000000000) (ht1 : -1000000000000 ≤ tt) (ht2 : tt ≤ 1000000000000) (hdn : dn ≤ 1000000) : Calls Try.prog 79 #[.agg #[.int .i64 x, .slice da dn dc], .int .i64 fr, .int .i64 tt] w (WithinR w0 L R (within (x, d) fr tt)) := by
 have hP : ∃ P, (x < fr ∧ fr = P) ∨ (¬ x < fr ∧ x = P) := by
   by_cases h : x < fr
   · exact ⟨fr, .inl ⟨h, rfl⟩⟩
   · exact ⟨x, .inr ⟨h, rfl⟩⟩
 have hQ : ∃ Q, (tt < x + (dn : Int) ∧ tt = Q) ∨ (¬ tt < x + (dn : Int) ∧ x + (dn : Int) = Q) := by
   by_cases h : tt < x + (dn : Int)
   · exact ⟨tt, .inl ⟨h, rfl⟩⟩
   · exact ⟨_, .inr ⟨h, rfl⟩⟩
 obtain ⟨P, hP⟩ := hP
 obtain ⟨Q, hQ⟩ := hQ
 by_cases hle : Q ≤ P
 · exact within_no x fr tt da dn dc d w0 w L R hv0 hd hx1 hx2 hf1 hf2 ht1 ht2 hdn P Q hP hQ hle
 · exact within_yes x fr tt da dn dc d w0 w L R hv0 hd hx1 hx2 hf1 hf2 ht1 ht2 hdn P Q hP hQ (by omega)
end Go.Proofs.Ythenepdbgeafkaa
end

section
/-
 within again: its value as it is; nothing is read.
-/
namespace Go.Proofs.Ythenepdbgeafkaa
open Go.Proofs.Wi Go.RowKit
theorem withinv_no (x fr tt : Int) (da : Option Addr) (dn dc : Nat) (d : List Nat) (hld : d.length = dn) (hdc : dn ≤ dc) (hx1 : -1000000000000 ≤ x) (hx2 : x ≤ 1000000000000) (hf1 : -1000000000000 ≤ fr) (hf2 : fr ≤ 1000000000000) (ht1 : -1000000000000 ≤ tt) (ht2 : tt ≤ 1000000000000) (hdn : dn ≤ 1000000) (P Q : Int) (hP : (x < fr ∧ fr = P) ∨ (¬ x < fr ∧ x = P)) (hQ : (tt < x + (dn : Int) ∧ tt = Q) ∨ (¬ tt < x + (dn : Int) ∧ x + (dn : Int) = Q)) (hle : Q ≤ P) : within (x, d) fr tt = none ∧ ∀ w, Calls Try.prog 79 #[.agg #[.int .i64 x, .slice da dn dc], .int .i64 fr, .int .i64 tt] w fun e w' => e = .returned (.tuple #[.agg #[.int .i64 0, .slice none 0 0], .bool false]) ∧ New w w' := by
 refine ⟨by unfold within; exact if_pos (by simp only [hld]; omega), fun w => ?_⟩
 have hv := Mem.nil w
 have EN1 : Hid (∀ w', Calls Try.prog 65 #[.agg #[.int .i64 x, .slice da dn dc]] w' fun e w2 => e = .returned (.int .i64 (x + (dn : Int))) ∧ New w' w2) := Lib.hid (fun w' => end_any x da dn dc (by omega) (by omega) hdn w')
 have y1 : decide (Q ≤ P) = true := decide_eq_true hle
 clear hx1 hx2 hf1 hf2 ht1 ht2 hdn hld
 rcases hP with ⟨hp, rfl⟩ | ⟨hp, rfl⟩
 all_goals rcases hQ with ⟨hq, rfl⟩ | ⟨hq, rfl⟩
 all_goals first
   | (have hpg : fr > x := hp)
   | (have hpg : ¬ fr > x := hp)
 all_goals
   go_enter Try.func79, Try.ntmps79
   go_wp2_with (first
     | ((with_reducible refine gBx 92 3 ?_); refine nwB hv #[.int .i64 x, .slice da dn dc] 92 ?_; clear hv; intro b3 w2 hv)
     | ((with_reducible refine gAl 92 6 ?_); refine nwB hv #[.int .i64 0, .slice none 0 0] 92 ?_; clear hv; intro b6 w2 hv))
   refine Any.wp_region_walk [⟨[], none⟩, ⟨[1001], none⟩, ⟨[], none⟩, ⟨[], none⟩, ⟨[1001], none⟩] [.val] (by kernel_rfl) (by kernel_rfl) hv.vars ?_
   simp only [List.length_cons, List.length_nil, Nat.zero_add, Any.someVals]
   iterate 10 apply Exists.intro
   repeat (first
     | (refine Any.E_off rfl ?_; simp only [Act.put, sia, scs, scz])
     | (apply Any.E_pureq rfl rfl rfl
        case h => intro K hK; go_big_quiet_op; (refine hK _ ?_; rfl)
        case hr => exact fun _ => rfl
        simp only [Act.put, sia, scs, scz])
     | (apply Any.E_val rfl rfl rfl rfl
        case h =>
          intro E' hA K hK
          first
            | ((with_reducible refine Any.at_qload (T := 92) ?_); refine Any.q_ldv 1001 hA (by decide) rfl rfl 2 _ Try.underlying92 rfl infoSp (by decide) rfl ?_; refine hK _ ?_; rfl)
            | ((with_reducible refine Any.at_qload (T := 3) ?_); refine Any.q_ldc 1001 hA (by decide) rfl rfl _ Try.underlying3 rfl _ rfl ?_; refine hK _ ?_; rfl)
            | (go_big_quiet_op; first
              | (refine hK _ ?_; rfl)
              | (refine ⟨_, fun _ _ => rfl, ?_⟩; refine hK _ ?_; rfl)
              | (apply Exists.intro; refine ⟨fun w1 hw1 => ?_, ?_⟩; · (first
                  | (go_at_call 65; exact Any.calls_VE (EN1.out _) hw1))
                 refine hK _ ?_; rfl))
        case hD => rfl
        simp only [Act.put, sia, scs, scz])
     | ((with_reducible refine Any.at_ealloc ?_); refine Any.E_lay rfl rfl rfl (fun _ => rfl) ?_; intro B; simp only [Act.put, sia, scs, scz]))
   try any_goals exact undef
   refine Any.E_nil ?_
   intro w9 hE9
   replace hv : Mem w w9 [(b6, #[.int .i64 0, .slice none 0 0]), (b3, #[.int .i64 x, .slice da dn dc])] [] := hE9.mem hv [1000, 1001] (by decide)
   clear hE9
   go_wp2_with (first
     | ((with_reducible refine at_build (T := 92) ?_); refine wl_build rfl _ rfl built_sp0 ?_)
     | ((with_reducible refine gSt 92 ?_); refine stV hv b6 2 infoSp ?_; clear hv; intro w2 hv))
   refine ret_cell2 Try.results79 rfl (read_row _ b6 92 _ hv.vars.ro 2 _ Try.underlying92 rfl infoSp (by decide) rfl) rfl rfl ⟨rfl, hv.below⟩
theorem withinv_yes (x fr tt : Int) (da : Option Addr) (dn dc : Nat) (d : List Nat) (hld : d.length = dn) (hdc : dn ≤ dc) (hx1 : -1000000000000 ≤ x) (hx2 : x ≤ 1000000000000) (hf1 : -1000000000000 ≤ fr) (hf2 : fr ≤ 1000000000000) (ht1 : -1000000000000 ≤ tt) (ht2 : tt ≤ 1000000000000) (hdn : dn ≤ 1000000) (P Q : Int) (hP : (x < fr ∧ fr = P) ∨ (¬ x < fr ∧ x = P)) (hQ : (tt < x + (dn : Int) ∧ tt = Q) ∨ (¬ tt < x + (dn : Int) ∧ x + (dn : Int) = Q)) (hlt : P < Q) : ∃ l h : Nat, l ≤ h ∧ h ≤ dn ∧ within (x, d) fr tt = some (P, (d.drop l).take (h - l)) ∧ ∀ w, Calls Try.prog 79 #[.agg #[.int .i64 x, .slice da dn dc], .int .i64 fr, .int .i64 tt] w fun e w' => e = .returned (.tuple #[.agg #[.int .i64 P, sliced da l h h 1], .bool true]) ∧ New w w' := by
 obtain ⟨l, hl⟩ : ∃ l : Nat, P - x = (l : Int) := ⟨(P - x).toNat, by omega⟩
 obtain ⟨h, hh⟩ : ∃ h : Nat, Q - x = (h : Int) := ⟨(Q - x).toNat, by omega⟩
 have ql : IntKind.i64.wrap (P - x) = (l : Int) := by rw [hl]; exact IntWalk.i64_in _ (by omega)
 have qh : IntKind.i64.wrap (Q - x) = (h : Int) := by rw [hh]; exact IntWalk.i64_in _ (by omega)
 have qh2 : IntKind.i64.wrap (h : Int) = (h : Int) := IntWalk.i64_in _ (by omega)
 have HLH : Hid (l ≤ h) := Lib.hid (by omega)
 have HHC : Hid (h ≤ dc) := Lib.hid (by omega)
 refine ⟨l, h, HLH.out, by omega, ?_, fun w => ?_⟩
 · unfold within
   rw [if_neg (by simp only [hld]; omega)]
   simp only [Option.some.injEq, Prod.mk.injEq, hld]
   refine ⟨by omega, ?_⟩
   congr 1
   · omega
   · congr 1
     omega
 obtain ⟨ua, hua⟩ : ∃ ua, sliced da l h h 1 = .slice ua (h - l) (h - l) := ⟨_, rfl⟩
 rw [hua]
 have HU := Lib.hid hua
 clear hua
 have hv := Mem.nil w
 have EN1 : Hid (∀ w', Calls Try.prog 65 #[.agg #[.int .i64 x, .slice da dn dc]] w' fun e w2 => e = .returned (.int .i64 (x + (dn : Int))) ∧ New w' w2) := Lib.hid (fun w' => end_any x da dn dc (by omega) (by omega) hdn w')
 have y1 : decide (Q ≤ P) = false := decide_eq_false (by omega)
 replace hl : ¬ x < fr → l = 0 := fun h => by omega
 clear hx1 hx2 hf1 hf2 ht1 ht2 hdn hlt hh hld
 rcases hP with ⟨hp, rfl⟩ | ⟨hp, rfl⟩
 all_goals rcases hQ with ⟨hq, rfl⟩ | ⟨hq, rfl⟩
 all_goals try (have hl2 := hl hp; subst hl2)
 all_goals try (clear hl)
 all_goals first
   | (have hpg : fr > x := hp)
   | (have hpg : ¬ fr > x := hp)
 all_goals
   go_enter Try.func79, Try.ntmps79
   go_wp2_with (first
     | ((with_reducible refine gBx 92 3 ?_); refine nwB hv #[.int .i64 x, .slice da dn dc] 92 ?_; clear hv; intro b3 w2 hv)
     | ((with_reducible refine gAl 92 6 ?_); refine nwB hv #[.int .i64 0, .slice none 0 0] 92 ?_; clear hv; intro b6 w2 hv))
   refine Any.wp_region_walk [⟨[], none⟩, ⟨[1001], none⟩, ⟨[], none⟩, ⟨[], none⟩, ⟨[1001], none⟩] [.val] (by kernel_rfl) (by kernel_rfl) hv.vars ?_
   simp only [List.length_cons, List.length_nil, Nat.zero_add, Any.someVals]
   iterate 10 apply Exists.intro
   repeat (first
     | (refine Any.E_off rfl ?_; simp only [Act.put, sia, scs, scz])
     | (apply Any.E_pureq rfl rfl rfl
        case h => intro K hK; go_big_quiet_op; (refine hK _ ?_; rfl)
        case hr => exact fun _ => rfl
        simp only [Act.put, sia, scs, scz])
     | (apply Any.E_val rfl rfl rfl rfl
        case h =>
          intro E' hA K hK
          first
            | ((with_reducible refine Any.at_qload (T := 92) ?_); refine Any.q_ldv 1001 hA (by decide) rfl rfl 2 _ Try.underlying92 rfl infoSp (by decide) rfl ?_; refine hK _ ?_; rfl)
            | ((with_reducible refine Any.at_qload (T := 3) ?_); refine Any.q_ldc 1001 hA (by decide) rfl rfl _ Try.underlying3 rfl _ rfl ?_; refine hK _ ?_; rfl)
            | (go_big_quiet_op; first
              | (refine hK _ ?_; rfl)
              | (refine ⟨_, fun _ _ => rfl, ?_⟩; refine hK _ ?_; rfl)
              | (apply Exists.intro; refine ⟨fun w1 hw1 => ?_, ?_⟩; · (first
                  | (go_at_call 65; exact Any.calls_VE (EN1.out _) hw1))
                 refine hK _ ?_; rfl))
        case hD => rfl
        simp only [Act.put, sia, scs, scz])
     | ((with_reducible refine Any.at_ealloc ?_); refine Any.E_lay rfl rfl rfl (fun _ => rfl) ?_; intro B; simp only [Act.put, sia, scs, scz]))
   try any_goals exact undef
   refine Any.E_nil ?_
   intro w9 hE9
   replace hv : Mem w w9 [(b6, #[.int .i64 0, .slice none 0 0]), (b3, #[.int .i64 x, .slice da dn dc])] [] := hE9.mem hv [1000, 1001] (by decide)
   clear hE9
   go_wp2_with (first
     | ((with_reducible refine gLd 23 ?_); refine ldC hv _ _ _ Try.underlying23 ?_)
     | ((with_reducible refine gLd 3 ?_); refine ldC hv _ _ _ Try.underlying3 ?_)
     | ((with_reducible refine at_slice (T := 23) ?_); refine wl_sliceV rfl rfl Try.underlying23 infoB1 0 h h rfl rfl rfl HLH.out (Nat.le_refl _) HHC.out HU.out ?_)
     | ((with_reducible refine at_slice (T := 23) ?_); refine wl_sliceV rfl rfl Try.underlying23 infoB1 l h h rfl rfl rfl HLH.out (Nat.le_refl _) HHC.out HU.out ?_)
     | ((with_reducible refine at_build (T := 92) ?_); refine wl_build rfl _ rfl (built_sp _ _ _ _) ?_)
     | ((with_reducible refine gSt 92 ?_); refine stV hv b6 2 infoSp ?_; clear hv; intro w2 hv))
   refine ret_cell2 Try.results79 rfl (read_row _ b6 92 _ hv.vars.ro 2 _ Try.underlying92 rfl infoSp (by decide) rfl) rfl rfl ⟨rfl, hv.below⟩
theorem within_val (x fr tt : Int) (da : Option Addr) (dn dc : Nat) (d : List Nat) (hld : d.length = dn) (hdc : dn ≤ dc) (hx1 : -1000000000000 ≤ x) (hx2 : x ≤ 1000000000000) (hf1 : -1000000000000 ≤ fr) (hf2 : fr ≤ 1000000000000) (ht1 : -1000000000000 ≤ tt) (ht2 : tt ≤ 1000000000000) (hdn : dn ≤ 1000000) : (within (x, d) fr tt = none ∧ ∀ w, Calls Try.prog 79 #[.agg #[.int .i64 x, .slice da dn dc], .int .i64 fr, .int .i64 tt] w fun e w' => e = .returned (.tuple #[.agg #[.int .i64 0, .slice none 0 0], .bool false]) ∧ New w w') ∨
   ∃ (y : Int) (l h : Nat), l ≤ h ∧ h ≤ dn ∧ within (x, d) fr tt = some (y, (d.drop l).take (h - l)) ∧ ∀ w, Calls Try.prog 79 #[.agg #[.int .i64 x, .slice da dn dc], .int .i64 fr, .int .i64 tt] w fun e w' => e = .returned (.tuple #[.agg #[.int .i64 y, sliced da l h h 1], .bool true]) ∧ New w w' := by
 have hP : ∃ P, (x < fr ∧ fr = P) ∨ (¬ x < fr ∧ x = P) := by
   by_cases h : x < fr
   · exact ⟨fr, .inl ⟨h, rfl⟩⟩
   · exact ⟨x, .inr ⟨h, rfl⟩⟩
 have hQ : ∃ Q, (tt < x + (dn : Int) ∧ tt = Q) ∨ (¬ tt < x + (dn : Int) ∧ x + (dn : Int) = Q) := by
   by_cases h : tt < x + (dn : Int)
   · exact ⟨tt, .inl ⟨h, rfl⟩⟩
   · exact ⟨_, .inr ⟨h, rfl⟩⟩
 obtain ⟨P, hP⟩ := hP
 obtain ⟨Q, hQ⟩ := hQ
 by_cases hle : Q ≤ P
 · exact .inl (withinv_no x fr tt da dn dc d hld hdc hx1 hx2 hf1 hf2 ht1 ht2 hdn P Q hP hQ hle)
 · exact .inr ⟨P, withinv_yes x fr tt da dn dc d hld hdc hx1 hx2 hf1 hf2 ht1 ht2 hdn P Q hP hQ (by omega)⟩
end Go.Proofs.Ythenepdbgeafkaa
end

section
/-
 The parts of a span that are in none of some: fresh.
-/
namespace Go.Proofs.Ythenepdbgeafkaa
open Go.Proofs.Wi Go.RowKit
theorem spOf_app (l l' : List SpV) : spOf (l ++ l') = spOf l ++ spOf l' := by simp [spOf]
def AddR (w0 : World) (bf bo bx : Nat) (fr : Int) (X : Array Value) (L : LV) (R : LR) (S : List SpV) (r : Option Sp) (e : Ending) (w' : World) : Prop :=
 ∃ (v : Value) (O : LV) (S' : List SpV) (R' : LR), e = .returned (.tuple #[]) ∧ Mem w0 w' ((bf, #[.int .i64 fr]) :: (bo, #[v]) :: (bx, X) :: (O ++ L)) (R' ++ R) ∧ OwnL 2 v (cellsS (S ++ S')) O ∧ spOf S' = r.toList ∧ AllS (R' ++ R) S' ∧ S'.length ≤ 1
theorem add_any (x fr tt : Int) (da : Option Addr) (dn dc : Nat) (d : List Nat) (bf bo bx : Nat) (v : Value) (O : LV) (S : List SpV) (w0 w : World) (L : LV) (R : LR) (hv0 : Mem w0 w ((bf, #[.int .i64 fr]) :: (bo, #[v]) :: (bx, #[.int .i64 x, .slice da dn dc]) :: (O ++ L)) R) (hO : OwnL 2 v (cellsS S) O) (hS : S.length ≤ 5000) (hd : (1, .slice da dn dc, cellsB d) ∈ R) (hx1 : -1000000000000 ≤ x) (hx2 : x ≤ 1000000000000) (hf1 : -1000000000000 ≤ fr) (hf2 : fr ≤ 1000000000000) (ht1 : -1000000000000 ≤ tt) (ht2 : tt ≤ 1000000000000) (hdn : dn ≤ 1000000) :
   Calls Try.prog 82 #[.int .i64 tt, .pointer (some ⟨bx, 0, none⟩), .pointer (some ⟨bf, 0, none⟩), .pointer (some ⟨bo, 0, none⟩)] w (AddR w0 bf bo bx fr #[.int .i64 x, .slice da dn dc] L R S (within (x, d) fr tt)) := by
 have hv := hv0
 obtain ⟨va, vn, vc, rfl, _⟩ := id hO.slice
 have HO := Lib.hid hO
 have HD := Lib.hid hd
 have hsl : (cellsS S).length = S.length * 2 := cellsS_len S
 have kW0 := fun w' L' R' (h : Mem w0 w' L' R') h2 => within_any x fr tt da dn dc d w0 w' L' R' h h2 hx1 hx2 hf1 hf2 ht1 ht2 hdn
 cases hr : within (x, d) fr tt with
 | none =>
   rw [hr] at kW0
   have kW : ∀ w' L' R', Mem w0 w' L' R' → (1, .slice da dn dc, cellsB d) ∈ R' → Calls Try.prog 79 #[.agg #[.int .i64 x, .slice da dn dc], .int .i64 fr, .int .i64 tt] w' fun e w2 => e = .returned (.tuple #[.agg #[.int .i64 0, .slice none 0 0], .bool false]) ∧ Mem w0 w2 L' R' := kW0
   clear hv0 hO hS hd hx1 hx2 hf1 hf2 ht1 ht2 hdn hsl kW0 hr
   go_enter Try.func82, Try.ntmps82
   go_wp2_with (first
     | ((with_reducible refine gLd 92 ?_); refine ldV hv bx 2 Try.underlying92 infoSp ?_)
     | ((with_reducible refine gLd 3 ?_); refine ldC hv bf 0 _ Try.underlying3 ?_)
     | (go_at_call 79; (with_reducible refine (kW _ _ _ hv HD.out).mono ?_); rintro e w1 ⟨rfl, hv1⟩; replace hv := hv1; clear hv1)
     | ((with_reducible refine gAl 92 5 ?_); refine nwB hv #[.int .i64 0, .slice none 0 0] 92 ?_; clear hv; intro b5 w2 hv)
     | ((with_reducible refine gSt 92 ?_); refine stV hv b5 2 infoSp ?_; clear hv; intro w2 hv))
   go_end0
   exact ⟨_, O, [], [], rfl, hv.drop, by rw [List.append_nil]; exact HO.out, rfl, fun p hp => (List.not_mem_nil hp).elim, Nat.zero_le _⟩
 | some y =>
   rw [hr] at kW0
   obtain ⟨y1, yd⟩ := y
   have kW : ∀ w' L' R', Mem w0 w' L' R' → (1, .slice da dn dc, cellsB d) ∈ R' → Calls Try.prog 79 #[.agg #[.int .i64 x, .slice da dn dc], .int .i64 fr, .int .i64 tt] w' fun e w2 => ∃ ao n cap, e = .returned (.tuple #[.agg #[.int .i64 y1, .slice ao n cap], .bool true]) ∧ Mem w0 w2 L' ((1, .slice ao n cap, cellsB yd) :: R') := kW0
   have hB0 : Hid (∀ (ya : Option Addr) (yn yc : Nat), ∀ z ∈ ([.int .i64 y1, .slice ya yn yc] : List Value), z.oneCell' = true) := Lib.hid (fun ya yn yc z hz => by
     rcases List.mem_cons.1 hz with rfl | hz
     · rfl
     · rw [List.mem_singleton.1 hz]; rfl)
   have hB1 : Hid (((cellsS S).length + 2) / 2 ≤ maxLen) := Lib.hid (by rw [hsl]; unfold maxLen; omega)
   have hB2 : Hid (((cellsS S).length + 2) / 2 * 32 ≤ 140737488355328) := Lib.hid (by rw [hsl]; omega)
   clear hv0 hO hS hd hx1 hx2 hf1 hf2 ht1 ht2 hdn hsl kW0 hr
   go_enter Try.func82, Try.ntmps82
   go_wp2_with (first
     | ((with_reducible refine gLd 92 ?_); refine ldV hv bx 2 Try.underlying92 infoSp ?_)
     | ((with_reducible refine gLd 3 ?_); refine ldC hv bf 0 _ Try.underlying3 ?_)
     | (go_at_call 79; (with_reducible refine (kW _ _ _ hv HD.out).mono ?_); rintro e w1 ⟨ya, yn, yc, rfl, hv1⟩; replace hv := hv1; clear hv1)
     | ((with_reducible refine gAl 92 5 ?_); refine nwB hv #[.int .i64 0, .slice none 0 0] 92 ?_; clear hv; intro b5 w2 hv)
     | ((with_reducible refine gSt 92 ?_); refine stV hv b5 2 infoSp ?_; clear hv; intro w2 hv)
     | ((with_reducible refine gLd 92 ?_); refine ldV hv b5 2 Try.underlying92 infoSp ?_)
     | ((with_reducible refine gLd 89 ?_); refine ldC hv bo 0 _ Try.underlying89 ?_)
     | ((with_reducible refine at_append (t := 89) ?_); replace hv := hv.bsl' (k := 2) (n := 1) (c := [.int .i64 y1, .slice ya yn yc]) ⟨rfl, made_alloc _ #[.int .i64 y1, .slice ya yn yc] 92⟩ rfl rfl (by unfold maxLen; omega); refine wl_appO (A := [_, _, _, _]) (B := L) rfl rfl HO.out hv (.agg #[.int .i64 0, .slice none 0 0]) 32 Try.underlying89 infoSpz rfl (by decide) rfl (hv.rd Mem.z) (hB0.out _ _ _) hB1.out hB2.out ?_; intro v2 w7 O2 hO2 hv1; replace hv := hv1; clear hv1; obtain ⟨ua, un, uc, rfl, _⟩ := id hO2.slice; replace hO2 := Lib.hid hO2; simp only [List.cons_append, List.nil_append] at hv)
     | ((with_reducible refine gSt 89 ?_); refine stC hv bo 0 (.slice ua un uc) ?_; clear hv; intro w2 hv))
   go_end0
   exact ⟨_, O2, [(y1, .slice ya yn yc, yd)], [_, _], rfl, hv.drop, by rw [cellsS_snoc]; exact hO2.out, rfl, fun p hp => by rw [List.mem_singleton.1 hp]; exact Mem.s Mem.z, Nat.le_refl _⟩
end Go.Proofs.Ythenepdbgeafkaa
end

section
/-
 A stream that lies in memory.
-/
namespace Go.Proofs.Wi
open Go Go.RowKit
variable {R : LR} {l : List PcV}
structure InS (R : LR) (nx : Nat) (bv pv : Value) (s : St) (l : List PcV) : Prop where
 b : (1, bv, cellsB s.bytes) ∈ R
 p : (2, pv, cellsP l) ∈ R
 all : AllP R l
 st : stOf nx s.bytes l = s
theorem InS.mono {R R' : LR} {nx : Nat} {bv pv : Value} {s : St} (h : InS R nx bv pv s l) (hs : ∀ x ∈ R, x ∈ R') : InS R' nx bv pv s l := ⟨hs _ h.b, hs _ h.p, h.all.mono hs, h.st⟩
theorem InS.app {nx : Nat} {bv pv : Value} {s : St} (h : InS R nx bv pv s l) (R' : LR) : InS (R' ++ R) nx bv pv s l := h.mono fun _ hx => List.mem_append_right _ hx
theorem InS.nx {nx : Nat} {bv pv : Value} {s : St} (h : InS R nx bv pv s l) : nx = s.next := by rw [← h.st]; rfl
theorem InS.ps {nx : Nat} {bv pv : Value} {s : St} (h : InS R nx bv pv s l) : l.map (fun p => (p.1, p.2.2)) = s.ps := by rw [← h.st]; rfl
end Go.Proofs.Wi
end

section
/-
 Check and Room of the reference.
-/
namespace Go.Proofs.Ythenepdbgeafkaa
open Go.Proofs.Wi Go.RowKit
end Go.Proofs.Ythenepdbgeafkaa
end
