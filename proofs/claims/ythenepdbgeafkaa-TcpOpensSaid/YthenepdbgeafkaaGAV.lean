import Derived.Test.YthenepdbgeafkaaGAR
import Derived.Test.YthenepdbgeafkaaEq
import Derived.Test.YthenepdbgeafkaaGAT
import Derived.Test.YthenepdbgeafkaaGAB
set_option linter.unusedSimpArgs false
set_option linter.unusedVariables false
set_option maxRecDepth 100000
set_option maxHeartbeats 16000000
section
/-
 Segments (layer 24): which may be; how many numbers one takes; a segment's flags.
-/
namespace Go
section
variable {P : Program} {ops : Array Oper} {rest : List Oper} {a : Act} {w : World} {Q : Exit → Act → World → Prop}
variable {dst : Option Tmp} {ty T e : TypeId} {pos : String} {after : Array Edge} {g : Option (Nat × Bool)} {x y : Operand}
theorem at_aindex (h : wpList P ops Q (⟨dst, .index T x y, ty, pos, after, g⟩ :: rest) a w) : wpList P ops Q (⟨dst, .index T x y, ty, pos, after, g⟩ :: rest) a w := h
theorem wl_index (hgd : Region.wanted (⟨dst, .index T x y, ty, pos, after, g⟩ : Oper) (yielded ops a.tmps) = true) {cs : Array Value} (hx : a.eval x = .agg cs) {i : Nat} {j : Int} (hj : j = (i : Nat)) (hy : a.eval y = .int .i64 j) {n : Nat} (ht : P.underlying T = some (.array n e)) {d : TypeDesc} (he : P.underlying e = some d) (hd : d.isRow = false) (hi : (P.info? e).map (·.size) = some 1) (hin : i < n) {v : Value} (hv : cs[i]? = some v)
   (hk : wpList P ops Q rest (a.put dst v) w) : wpList P ops Q (⟨dst, .index T x y, ty, pos, after, g⟩ :: rest) a w := by
 subst hj
 refine wpList_want hgd fun K hK => ?_
 cases hq : P.info? e with
 | none => simp [hq] at hi
 | some inf =>
   have hsz : inf.size = 1 := by simpa [hq] using hi
   have h1 : (0 : Int) ≤ (i : Int) ∧ (i : Int) < (n : Int) := by omega
   have hp := run_part_cell (P := P) w e cs i v d he hd hv
   have hr : (Instr.index T (.agg cs) (.int .i64 i)).run P w = .ok v w := by
     unfold Instr.index
     simp [run_underlying ht, asIntOf, h1, sizeOf, typeInfo, hq, hsz, hp]
     intro h; omega
   unfold Oper.wp execOp
   simp only [hx, hy, Sem.run_bind, hr, Result.andThen_ok, Sem.run_pure]
   exact hK _ _ hk
theorem wl_indexA (hgd : Region.wanted (⟨dst, .index T x y, ty, pos, after, g⟩ : Oper) (yielded ops a.tmps) = true) {cs : Array Value} (hx : a.eval x = .agg cs) {i : Nat} {j : Int} (hj : j = (i : Nat)) (hy : a.eval y = .int .i64 j) {n : Nat} (ht : P.underlying T = some (.array n e)) {d : TypeDesc} (he : P.underlying e = some d) (hd : d.isRow = true) (m : Nat) (hi : (P.info? e).map (·.size) = some m) (hin : i < n) {v : Array Value} (hv : cs.extract (i * m) (i * m + m) = v)
   (hk : wpList P ops Q rest (a.put dst (.agg v)) w) : wpList P ops Q (⟨dst, .index T x y, ty, pos, after, g⟩ :: rest) a w := by
 subst hj
 subst hv
 refine wpList_want hgd fun K hK => ?_
 cases hq : P.info? e with
 | none => simp [hq] at hi
 | some inf =>
   have hsz : inf.size = m := by simpa [hq] using hi
   have h1 : (0 : Int) ≤ (i : Int) ∧ (i : Int) < (n : Int) := by omega
   have hp := run_part_agg (P := P) w e m cs (i * m) d he hd hi
   have hr : (Instr.index T (.agg cs) (.int .i64 i)).run P w = .ok (.agg (cs.extract (i * m) (i * m + m))) w := by
     unfold Instr.index
     simp [run_underlying ht, asIntOf, h1, sizeOf, typeInfo, hq, hsz, hp]
     intro h; omega
   unfold Oper.wp execOp
   simp only [hx, hy, Sem.run_bind, hr, Result.andThen_ok, Sem.run_pure]
   exact hK _ _ hk
end
end Go
namespace Go.Proofs.Tp
open Go Go.RowKit Go.Proofs.Wi
theorem has_1 : ∀ fl : Fin 32, bits .and .i64 ((fl.val : Nat) : Int) 1 = if has fl.val 1 then 1 else 0 := by decide +kernel
theorem has_2 : ∀ fl : Fin 32, bits .and .i64 ((fl.val : Nat) : Int) 2 = if has fl.val 2 then 2 else 0 := by decide +kernel
theorem has_4 : ∀ fl : Fin 32, bits .and .i64 ((fl.val : Nat) : Int) 4 = if has fl.val 4 then 4 else 0 := by decide +kernel
theorem and_1 {fl : Nat} (h : fl ≤ 31) : bits .and .i64 (fl : Int) 1 = if has fl 1 then 1 else 0 := has_1 ⟨fl, by omega⟩
theorem and_2 {fl : Nat} (h : fl ≤ 31) : bits .and .i64 (fl : Int) 2 = if has fl 2 then 2 else 0 := has_2 ⟨fl, by omega⟩
theorem and_4 {fl : Nat} (h : fl ≤ 31) : bits .and .i64 (fl : Int) 4 = if has fl 4 then 4 else 0 := has_4 ⟨fl, by omega⟩
def lenK (dn fl k : Nat) : Nat := dn + (if 1 ≤ k ∧ has fl 2 = true then 1 else 0) + (if 2 ≤ k ∧ has fl 1 = true then 1 else 0)
def okK (s d wn : Int) (k : Nat) : Prop := (1 ≤ k → 1 ≤ s ∧ s ≤ 65535) ∧ (2 ≤ k → 1 ≤ d ∧ d ≤ 65535) ∧ (3 ≤ k → 0 ≤ wn ∧ wn ≤ 65535)
def chkI (s d fl wn : Int) (dn : Nat) : Bool := decide (1 ≤ s ∧ s ≤ 65535 ∧ 1 ≤ d ∧ d ≤ 65535 ∧ 0 ≤ fl ∧ fl ≤ 31 ∧ 0 ≤ wn ∧ wn ≤ 65535 ∧ dn ≤ 64)
end Go.Proofs.Tp
namespace Go.Proofs.Ythenepdbgeafkaa
open Go.Proofs.Wi Go.RowKit Go.Proofs Go.Proofs.Tp
theorem has_k (a0 a1 a2 a3 a5 a6 : Value) {fl : Nat} (w : World) (f : Int) (b : Bool) (y1 : (f == f) = true) (y2 : (f != 0) = true) (y3 : ((0 : Int) == f) = false) (q : bits .and .i64 (fl : Int) f = if b then f else 0) : Calls Try.prog 58 #[.agg #[a0, a1, a2, a3, .int .i64 fl, a5, a6], .int .i64 f] w fun e w' => e = .returned (.bool b) ∧ New w w' := by
 have hv := Mem.nil w
 cases b
 all_goals simp only [if_true, Bool.false_eq_true, if_false] at q
 all_goals
   go_enter Try.func58, Try.ntmps58
   go_wp2_with (first
     | ((with_reducible refine gBx 72 2 ?_); refine nwB hv #[a0, a1, a2, a3, .int .i64 fl, a5, a6] 72 ?_; clear hv; intro b_2 w2 hv)
     | ((with_reducible refine gLd 3 ?_); refine ldC hv b_2 4 (.int .i64 fl) Try.underlying3 ?_))
   go_ret
   exact ⟨rfl, hv.below⟩
theorem has1_any (a0 a1 a2 a3 a5 a6 : Value) {fl : Nat} (h : fl ≤ 31) (w : World) : Calls Try.prog 58 #[.agg #[a0, a1, a2, a3, .int .i64 fl, a5, a6], .int .i64 1] w fun e w' => e = .returned (.bool (has fl 1)) ∧ New w w' := has_k a0 a1 a2 a3 a5 a6 w 1 _ rfl rfl rfl (and_1 h)
theorem has2_any (a0 a1 a2 a3 a5 a6 : Value) {fl : Nat} (h : fl ≤ 31) (w : World) : Calls Try.prog 58 #[.agg #[a0, a1, a2, a3, .int .i64 fl, a5, a6], .int .i64 2] w fun e w' => e = .returned (.bool (has fl 2)) ∧ New w w' := has_k a0 a1 a2 a3 a5 a6 w 2 _ rfl rfl rfl (and_2 h)
theorem has4_any (a0 a1 a2 a3 a5 a6 : Value) {fl : Nat} (h : fl ≤ 31) (w : World) : Calls Try.prog 58 #[.agg #[a0, a1, a2, a3, .int .i64 fl, a5, a6], .int .i64 4] w fun e w' => e = .returned (.bool (has fl 4)) ∧ New w w' := has_k a0 a1 a2 a3 a5 a6 w 4 _ rfl rfl rfl (and_4 h)
theorem has16_any (a0 a1 a2 a3 a5 a6 : Value) {fl : Nat} (h : fl ≤ 31) (w : World) : Calls Try.prog 58 #[.agg #[a0, a1, a2, a3, .int .i64 fl, a5, a6], .int .i64 16] w fun e w' => e = .returned (.bool (has fl 16)) ∧ New w w' := has_k a0 a1 a2 a3 a5 a6 w 16 _ rfl rfl rfl (and_16 h)
theorem infoA2 : (Try.prog.info? 102).map (·.size) = some 2 := by kernel_rfl
theorem built_2 (a b : Int) : Try.prog.built 102 [(0, .int .i64 a), (1, .int .i64 b)] = some #[.int .i64 a, .int .i64 b] := by kernel_rfl
theorem counted_any (w : World) : Calls Try.prog 76 #[] w fun e w' => e = .returned (.agg #[.int .i64 2, .int .i64 1]) ∧ New w w' := by
 have hv := Mem.nil w
 go_enter Try.func76, Try.ntmps76
 go_wp2_with (first
   | ((with_reducible refine gAl 102 0 ?_); refine nwB hv #[.int .i64 0, .int .i64 0] 102 ?_; clear hv; intro b_0 w2 hv)
   | ((with_reducible refine at_build (T := 102) ?_); refine wl_build rfl _ rfl (built_2 _ _) ?_)
   | ((with_reducible refine gSt 102 ?_); refine stV hv b_0 2 infoA2 ?_; clear hv; intro w2 hv))
 try simp only [Exit.inBlock, Exit.then]
 refine ret_cell1 (v := .agg #[.int .i64 2, .int .i64 1]) rfl rfl (read_row _ b_0 102 _ (hv.vars.ro (b := b_0)) 2 _ Try.underlying102 rfl infoA2 (by decide) rfl) rfl ?_
 exact ⟨rfl, hv.below⟩
theorem Len_any (a0 a1 a2 a3 a5 : Value) {fl dn dk : Nat} {da : Option Addr} (h : fl ≤ 31) (hd : dn ≤ 100000) (w : World) : Calls Try.prog 69 #[.agg #[a0, a1, a2, a3, .int .i64 fl, a5, .slice da dn dk]] w fun e w' => e = .returned (.int .i64 ((lenK dn fl 2 : Nat) : Int)) ∧ New w w' := by
 have hv := Mem.nil w
 have y0 : ¬ (fl : Int) < 0 := by omega
 obtain ⟨z2, hz2⟩ : ∃ z, bits .and .i64 (fl : Int) 2 = z := ⟨_, rfl⟩
 obtain ⟨z1, hz1⟩ : ∃ z, bits .and .i64 (fl : Int) 1 = z := ⟨_, rfl⟩
 have e2 := and_2 h
 have e1 := and_1 h
 rw [hz2] at e2
 rw [hz1] at e1
 have HE2 := Lib.hid e2
 have HE1 := Lib.hid e1
 have HD := Lib.hid hd
 have hfin : ∀ k, (k = 0 ∨ k = 1 ∨ k = 2) → lenK dn fl k ≤ dn + k := fun k hk => by
   unfold lenK
   rcases hk with rfl | rfl | rfl <;> simp <;> split <;> (try split) <;> omega
 have HFIN := Lib.hid hfin
 clear h hd e1 e2 hfin
 go_enter Try.func69, Try.ntmps69
 go_wp2_with (first
   | ((with_reducible refine gBx 42 1 ?_); refine nwB hv #[a0, a1, a2, a3, .int .i64 fl, a5, .slice da dn dk] 42 ?_; clear hv; intro b_1 w2 hv)
   | ((with_reducible refine gLd 23 ?_); refine ldC hv b_1 6 (.slice da dn dk) Try.underlying23 ?_)
   | ((with_reducible refine gLd 3 ?_); refine ldC hv b_1 4 (.int .i64 fl) Try.underlying3 ?_)
   | (go_at_call 76; (with_reducible refine (counted_any _).mono ?_); rintro e w1 ⟨rfl, hn1⟩; replace hv := hv.new hn1; clear hn1))
 go_loopw [3, 14] (fun nv iv wr => ∃ k : Nat, k ≤ 2 ∧ iv = .int .i64 k ∧ nv = .int .i64 ((lenK dn fl k : Nat) : Int) ∧ Mem w wr [(b_1, #[a0, a1, a2, a3, .int .i64 fl, a5, .slice da dn dk])] []) (fun _ iv _ => 2 - (intOf iv).toNat)
 case atStart => exact ⟨0, by decide, rfl, by unfold lenK; simp, hv⟩
 case round =>
   clear hv
   obtain ⟨k, hk, rfl, rfl, hv⟩ := hrel
   obtain ⟨nn, hnn⟩ : ∃ n, lenK dn fl k = n := ⟨_, rfl⟩
   have hb : nn ≤ dn + k := by rw [← hnn]; exact HFIN.out k (by omega)
   have hd := HD.out
   have q1 : IntKind.i64.wrap ((nn : Int) + 1) = ((nn + 1 : Nat) : Int) := by rw [IntWalk.i64_in _ (by omega)]; omega
   obtain ⟨n1, hn1⟩ : ∃ n1, nn + 1 = n1 := ⟨_, rfl⟩
   rw [hn1] at q1
   rcases (show k = 0 ∨ k = 1 ∨ k = 2 by omega) with rfl | rfl | rfl
   · rcases Bool.eq_false_or_eq_true (has fl 2) with hh | hh
     · obtain rfl : z2 = 2 := by rw [HE2.out, hh]; rfl
       have HNX : Hid (lenK dn fl 1 = n1) := Lib.hid (by rw [← hn1, ← hnn]; unfold lenK; simp [hh])
       rw [hnn]
       clear hb hd hnn hn1 hh hk
       simp only [Int.natCast_zero]
       go_wp2_with (first
         | ((with_reducible refine at_aindex (T := 102) ?_); refine wl_index rfl rfl (i := 0) rfl rfl Try.underlying102 Try.underlying3 rfl (by kernel_rfl) (by decide) rfl ?_)
         | ((with_reducible refine gLd 3 ?_); refine ldC hv b_1 4 (.int .i64 fl) Try.underlying3 ?_))
       go_roundw
       case rel => exact ⟨1, by decide, rfl, by rw [HNX.out], hv⟩
       case measure => simp [intOf]
     · obtain rfl : z2 = 0 := by rw [HE2.out, hh]; rfl
       have HNX : Hid (lenK dn fl 1 = nn) := Lib.hid (by rw [← hnn]; unfold lenK; simp [hh])
       rw [hnn]
       clear hb hd hnn hn1 hh hk
       simp only [Int.natCast_zero]
       go_wp2_with (first
         | ((with_reducible refine at_aindex (T := 102) ?_); refine wl_index rfl rfl (i := 0) rfl rfl Try.underlying102 Try.underlying3 rfl (by kernel_rfl) (by decide) rfl ?_)
         | ((with_reducible refine gLd 3 ?_); refine ldC hv b_1 4 (.int .i64 fl) Try.underlying3 ?_))
       go_roundw
       case rel => exact ⟨1, by decide, rfl, by rw [HNX.out], hv⟩
       case measure => simp [intOf]
   · rcases Bool.eq_false_or_eq_true (has fl 1) with hh | hh
     · obtain rfl : z1 = 1 := by rw [HE1.out, hh]; rfl
       have HNX : Hid (lenK dn fl 2 = n1) := Lib.hid (by rw [← hn1, ← hnn]; unfold lenK; simp [hh])
       rw [hnn]
       clear hb hd hnn hn1 hh hk
       simp only [Int.natCast_one]
       go_wp2_with (first
         | ((with_reducible refine at_aindex (T := 102) ?_); refine wl_index rfl rfl (i := 1) rfl rfl Try.underlying102 Try.underlying3 rfl (by kernel_rfl) (by decide) rfl ?_)
         | ((with_reducible refine gLd 3 ?_); refine ldC hv b_1 4 (.int .i64 fl) Try.underlying3 ?_))
       go_roundw
       case rel => exact ⟨2, by decide, rfl, by rw [HNX.out], hv⟩
       case measure => simp [intOf]
     · obtain rfl : z1 = 0 := by rw [HE1.out, hh]; rfl
       have HNX : Hid (lenK dn fl 2 = nn) := Lib.hid (by rw [← hnn]; unfold lenK; simp [hh])
       rw [hnn]
       clear hb hd hnn hn1 hh hk
       simp only [Int.natCast_one]
       go_wp2_with (first
         | ((with_reducible refine at_aindex (T := 102) ?_); refine wl_index rfl rfl (i := 1) rfl rfl Try.underlying102 Try.underlying3 rfl (by kernel_rfl) (by decide) rfl ?_)
         | ((with_reducible refine gLd 3 ?_); refine ldC hv b_1 4 (.int .i64 fl) Try.underlying3 ?_))
       go_roundw
       case rel => exact ⟨2, by decide, rfl, by rw [HNX.out], hv⟩
       case measure => simp [intOf]
   · clear hb hd hnn hn1 hk q1
     go_wp2
     go_ret
     exact ⟨rfl, hv.below⟩
theorem infoA3 : (Try.prog.info? 84).map (·.size) = some 3 := by kernel_rfl
theorem built_3 (a b c : Int) : Try.prog.built 84 [(0, .int .i64 a), (1, .int .i64 b), (2, .int .i64 c)] = some #[.int .i64 a, .int .i64 b, .int .i64 c] := by kernel_rfl
theorem built_33 (a b c d e f g h i : Value) : Try.prog.built 85 [(0, .agg #[a, b, c]), (1, .agg #[d, e, f]), (2, .agg #[g, h, i])] = some #[a, b, c, d, e, f, g, h, i] := by kernel_rfl
theorem SCheck_any (a2 a3 : Value) (s d fl wn : Int) (hf : -9223372036854775808 ≤ fl ∧ fl ≤ 9223372036854775807) {dn dk : Nat} {da : Option Addr} (w : World) : Calls Try.prog 32 #[.agg #[.int .i64 s, .int .i64 d, a2, a3, .int .i64 fl, .int .i64 wn, .slice da dn dk]] w fun e w' => e = .returned (.bool (chkI s d fl wn dn)) ∧ New w w' := by
 have hv := Mem.nil w
 obtain ⟨res, hres⟩ : ∃ r, chkI s d fl wn dn = r := ⟨_, rfl⟩
 have HRES := Lib.hid hres
 rw [hres]
 have HF := Lib.hid hf
 clear hf hres
 go_enter Try.func32, Try.ntmps32
 go_wp2_with (first
   | ((with_reducible refine gBx 42 1 ?_); refine nwB hv #[.int .i64 s, .int .i64 d, a2, a3, .int .i64 fl, .int .i64 wn, .slice da dn dk] 42 ?_; clear hv; intro b_1 w2 hv)
   | ((with_reducible refine gLd 3 ?_); refine ldC hv b_1 0 (.int .i64 s) Try.underlying3 ?_)
   | ((with_reducible refine gLd 3 ?_); refine ldC hv b_1 1 (.int .i64 d) Try.underlying3 ?_)
   | ((with_reducible refine gLd 3 ?_); refine ldC hv b_1 5 (.int .i64 wn) Try.underlying3 ?_)
   | ((with_reducible refine at_build (T := 84) ?_); refine wl_build rfl _ rfl (built_3 _ _ _) ?_)
   | ((with_reducible refine at_build (T := 85) ?_); refine wl_build rfl _ rfl (built_33 _ _ _ _ _ _ _ _ _) ?_))
 go_loopw [15] (fun iv wr => ∃ k : Nat, k ≤ 3 ∧ iv = .int .i64 k ∧ Hid (okK s d wn k) ∧ Mem w wr [(b_1, #[.int .i64 s, .int .i64 d, a2, a3, .int .i64 fl, .int .i64 wn, .slice da dn dk])] []) (fun iv _ => 3 - (intOf iv).toNat)
 case atStart => exact ⟨0, by decide, rfl, Lib.hid (by unfold okK; omega), hv⟩
 case round =>
   clear hv
   obtain ⟨k, hk, rfl, HK, hv⟩ := hrel
   rcases (show k = 0 ∨ k = 1 ∨ k = 2 ∨ k = 3 by omega) with rfl | rfl | rfl | rfl
   · by_cases h1 : 1 ≤ s
     · by_cases h2 : s ≤ 65535
       · have HOK : Hid (okK s d wn 1) := Lib.hid (by have := HK.out; unfold okK at *; omega)
         have y1 : ¬ s < 1 := by omega
         have y2 : ¬ 65535 < s := by omega
         clear h1 h2 hk
         simp only [Int.natCast_zero]
         go_wp2_with (first
           | ((with_reducible refine at_aindex (T := 85) ?_); refine wl_indexA rfl rfl (i := 0) rfl rfl Try.underlying85 Try.underlying84 rfl 3 (by kernel_rfl) (by decide) (v := #[.int .i64 s, .int .i64 1, .int .i64 65535]) rfl ?_)
           | ((with_reducible refine gAl 84 4 ?_); refine nwB hv #[.int .i64 0, .int .i64 0, .int .i64 0] 84 ?_; clear hv; intro b_4 w2 hv)
           | ((with_reducible refine gSt 84 ?_); refine stV hv b_4 3 infoA3 ?_; clear hv; intro w2 hv)
           | ((with_reducible refine gLd 3 ?_); refine ldC hv b_4 0 (.int .i64 s) Try.underlying3 ?_)
           | ((with_reducible refine gLd 3 ?_); refine ldC hv b_4 1 (.int .i64 1) Try.underlying3 ?_)
           | ((with_reducible refine gLd 3 ?_); refine ldC hv b_4 2 (.int .i64 65535) Try.underlying3 ?_))
         go_roundw
         case rel => exact ⟨1, by decide, rfl, HOK, hv.drop⟩
         case measure => simp [intOf]
       · obtain rfl : res = false := by rw [← HRES.out]; exact decide_eq_false (by omega)
         have y1 : ¬ s < 1 := by omega
         have y2 : 65535 < s := by omega
         clear h1 h2 hk
         simp only [Int.natCast_zero]
         go_wp2_with (first
           | ((with_reducible refine at_aindex (T := 85) ?_); refine wl_indexA rfl rfl (i := 0) rfl rfl Try.underlying85 Try.underlying84 rfl 3 (by kernel_rfl) (by decide) (v := #[.int .i64 s, .int .i64 1, .int .i64 65535]) rfl ?_)
           | ((with_reducible refine gAl 84 4 ?_); refine nwB hv #[.int .i64 0, .int .i64 0, .int .i64 0] 84 ?_; clear hv; intro b_4 w2 hv)
           | ((with_reducible refine gSt 84 ?_); refine stV hv b_4 3 infoA3 ?_; clear hv; intro w2 hv)
           | ((with_reducible refine gLd 3 ?_); refine ldC hv b_4 0 (.int .i64 s) Try.underlying3 ?_)
           | ((with_reducible refine gLd 3 ?_); refine ldC hv b_4 1 (.int .i64 1) Try.underlying3 ?_)
           | ((with_reducible refine gLd 3 ?_); refine ldC hv b_4 2 (.int .i64 65535) Try.underlying3 ?_))
         try simp only [Exit.inBlock, Exit.then]
         go_ret
         exact ⟨rfl, hv.below⟩
     · obtain rfl : res = false := by rw [← HRES.out]; exact decide_eq_false (by omega)
       have y1 : s < 1 := by omega
       clear h1 hk
       simp only [Int.natCast_zero]
       go_wp2_with (first
         | ((with_reducible refine at_aindex (T := 85) ?_); refine wl_indexA rfl rfl (i := 0) rfl rfl Try.underlying85 Try.underlying84 rfl 3 (by kernel_rfl) (by decide) (v := #[.int .i64 s, .int .i64 1, .int .i64 65535]) rfl ?_)
         | ((with_reducible refine gAl 84 4 ?_); refine nwB hv #[.int .i64 0, .int .i64 0, .int .i64 0] 84 ?_; clear hv; intro b_4 w2 hv)
         | ((with_reducible refine gSt 84 ?_); refine stV hv b_4 3 infoA3 ?_; clear hv; intro w2 hv)
         | ((with_reducible refine gLd 3 ?_); refine ldC hv b_4 0 (.int .i64 s) Try.underlying3 ?_)
         | ((with_reducible refine gLd 3 ?_); refine ldC hv b_4 1 (.int .i64 1) Try.underlying3 ?_)
         | ((with_reducible refine gLd 3 ?_); refine ldC hv b_4 2 (.int .i64 65535) Try.underlying3 ?_))
       try simp only [Exit.inBlock, Exit.then]
       go_ret
       exact ⟨rfl, hv.below⟩
   · by_cases h1 : 1 ≤ d
     · by_cases h2 : d ≤ 65535
       · have HOK : Hid (okK s d wn 2) := Lib.hid (by have := HK.out; unfold okK at *; omega)
         have y1 : ¬ d < 1 := by omega
         have y2 : ¬ 65535 < d := by omega
         clear h1 h2 hk
         simp only [Int.natCast_one]
         go_wp2_with (first
           | ((with_reducible refine at_aindex (T := 85) ?_); refine wl_indexA rfl rfl (i := 1) rfl rfl Try.underlying85 Try.underlying84 rfl 3 (by kernel_rfl) (by decide) (v := #[.int .i64 d, .int .i64 1, .int .i64 65535]) rfl ?_)
           | ((with_reducible refine gAl 84 4 ?_); refine nwB hv #[.int .i64 0, .int .i64 0, .int .i64 0] 84 ?_; clear hv; intro b_4 w2 hv)
           | ((with_reducible refine gSt 84 ?_); refine stV hv b_4 3 infoA3 ?_; clear hv; intro w2 hv)
           | ((with_reducible refine gLd 3 ?_); refine ldC hv b_4 0 (.int .i64 d) Try.underlying3 ?_)
           | ((with_reducible refine gLd 3 ?_); refine ldC hv b_4 1 (.int .i64 1) Try.underlying3 ?_)
           | ((with_reducible refine gLd 3 ?_); refine ldC hv b_4 2 (.int .i64 65535) Try.underlying3 ?_))
         go_roundw
         case rel => exact ⟨2, by decide, rfl, HOK, hv.drop⟩
         case measure => simp [intOf]
       · obtain rfl : res = false := by rw [← HRES.out]; exact decide_eq_false (by omega)
         have y1 : ¬ d < 1 := by omega
         have y2 : 65535 < d := by omega
         clear h1 h2 hk
         simp only [Int.natCast_one]
         go_wp2_with (first
           | ((with_reducible refine at_aindex (T := 85) ?_); refine wl_indexA rfl rfl (i := 1) rfl rfl Try.underlying85 Try.underlying84 rfl 3 (by kernel_rfl) (by decide) (v := #[.int .i64 d, .int .i64 1, .int .i64 65535]) rfl ?_)
           | ((with_reducible refine gAl 84 4 ?_); refine nwB hv #[.int .i64 0, .int .i64 0, .int .i64 0] 84 ?_; clear hv; intro b_4 w2 hv)
           | ((with_reducible refine gSt 84 ?_); refine stV hv b_4 3 infoA3 ?_; clear hv; intro w2 hv)
           | ((with_reducible refine gLd 3 ?_); refine ldC hv b_4 0 (.int .i64 d) Try.underlying3 ?_)
           | ((with_reducible refine gLd 3 ?_); refine ldC hv b_4 1 (.int .i64 1) Try.underlying3 ?_)
           | ((with_reducible refine gLd 3 ?_); refine ldC hv b_4 2 (.int .i64 65535) Try.underlying3 ?_))
         try simp only [Exit.inBlock, Exit.then]
         go_ret
         exact ⟨rfl, hv.below⟩
     · obtain rfl : res = false := by rw [← HRES.out]; exact decide_eq_false (by omega)
       have y1 : d < 1 := by omega
       clear h1 hk
       simp only [Int.natCast_one]
       go_wp2_with (first
         | ((with_reducible refine at_aindex (T := 85) ?_); refine wl_indexA rfl rfl (i := 1) rfl rfl Try.underlying85 Try.underlying84 rfl 3 (by kernel_rfl) (by decide) (v := #[.int .i64 d, .int .i64 1, .int .i64 65535]) rfl ?_)
         | ((with_reducible refine gAl 84 4 ?_); refine nwB hv #[.int .i64 0, .int .i64 0, .int .i64 0] 84 ?_; clear hv; intro b_4 w2 hv)
         | ((with_reducible refine gSt 84 ?_); refine stV hv b_4 3 infoA3 ?_; clear hv; intro w2 hv)
         | ((with_reducible refine gLd 3 ?_); refine ldC hv b_4 0 (.int .i64 d) Try.underlying3 ?_)
         | ((with_reducible refine gLd 3 ?_); refine ldC hv b_4 1 (.int .i64 1) Try.underlying3 ?_)
         | ((with_reducible refine gLd 3 ?_); refine ldC hv b_4 2 (.int .i64 65535) Try.underlying3 ?_))
       try simp only [Exit.inBlock, Exit.then]
       go_ret
       exact ⟨rfl, hv.below⟩
   · by_cases h1 : 0 ≤ wn
     · by_cases h2 : wn ≤ 65535
       · have HOK : Hid (okK s d wn 3) := Lib.hid (by have := HK.out; unfold okK at *; omega)
         have y1 : ¬ wn < 0 := by omega
         have y2 : ¬ 65535 < wn := by omega
         clear h1 h2 hk
         skip
         go_wp2_with (first
           | ((with_reducible refine at_aindex (T := 85) ?_); refine wl_indexA rfl rfl (i := 2) rfl rfl Try.underlying85 Try.underlying84 rfl 3 (by kernel_rfl) (by decide) (v := #[.int .i64 wn, .int .i64 0, .int .i64 65535]) rfl ?_)
           | ((with_reducible refine gAl 84 4 ?_); refine nwB hv #[.int .i64 0, .int .i64 0, .int .i64 0] 84 ?_; clear hv; intro b_4 w2 hv)
           | ((with_reducible refine gSt 84 ?_); refine stV hv b_4 3 infoA3 ?_; clear hv; intro w2 hv)
           | ((with_reducible refine gLd 3 ?_); refine ldC hv b_4 0 (.int .i64 wn) Try.underlying3 ?_)
           | ((with_reducible refine gLd 3 ?_); refine ldC hv b_4 1 (.int .i64 0) Try.underlying3 ?_)
           | ((with_reducible refine gLd 3 ?_); refine ldC hv b_4 2 (.int .i64 65535) Try.underlying3 ?_))
         go_roundw
         case rel => exact ⟨3, by decide, rfl, HOK, hv.drop⟩
         case measure => simp [intOf]
       · obtain rfl : res = false := by rw [← HRES.out]; exact decide_eq_false (by omega)
         have y1 : ¬ wn < 0 := by omega
         have y2 : 65535 < wn := by omega
         clear h1 h2 hk
         skip
         go_wp2_with (first
           | ((with_reducible refine at_aindex (T := 85) ?_); refine wl_indexA rfl rfl (i := 2) rfl rfl Try.underlying85 Try.underlying84 rfl 3 (by kernel_rfl) (by decide) (v := #[.int .i64 wn, .int .i64 0, .int .i64 65535]) rfl ?_)
           | ((with_reducible refine gAl 84 4 ?_); refine nwB hv #[.int .i64 0, .int .i64 0, .int .i64 0] 84 ?_; clear hv; intro b_4 w2 hv)
           | ((with_reducible refine gSt 84 ?_); refine stV hv b_4 3 infoA3 ?_; clear hv; intro w2 hv)
           | ((with_reducible refine gLd 3 ?_); refine ldC hv b_4 0 (.int .i64 wn) Try.underlying3 ?_)
           | ((with_reducible refine gLd 3 ?_); refine ldC hv b_4 1 (.int .i64 0) Try.underlying3 ?_)
           | ((with_reducible refine gLd 3 ?_); refine ldC hv b_4 2 (.int .i64 65535) Try.underlying3 ?_))
         try simp only [Exit.inBlock, Exit.then]
         go_ret
         exact ⟨rfl, hv.below⟩
     · obtain rfl : res = false := by rw [← HRES.out]; exact decide_eq_false (by omega)
       have y1 : wn < 0 := by omega
       clear h1 hk
       skip
       go_wp2_with (first
         | ((with_reducible refine at_aindex (T := 85) ?_); refine wl_indexA rfl rfl (i := 2) rfl rfl Try.underlying85 Try.underlying84 rfl 3 (by kernel_rfl) (by decide) (v := #[.int .i64 wn, .int .i64 0, .int .i64 65535]) rfl ?_)
         | ((with_reducible refine gAl 84 4 ?_); refine nwB hv #[.int .i64 0, .int .i64 0, .int .i64 0] 84 ?_; clear hv; intro b_4 w2 hv)
         | ((with_reducible refine gSt 84 ?_); refine stV hv b_4 3 infoA3 ?_; clear hv; intro w2 hv)
         | ((with_reducible refine gLd 3 ?_); refine ldC hv b_4 0 (.int .i64 wn) Try.underlying3 ?_)
         | ((with_reducible refine gLd 3 ?_); refine ldC hv b_4 1 (.int .i64 0) Try.underlying3 ?_)
         | ((with_reducible refine gLd 3 ?_); refine ldC hv b_4 2 (.int .i64 65535) Try.underlying3 ?_))
       try simp only [Exit.inBlock, Exit.then]
       go_ret
       exact ⟨rfl, hv.below⟩
   · by_cases hq : fl / 32 = 0
     · by_cases hn : dn ≤ 64
       · obtain rfl : res = true := by rw [← HRES.out]; have := HK.out; unfold okK at this; exact decide_eq_true (by omega)
         have y1 : (dn : Int) ≤ 64 := by omega
         clear hk
         go_wp2_with (first
           | ((with_reducible refine gLd 3 ?_); refine ldC hv b_1 4 (.int .i64 fl) Try.underlying3 ?_)
           | ((with_reducible refine gLd 23 ?_); refine ldC hv b_1 6 (.slice da dn dk) Try.underlying23 ?_))
         go_ret
         exact ⟨rfl, hv.below⟩
       · obtain rfl : res = false := by rw [← HRES.out]; exact decide_eq_false (by omega)
         have y1 : ¬ (dn : Int) ≤ 64 := by omega
         clear hk
         go_wp2_with (first
           | ((with_reducible refine gLd 3 ?_); refine ldC hv b_1 4 (.int .i64 fl) Try.underlying3 ?_)
           | ((with_reducible refine gLd 23 ?_); refine ldC hv b_1 6 (.slice da dn dk) Try.underlying23 ?_))
         go_ret
         exact ⟨rfl, hv.below⟩
     · obtain rfl : res = false := by rw [← HRES.out]; exact decide_eq_false (by omega)
       clear hk
       go_wp2_with (first
         | ((with_reducible refine gLd 3 ?_); refine ldC hv b_1 4 (.int .i64 fl) Try.underlying3 ?_)
         | ((with_reducible refine gLd 23 ?_); refine ldC hv b_1 6 (.slice da dn dk) Try.underlying23 ?_))
       go_ret
       exact ⟨rfl, hv.below⟩
end Go.Proofs.Ythenepdbgeafkaa
end

section
/-
 Connections (layer 26): what is acknowledged.
-/
namespace Go.Proofs.Tp
open Go Go.RowKit Go.Proofs.Wi
structure InG (R : LR) (g : G) (sa : Option Addr) (sn sk : Nat) : Prop where
 d : (1, Value.slice sa sn sk, cellsB g.data) ∈ R
 ck : chkG g = true
 sq : g.seq < 4294967296
 ak : g.ack < 4294967296
theorem InG.mono {R R' : LR} {g : G} {sa : Option Addr} {sn sk : Nat} (h : InG R g sa sn sk) (hs : ∀ x ∈ R, x ∈ R') : InG R' g sa sn sk := ⟨hs _ h.d, h.ck, h.sq, h.ak⟩
theorem chkG_facts {g : G} (h : chkG g = true) : 1 ≤ g.src ∧ g.src ≤ 65535 ∧ 1 ≤ g.dst ∧ g.dst ≤ 65535 ∧ g.fl ≤ 31 ∧ g.wnd ≤ 65535 ∧ g.data.length ≤ 64 := by
 unfold chkG at h
 exact of_decide_eq_true h
end Go.Proofs.Tp
namespace Go.Proofs.Tp
open Go Go.RowKit Go.Proofs.Wi
section
variable {nw : Nat} {t : T} {out : List G}
theorem ge_4 (h : t.st = 4) : goneEnd nw ⟨t, out⟩ = (⟨{ t with st := 5 }, out⟩, true) := by unfold goneEnd; rw [if_pos h]
theorem ge_7 (h : t.st = 7) : goneEnd nw ⟨t, out⟩ = (rest nw ⟨t, out⟩, true) := by unfold goneEnd; rw [if_neg (by show ¬ t.st = 4; omega), if_pos h]
theorem ge_8 (h : t.st = 8) : goneEnd nw ⟨t, out⟩ = (⟨{ t with st := 0 }, out⟩, false) := by unfold goneEnd; rw [if_neg (by show ¬ t.st = 4; omega), if_neg (by show ¬ t.st = 7; omega), if_pos h]
theorem ge_0 (h : t.st ≠ 4 ∧ t.st ≠ 7 ∧ t.st ≠ 8) : goneEnd nw ⟨t, out⟩ = (⟨t, out⟩, true) := by unfold goneEnd; rw [if_neg h.1, if_neg h.2.1, if_neg h.2.2]
end
end Go.Proofs.Tp
namespace Go.Proofs.Ythenepdbgeafkaa
open Go.Proofs.Wi Go.RowKit Go.Proofs Go.Proofs.Tp
variable {w0 w : World} {L : LV} {R : LR} {bc nw : Nat} {t : T} {out : List G} {g : G} {sa : Option Addr} {sn sk : Nat} {n : Nat}
theorem joined_no (hc : CM w0 w bc L R nw ⟨t, out⟩) (hg : InG R g sa sn sk) (hl : out.length ≤ 400) (h : g.ack ≠ t.nx) : Calls Try.prog 71 #[.pointer (some ⟨bc, 0, none⟩), .agg #[.int .i64 g.src, .int .i64 g.dst, .int .u32 g.seq, .int .u32 g.ack, .int .i64 g.fl, .int .i64 g.wnd, .slice sa sn sk]] w (CMP w0 bc L R nw (.bool (joined g ⟨t, out⟩).2) (joined g ⟨t, out⟩).1) := by
 obtain ⟨da, dn, dk, ba, bn, bk, pa, pn, pk, l, ov, gs, O, hv, HI, HO⟩ := hc.get
 clear hc
 have HL : Hid (out.length ≤ 1000) := Lib.hid (by omega)
 have HG := Lib.hid hg
 have e : joined g ⟨t, out⟩ = (send 4 g.ack [] ⟨t, out⟩, false) := by unfold joined; rw [if_pos h]
 rw [e]
 have y1 : ((g.ack : Int) != (t.nx : Int)) = true := by rw [bne_iff_ne]; omega
 have y2 : ((g.ack : Int) == (t.nx : Int)) = false := by rw [beq_eq_false_iff_ne]; omega
 clear h e hg hl
 go_enter Try.func71, Try.ntmps71
 go_wp2_with (first
   | ((with_reducible refine gBx 72 3 ?_); refine nwB hv #[.int .i64 g.src, .int .i64 g.dst, .int .u32 g.seq, .int .u32 g.ack, .int .i64 g.fl, .int .i64 g.wnd, .slice sa sn sk] 72 ?_; clear hv; intro b_3 w2 hv))
 refine Any.wr2 9 [(2, [1000], none), (7, [1001], none)] [] hv ?_
 simp only [Any.someVals]
 iterate 9 apply Exists.intro
 repeat ((first
  | refine Any.E_off rfl ?_
  | ((with_reducible refine Any.gE 22 ?_); refine Any.eC 1000 (.int .u32 g.ack) Try.underlying22 ?_)
  | ((with_reducible refine Any.gE 22 ?_); refine Any.eC 1001 (.int .u32 t.nx) Try.underlying22 ?_)
  | refine Any.eV ?_); simp only [Act.put, sia, scs, scz])
 try any_goals exact undef
 refine Any.fin2 hv [1000, 1001] ?_; clear hv; intro w9 hv
 go_wp2_with (first
   | ((with_reducible refine gLd 22 ?_); refine ldC hv b_3 3 (.int .u32 g.ack) Try.underlying22 ?_)
   | (go_at_call 44; (refine (snn4 (CM.of (A := [_]) (c := ⟨t, out⟩) hv HI.out HO.out) HL.out).mono ?_); rintro e w1 ⟨R1, rfl, hc1⟩; obtain ⟨da1, dn1, dk1, ba1, bn1, bk1, pa1, pn1, pk1, l1, ov1, gs1, O1, hv1, hI1, hO1⟩ := CM.back (A := [_]) hc1; clear hv hc1; have hv : Mem w0 _ ([_] ++ (bc, #[.int .i64 t.st, .int .i64 t.lo, .int .u32 t.ip, .int .i64 t.po, .int .u32 t.iss, .int .u32 t.una, .int .u32 t.nx, .slice da1 dn1 dk1, .int .i64 t.wnd, .bool t.en, .bool t.se, .int .u32 t.inn.next, .slice ba1 bn1 bk1, .slice pa1 pn1 pk1, .bool t.ed, .int .u64 t.tm, .int .i64 t.rto, .int .i64 t.tr, .int .i64 t.er, .int .u64 nw, ov1]) :: (O1 ++ L)) _ := hv1; clear hv1; have HI1 := Lib.hid hI1; have HO1 := Lib.hid hO1; clear hI1 hO1; simp only [List.cons_append, List.nil_append] at hv))
 go_ret
 exact ⟨R1, rfl, CM.of (A := []) (O := O1) (c := send 4 g.ack [] ⟨t, out⟩) hv.drop HI1.out HO1.out⟩
theorem joined_yes (hc : CM w0 w bc L R nw ⟨t, out⟩) (hg : InG R g sa sn sk) (hl : out.length ≤ 400) (h : g.ack = t.nx) : Calls Try.prog 71 #[.pointer (some ⟨bc, 0, none⟩), .agg #[.int .i64 g.src, .int .i64 g.dst, .int .u32 g.seq, .int .u32 g.ack, .int .i64 g.fl, .int .i64 g.wnd, .slice sa sn sk]] w (CMP w0 bc L R nw (.bool (joined g ⟨t, out⟩).2) (joined g ⟨t, out⟩).1) := by
 obtain ⟨da, dn, dk, ba, bn, bk, pa, pn, pk, l, ov, gs, O, hv, HI, HO⟩ := hc.get
 clear hc
 have HL : Hid (out.length ≤ 1000) := Lib.hid (by omega)
 have HG := Lib.hid hg
 have e : joined g ⟨t, out⟩ = (fresh ⟨{ t with st := 3, una := g.ack, wnd := g.wnd }, out⟩, true) := by unfold joined; rw [if_neg (fun x => x h)]
 rw [e]
 have y1 : ((g.ack : Int) != (t.nx : Int)) = false := by rw [h]; simp
 have y2 : ((g.ack : Int) == (t.nx : Int)) = true := by rw [h]; simp
 clear h e hg hl
 go_enter Try.func71, Try.ntmps71
 go_wp2_with (first
   | ((with_reducible refine gBx 72 3 ?_); refine nwB hv #[.int .i64 g.src, .int .i64 g.dst, .int .u32 g.seq, .int .u32 g.ack, .int .i64 g.fl, .int .i64 g.wnd, .slice sa sn sk] 72 ?_; clear hv; intro b_3 w2 hv))
 refine Any.wr2 9 [(2, [1000], none), (7, [1001], none)] [] hv ?_
 simp only [Any.someVals]
 iterate 9 apply Exists.intro
 repeat ((first
  | refine Any.E_off rfl ?_
  | ((with_reducible refine Any.gE 22 ?_); refine Any.eC 1000 (.int .u32 g.ack) Try.underlying22 ?_)
  | ((with_reducible refine Any.gE 22 ?_); refine Any.eC 1001 (.int .u32 t.nx) Try.underlying22 ?_)
  | refine Any.eV ?_); simp only [Act.put, sia, scs, scz])
 try any_goals exact undef
 refine Any.fin2 hv [1000, 1001] ?_; clear hv; intro w9 hv
 go_wp2
 refine Any.wr2 21 [(5, [1000], none), (8, [1000], none), (12, [1001], some 1001), (16, [1001], some 1001), (20, [1001], some 1001)] [(12, .put), (16, .put), (20, .put)] hv ?_
 simp only [Any.someVals]
 iterate 21 apply Exists.intro
 repeat ((first
  | refine Any.E_off rfl ?_
  | ((with_reducible refine Any.gE 22 ?_); refine Any.eC 1000 (.int .u32 g.ack) Try.underlying22 ?_)
  | ((with_reducible refine Any.gE 3 ?_); refine Any.eC 1000 (.int .i64 g.wnd) Try.underlying3 ?_)
  | refine Any.eV ?_
  | ((with_reducible refine Any.at_estore (T := 3) ?_); refine Any.E_putc (T := 3) (v := .int .i64 3) rfl rfl rfl rfl rfl rfl (by kernel_rfl) rfl (by first | (show 0 < 21; decide) | (show 5 < 21; decide) | (show 8 < 21; decide)) ?_)
  | ((with_reducible refine Any.at_estore (T := 22) ?_); refine Any.E_putc (T := 22) (v := .int .u32 g.ack) rfl rfl rfl rfl rfl rfl (by kernel_rfl) rfl (by first | (show 0 < 21; decide) | (show 5 < 21; decide) | (show 8 < 21; decide)) ?_)
  | ((with_reducible refine Any.at_estore (T := 3) ?_); refine Any.E_putc (T := 3) (v := .int .i64 g.wnd) rfl rfl rfl rfl rfl rfl (by kernel_rfl) rfl (by first | (show 0 < 21; decide) | (show 5 < 21; decide) | (show 8 < 21; decide)) ?_)); simp only [Act.put, sia, scs, scz])
 try any_goals exact undef
 refine Any.fin2 hv [1000, 1001] ?_; clear hv; intro w9 hv
 go_wp2_with (first
   | (go_at_call 59; (refine (fresh_C (CM.of (A := [_]) (c := ⟨{ t with st := 3, una := g.ack, wnd := g.wnd }, out⟩) hv ⟨HI.out.d, HI.out.s, HI.out.ck, ⟨HG.out.ak, HI.out.u.nx, HI.out.u.iss, HI.out.u.inn, HI.out.u.ip⟩⟩ HO.out)).mono ?_); rintro e w1 ⟨R1, rfl, hc1⟩; obtain ⟨da1, dn1, dk1, ba1, bn1, bk1, pa1, pn1, pk1, l1, ov1, gs1, O1, hv1, hI1, hO1⟩ := CM.back (A := [_]) hc1; clear hv hc1; have hv : Mem w0 _ ([_] ++ (bc, #[.int .i64 3, .int .i64 t.lo, .int .u32 t.ip, .int .i64 t.po, .int .u32 t.iss, .int .u32 g.ack, .int .u32 t.nx, .slice da1 dn1 dk1, .int .i64 g.wnd, .bool t.en, .bool t.se, .int .u32 t.inn.next, .slice ba1 bn1 bk1, .slice pa1 pn1 pk1, .bool t.ed, .int .u64 0, .int .i64 4, .int .i64 0, .int .i64 t.er, .int .u64 nw, ov1]) :: (O1 ++ L)) _ := hv1; clear hv1; have HI1 := Lib.hid hI1; have HO1 := Lib.hid hO1; clear hI1 hO1; simp only [List.cons_append, List.nil_append] at hv))
 go_ret
 exact ⟨R1, rfl, CM.of (A := []) (O := O1) (c := fresh ⟨{ t with st := 3, una := g.ack, wnd := g.wnd }, out⟩) hv.drop HI1.out HO1.out⟩
theorem joined_C (hc : CM w0 w bc L R nw ⟨t, out⟩) (hg : InG R g sa sn sk) (hl : out.length ≤ 400) : Calls Try.prog 71 #[.pointer (some ⟨bc, 0, none⟩), .agg #[.int .i64 g.src, .int .i64 g.dst, .int .u32 g.seq, .int .u32 g.ack, .int .i64 g.fl, .int .i64 g.wnd, .slice sa sn sk]] w (CMP w0 bc L R nw (.bool (joined g ⟨t, out⟩).2) (joined g ⟨t, out⟩).1) := by
 by_cases h : g.ack = t.nx
 · exact joined_yes hc hg hl h
 · exact joined_no hc hg hl h
theorem gone_go (hc : CM w0 w bc L R nw ⟨t, out⟩) (hl : out.length ≤ 400) (h0 : 0 < n) (hn : (n : Int) ≤ flight t) (hf : flight t ≤ 1000) (hd : t.data.length ≤ 256) (he : goneE n ⟨t, out⟩ = false) (hm0 : n ≤ t.data.length) : Calls Try.prog 72 #[.pointer (some ⟨bc, 0, none⟩), .int .i64 n] w (CMP w0 bc L R nw (.bool (gone nw n ⟨t, out⟩).2) (gone nw n ⟨t, out⟩).1) := by
 obtain ⟨da, dn, dk, ba, bn, bk, pa, pn, pk, l, ov, gs, O, hv, HI, HO⟩ := hc.get
 clear hc
 obtain ⟨fl, hfl⟩ : ∃ f : Nat, dif t.nx t.una = (f : Int) := ⟨(flight t).toNat, by have := flight_N t; omega⟩
 have hfl2 : flight t = (fl : Int) := hfl
 obtain ⟨m, hm⟩ : ∃ m, n = m := ⟨_, rfl⟩
 obtain ⟨x1, hx1⟩ : ∃ x, Tp.u32 (t.una + m) = x := ⟨_, rfl⟩
 have hgm : goneM n ⟨t, out⟩ = m := by unfold goneM; rw [he]; exact hm
 have e : gone nw n ⟨t, out⟩ = (⟨{ t with una := x1, data := t.data.drop m, rto := 4, tr := 0, tm := 0 }, out⟩, true) := by
   unfold gone
   rw [if_pos he]
   unfold gone1
   rw [hgm]
   show (fresh ⟨{ t with una := Tp.u32 (t.una + m), data := t.data.drop m }, out⟩, true) = _
   rw [hx1]; rfl
 rw [e]
 have hdn : t.data.length = dn := len_rd1 (hv.rd HI.out.d)
 have HM : Hid (m ≤ dn) := Lib.hid (by omega)
 have HN6 : Hid (dn - m ≤ 1000000) := Lib.hid (by omega)
 have HC1 : Hid (∀ x ∈ (cellsB t.data).drop (m * 1), x.oneCell' = true) := Lib.hid (fun x hx => cellsB_one _ x (List.mem_of_mem_drop hx))
 have HCD : Hid ((cellsB t.data).drop (m * 1) = cellsB (t.data.drop m)) := Lib.hid (by rw [Nat.mul_one]; simp only [cellsB, List.map_drop])
 have q2 : IntKind.u32.wrap (m : Int) = (m : Int) := by simp [IntKind.wrap, IntKind.bits, IntKind.signed]; omega
 have q3 : IntKind.u32.wrap ((t.una : Int) + (m : Int)) = (x1 : Int) := by rw [← hx1]; unfold Tp.u32; simp [IntKind.wrap, IntKind.bits, IntKind.signed]
 have HX1 : Hid (x1 < 4294967296) := Lib.hid (by rw [← hx1]; exact Tp.u32_lt _)
 have hse : t.se = false ∨ t.se = true ∧ ((n : Int) == (fl : Int)) = false := by
   unfold goneE at he
   rcases Bool.eq_false_or_eq_true t.se with h | h
   · right
     refine ⟨h, ?_⟩
     simp only [h, Bool.true_and] at he
     rw [hfl2] at he
     exact he
   · exact .inl h
 clear he hm0 hn h0 hf hd hl e hgm hx1 hfl2 hdn
 obtain rfl : m = n := hm.symm
 rcases hse with hs | ⟨hs, y1⟩
 all_goals
   go_enter Try.func72, Try.ntmps72
   go_wp2_with (first
     | ((with_reducible refine gLd 4 ?_); refine ldC hv bc 10 (.bool t.se) Try.underlying4 ?_)
     | ((with_reducible refine at_load (T := 31) ?_); refine wl_ldp rfl bc 0 rfl _ hv.vars.ro 19 _ Try.underlying31 rfl infoT19 (by decide) (by show 0 + 19 ≤ 21; decide) (#[.int .i64 t.st, .int .i64 t.lo, .int .u32 t.ip, .int .i64 t.po, .int .u32 t.iss, .int .u32 t.una, .int .u32 t.nx, .slice da dn dk, .int .i64 t.wnd, .bool t.en, .bool t.se, .int .u32 t.inn.next, .slice ba bn bk, .slice pa pn pk, .bool t.ed, .int .u64 t.tm, .int .i64 t.rto, .int .i64 t.tr, .int .i64 t.er]) (ext21 _ _ _ _ _ _ _ _ _ _ _ _ _ _ _ _ _ _ _ _ _) ?_)
     | (go_at_call 57; (with_reducible refine (flight_v _ _ _ _ _ _ _ _ _ _ _ _ _ _ _ _ _ _ _ _).mono ?_); rintro e w1 ⟨rfl, hn1⟩; replace hv := hv.new hn1; clear hn1)
     | ((with_reducible refine gLd 22 ?_); refine ldC hv bc 5 (.int .u32 t.una) Try.underlying22 ?_)
     | ((with_reducible refine gSt 22 ?_); refine stC hv bc 5 (.int .u32 x1) ?_; clear hv; intro w2 hv)
     | ((with_reducible refine gLd 23 ?_); refine ldC hv bc 7 (.slice da dn dk) Try.underlying23 ?_)
     | ((with_reducible refine at_slice (T := 23) ?_); refine wl_slice_l rfl rfl hv HI.out.d Try.underlying23 infoB1 m rfl HM.out ?_; intro ao hv1; replace hv := hv1; clear hv1)
     | (go_at_call 63; (with_reducible refine (BClone_mem _ _ _ _ _ _ _ _ hv Mem.z HC1.out HN6.out).mono ?_); rintro e w1 ⟨ra, rn, rk, rfl, hv1⟩; replace hv := hv1; clear hv1)
     | ((with_reducible refine gSt 23 ?_); refine stC hv bc 7 (.slice ra rn rk) ?_; clear hv; intro w2 hv)
     | (go_at_call 59; (refine (fresh_C (CM.of (A := []) (c := ⟨{ t with una := x1, data := t.data.drop m }, out⟩) hv ⟨(by rw [← HCD.out]; exact Mem.z), HI.out.s.mono (fun x hx => Mem.s (Mem.s hx)), HI.out.ck, ⟨HX1.out, HI.out.u.nx, HI.out.u.iss, HI.out.u.inn, HI.out.u.ip⟩⟩ (HO.out.mono (fun x hx => Mem.s (Mem.s hx))))).mono ?_); rintro e w1 ⟨R1, rfl, hc1⟩; obtain ⟨da1, dn1, dk1, ba1, bn1, bk1, pa1, pn1, pk1, l1, ov1, gs1, O1, hv1, hI1, hO1⟩ := CM.back (A := []) hc1; clear hv hc1; have hv : Mem w0 _ ([] ++ (bc, #[.int .i64 t.st, .int .i64 t.lo, .int .u32 t.ip, .int .i64 t.po, .int .u32 t.iss, .int .u32 x1, .int .u32 t.nx, .slice da1 dn1 dk1, .int .i64 t.wnd, .bool t.en, .bool t.se, .int .u32 t.inn.next, .slice ba1 bn1 bk1, .slice pa1 pn1 pk1, .bool t.ed, .int .u64 0, .int .i64 4, .int .i64 0, .int .i64 t.er, .int .u64 nw, ov1]) :: (O1 ++ L)) _ := hv1; clear hv1; have HI1 := Lib.hid hI1; have HO1 := Lib.hid hO1; clear hI1 hO1; simp only [List.cons_append, List.nil_append] at hv))
   go_ret
   exact ⟨R1 ++ [_, _], rfl, CM.of (A := []) (O := O1) (c := ⟨{ t with una := x1, data := t.data.drop m, rto := 4, tr := 0, tm := 0 }, out⟩) (by rw [List.append_assoc]; exact hv) (by rw [List.append_assoc]; exact HI1.out) (by rw [List.append_assoc]; exact HO1.out)⟩
theorem gone_end (hc : CM w0 w bc L R nw ⟨t, out⟩) (hl : out.length ≤ 400) (h0 : 0 < n) (hn : (n : Int) ≤ flight t) (hf : flight t ≤ 1000) (hd : t.data.length ≤ 256) (he : goneE n ⟨t, out⟩ = true) (hm0 : n - 1 ≤ t.data.length) : Calls Try.prog 72 #[.pointer (some ⟨bc, 0, none⟩), .int .i64 n] w (CMP w0 bc L R nw (.bool (gone nw n ⟨t, out⟩).2) (gone nw n ⟨t, out⟩).1) := by
 obtain ⟨da, dn, dk, ba, bn, bk, pa, pn, pk, l, ov, gs, O, hv, HI, HO⟩ := hc.get
 clear hc
 obtain ⟨fl, hfl⟩ : ∃ f : Nat, dif t.nx t.una = (f : Int) := ⟨(flight t).toNat, by have := flight_N t; omega⟩
 have hfl2 : flight t = (fl : Int) := hfl
 obtain ⟨m, hm⟩ : ∃ m, n - 1 = m := ⟨_, rfl⟩
 obtain ⟨x1, hx1⟩ : ∃ x, Tp.u32 (t.una + m) = x := ⟨_, rfl⟩
 obtain ⟨x2, hx2⟩ : ∃ x, Tp.u32 (x1 + 1) = x := ⟨_, rfl⟩
 have hgm : goneM n ⟨t, out⟩ = m := by unfold goneM; rw [he]; exact hm
 have e : gone nw n ⟨t, out⟩ = goneEnd nw ⟨{ t with una := x2, data := t.data.drop m, rto := 4, tr := 0, tm := 0 }, out⟩ := by
   unfold gone
   rw [if_neg (by rw [he]; decide)]
   unfold gone2 gone1
   rw [hgm]
   show goneEnd nw ⟨{ t with una := Tp.u32 (Tp.u32 (t.una + m) + 1), data := t.data.drop m, rto := 4, tr := 0, tm := 0 }, out⟩ = _
   rw [hx1, hx2]
 have hdn : t.data.length = dn := len_rd1 (hv.rd HI.out.d)
 have HM : Hid (m ≤ dn) := Lib.hid (by omega)
 have HN6 : Hid (dn - m ≤ 1000000) := Lib.hid (by omega)
 have HC1 : Hid (∀ x ∈ (cellsB t.data).drop (m * 1), x.oneCell' = true) := Lib.hid (fun x hx => cellsB_one _ x (List.mem_of_mem_drop hx))
 have HCD : Hid ((cellsB t.data).drop (m * 1) = cellsB (t.data.drop m)) := Lib.hid (by rw [Nat.mul_one]; simp only [cellsB, List.map_drop])
 have q2 : IntKind.u32.wrap (m : Int) = (m : Int) := by simp [IntKind.wrap, IntKind.bits, IntKind.signed]; omega
 have q3 : IntKind.u32.wrap ((t.una : Int) + (m : Int)) = (x1 : Int) := by rw [← hx1]; unfold Tp.u32; simp [IntKind.wrap, IntKind.bits, IntKind.signed]
 have HX1 : Hid (x1 < 4294967296) := Lib.hid (by rw [← hx1]; exact Tp.u32_lt _)
 have hs : t.se = true ∧ n = fl := by
   unfold goneE at he
   simp only [Bool.and_eq_true, beq_iff_eq] at he
   rw [hfl2] at he
   exact ⟨he.1, by omega⟩
 obtain ⟨hs, rfl⟩ := hs
 have q4 : IntKind.i64.wrap ((n : Int) - 1) = (m : Int) := by rw [IntWalk.i64_in _ (by omega)]; omega
 have q5 : IntKind.u32.wrap ((x1 : Int) + 1) = (x2 : Int) := by rw [← hx2]; unfold Tp.u32; simp [IntKind.wrap, IntKind.bits, IntKind.signed]
 have HX2 : Hid (x2 < 4294967296) := Lib.hid (by rw [← hx2]; exact Tp.u32_lt _)
 clear he hm0 hn h0 hf hd hl hgm hx1 hx2 hfl2 hdn hm
 rcases (show t.st = 4 ∨ t.st = 7 ∨ t.st = 8 ∨ (t.st ≠ 4 ∧ t.st ≠ 7 ∧ t.st ≠ 8) by omega) with k4 | k7 | k8 | k0
 all_goals rw [e]
 all_goals first
   | rw [ge_4 (t := { t with una := x2, data := t.data.drop m, rto := 4, tr := 0, tm := 0 }) k4]
   | rw [ge_7 (t := { t with una := x2, data := t.data.drop m, rto := 4, tr := 0, tm := 0 }) k7]
   | rw [ge_8 (t := { t with una := x2, data := t.data.drop m, rto := 4, tr := 0, tm := 0 }) k8]
   | rw [ge_0 (t := { t with una := x2, data := t.data.drop m, rto := 4, tr := 0, tm := 0 }) k0]
 all_goals try (have z4 : ((t.st : Int) == 4) = true := (by rw [k4]; rfl))
 all_goals try (have z4 : ((t.st : Int) == 4) = false := (by rw [beq_eq_false_iff_ne]; omega))
 all_goals try (have z7 : ((t.st : Int) == 7) = true := (by rw [k7]; rfl))
 all_goals try (have z7 : ((t.st : Int) == 7) = false := (by rw [beq_eq_false_iff_ne]; omega))
 all_goals try (have z8 : ((t.st : Int) == 8) = true := (by rw [k8]; rfl))
 all_goals try (have z8 : ((t.st : Int) == 8) = false := (by rw [beq_eq_false_iff_ne]; omega))
 all_goals ((try clear k4); (try clear k7); (try clear k8); (try clear k0))
 all_goals
   clear e
   go_enter Try.func72, Try.ntmps72
   go_wp2_with (first
     | ((with_reducible refine gLd 4 ?_); refine ldC hv bc 10 (.bool t.se) Try.underlying4 ?_)
     | ((with_reducible refine at_load (T := 31) ?_); refine wl_ldp rfl bc 0 rfl _ hv.vars.ro 19 _ Try.underlying31 rfl infoT19 (by decide) (by show 0 + 19 ≤ 21; decide) (#[.int .i64 t.st, .int .i64 t.lo, .int .u32 t.ip, .int .i64 t.po, .int .u32 t.iss, .int .u32 t.una, .int .u32 t.nx, .slice da dn dk, .int .i64 t.wnd, .bool t.en, .bool t.se, .int .u32 t.inn.next, .slice ba bn bk, .slice pa pn pk, .bool t.ed, .int .u64 t.tm, .int .i64 t.rto, .int .i64 t.tr, .int .i64 t.er]) (ext21 _ _ _ _ _ _ _ _ _ _ _ _ _ _ _ _ _ _ _ _ _) ?_)
     | (go_at_call 57; (with_reducible refine (flight_v _ _ _ _ _ _ _ _ _ _ _ _ _ _ _ _ _ _ _ _).mono ?_); rintro e w1 ⟨rfl, hn1⟩; replace hv := hv.new hn1; clear hn1)
     | ((with_reducible refine gLd 22 ?_); refine ldC hv bc 5 (.int .u32 t.una) Try.underlying22 ?_)
     | ((with_reducible refine gSt 22 ?_); refine stC hv bc 5 (.int .u32 x1) ?_; clear hv; intro w2 hv)
     | ((with_reducible refine gLd 23 ?_); refine ldC hv bc 7 (.slice da dn dk) Try.underlying23 ?_)
     | ((with_reducible refine at_slice (T := 23) ?_); refine wl_slice_l rfl rfl hv HI.out.d Try.underlying23 infoB1 m rfl HM.out ?_; intro ao hv1; replace hv := hv1; clear hv1)
     | (go_at_call 63; (with_reducible refine (BClone_mem _ _ _ _ _ _ _ _ hv Mem.z HC1.out HN6.out).mono ?_); rintro e w1 ⟨ra, rn, rk, rfl, hv1⟩; replace hv := hv1; clear hv1)
     | ((with_reducible refine gSt 23 ?_); refine stC hv bc 7 (.slice ra rn rk) ?_; clear hv; intro w2 hv)
     | (go_at_call 59; (refine (fresh_C (CM.of (A := []) (c := ⟨{ t with una := x1, data := t.data.drop m }, out⟩) hv ⟨(by rw [← HCD.out]; exact Mem.z), HI.out.s.mono (fun x hx => Mem.s (Mem.s hx)), HI.out.ck, ⟨HX1.out, HI.out.u.nx, HI.out.u.iss, HI.out.u.inn, HI.out.u.ip⟩⟩ (HO.out.mono (fun x hx => Mem.s (Mem.s hx))))).mono ?_); rintro e w1 ⟨R1, rfl, hc1⟩; obtain ⟨da1, dn1, dk1, ba1, bn1, bk1, pa1, pn1, pk1, l1, ov1, gs1, O1, hv1, hI1, hO1⟩ := CM.back (A := []) hc1; clear hv hc1; have hv : Mem w0 _ ([] ++ (bc, #[.int .i64 t.st, .int .i64 t.lo, .int .u32 t.ip, .int .i64 t.po, .int .u32 t.iss, .int .u32 x1, .int .u32 t.nx, .slice da1 dn1 dk1, .int .i64 t.wnd, .bool t.en, .bool t.se, .int .u32 t.inn.next, .slice ba1 bn1 bk1, .slice pa1 pn1 pk1, .bool t.ed, .int .u64 0, .int .i64 4, .int .i64 0, .int .i64 t.er, .int .u64 nw, ov1]) :: (O1 ++ L)) _ := hv1; clear hv1; have HI1 := Lib.hid hI1; have HO1 := Lib.hid hO1; clear hI1 hO1; simp only [List.cons_append, List.nil_append] at hv)
     | ((with_reducible refine gLd 22 ?_); refine ldC hv bc 5 (.int .u32 x1) Try.underlying22 ?_)
     | ((with_reducible refine gSt 22 ?_); refine stC hv bc 5 (.int .u32 x2) ?_; clear hv; intro w2 hv)
     | ((with_reducible refine gLd 3 ?_); refine ldC hv bc 0 (.int .i64 t.st) Try.underlying3 ?_)
     | ((with_reducible refine gSt 3 ?_); refine stC hv bc 0 (.int .i64 5) ?_; clear hv; intro w2 hv)
     | ((with_reducible refine gSt 3 ?_); refine stC hv bc 0 (.int .i64 0) ?_; clear hv; intro w2 hv)
     | (go_at_call 77; (refine (rest_C (CM.of (A := []) (c := ⟨{ t with una := x2, data := t.data.drop m, rto := 4, tr := 0, tm := 0 }, out⟩) hv ⟨HI1.out.d, HI1.out.s, HI1.out.ck, ⟨HX2.out, HI1.out.u.nx, HI1.out.u.iss, HI1.out.u.inn, HI1.out.u.ip⟩⟩ HO1.out)).mono ?_); rintro e w1 ⟨R3, rfl, hc1⟩; obtain ⟨da3, dn3, dk3, ba3, bn3, bk3, pa3, pn3, pk3, l3, ov3, gs3, O3, hv1, hI1, hO1⟩ := CM.back (A := []) hc1; clear hv hc1; have hv : Mem w0 _ ([] ++ (bc, #[.int .i64 9, .int .i64 t.lo, .int .u32 t.ip, .int .i64 t.po, .int .u32 t.iss, .int .u32 x2, .int .u32 t.nx, .slice da3 dn3 dk3, .int .i64 t.wnd, .bool t.en, .bool t.se, .int .u32 t.inn.next, .slice ba3 bn3 bk3, .slice pa3 pn3 pk3, .bool t.ed, .int .u64 (later nw 32 : Nat), .int .i64 4, .int .i64 0, .int .i64 t.er, .int .u64 nw, ov3]) :: (O3 ++ L)) _ := hv1; clear hv1; have HI3 := Lib.hid hI1; have HO3 := Lib.hid hO1; clear hI1 hO1; simp only [List.cons_append, List.nil_append] at hv))
   go_ret
   first
     | exact ⟨R3 ++ R1 ++ [_, _], rfl, CM.of (A := []) (O := O3) (c := rest nw ⟨{ t with una := x2, data := t.data.drop m, rto := 4, tr := 0, tm := 0 }, out⟩) (by rw [List.append_assoc, List.append_assoc]; exact hv) (by rw [List.append_assoc, List.append_assoc]; exact HI3.out) (by rw [List.append_assoc, List.append_assoc]; exact HO3.out)⟩
     | exact ⟨R1 ++ [_, _], rfl, CM.of (A := []) (O := O1) (c := ⟨{ t with una := x2, data := t.data.drop m, rto := 4, tr := 0, tm := 0, st := 5 }, out⟩) (by rw [List.append_assoc]; exact hv) (by rw [List.append_assoc]; exact ⟨HI1.out.d, HI1.out.s, HI1.out.ck, ⟨HX2.out, HI1.out.u.nx, HI1.out.u.iss, HI1.out.u.inn, HI1.out.u.ip⟩⟩) (by rw [List.append_assoc]; exact HO1.out)⟩
     | exact ⟨R1 ++ [_, _], rfl, CM.of (A := []) (O := O1) (c := ⟨{ t with una := x2, data := t.data.drop m, rto := 4, tr := 0, tm := 0, st := 0 }, out⟩) (by rw [List.append_assoc]; exact hv) (by rw [List.append_assoc]; exact ⟨HI1.out.d, HI1.out.s, HI1.out.ck, ⟨HX2.out, HI1.out.u.nx, HI1.out.u.iss, HI1.out.u.inn, HI1.out.u.ip⟩⟩) (by rw [List.append_assoc]; exact HO1.out)⟩
     | exact ⟨R1 ++ [_, _], rfl, CM.of (A := []) (O := O1) (c := ⟨{ t with una := x2, data := t.data.drop m, rto := 4, tr := 0, tm := 0 }, out⟩) (by rw [List.append_assoc]; exact hv) (by rw [List.append_assoc]; exact ⟨HI1.out.d, HI1.out.s, HI1.out.ck, ⟨HX2.out, HI1.out.u.nx, HI1.out.u.iss, HI1.out.u.inn, HI1.out.u.ip⟩⟩) (by rw [List.append_assoc]; exact HO1.out)⟩
theorem gone_C (hc : CM w0 w bc L R nw ⟨t, out⟩) (hl : out.length ≤ 400) (h0 : 0 < n) (hn : (n : Int) ≤ flight t) (hf : flight t ≤ 1000) (hd : t.data.length ≤ 256) (hm0 : goneM n ⟨t, out⟩ ≤ t.data.length) : Calls Try.prog 72 #[.pointer (some ⟨bc, 0, none⟩), .int .i64 n] w (CMP w0 bc L R nw (.bool (gone nw n ⟨t, out⟩).2) (gone nw n ⟨t, out⟩).1) := by
 rcases Bool.eq_false_or_eq_true (goneE n ⟨t, out⟩) with he | he
 · refine gone_end hc hl h0 hn hf hd he ?_
   unfold goneM at hm0
   rw [he] at hm0
   exact hm0
 · refine gone_go hc hl h0 hn hf hd he ?_
   unfold goneM at hm0
   rw [he] at hm0
   exact hm0
end Go.Proofs.Ythenepdbgeafkaa
end

section
/-
 The reference (layers 24, 26): which segments, which connections may be; which connections are not great.
-/
namespace Go.Proofs.Tp
open Go Go.RowKit Go.Proofs.Wi
structure BndI (st lo po wnd rto tr er : Int) (dn tm : Nat) (en se : Bool) (ck : Bool) : Prop where
 h1 : ¬ st < 0
 h2 : ¬ 9 < st
 h3 : 1 ≤ lo ∧ lo ≤ 65535
 h4 : 1 ≤ po ∧ po ≤ 65535
 h5 : dn ≤ 256
 h6 : ¬ wnd < 0
 h7 : ¬ 65535 < wnd
 h8 : ck = true
 h9 : tm ≤ 1099511627776
 i1 : ¬ rto < 1
 i2 : ¬ 64 < rto
 i3 : ¬ tr < 0
 i4 : ¬ 12 < tr
 i5 : ¬ er < 0
 i6 : ¬ 1000 < er
 i7 : se = true → en = true
end Go.Proofs.Tp
namespace Go.Proofs.Ythenepdbgeafkaa
open Go.Proofs.Wi Go.RowKit Go.Proofs Go.Proofs.Tp
end Go.Proofs.Ythenepdbgeafkaa
end

section
/-
 The reference (layer 26): which connections may be.
-/
namespace Go.Proofs.Tp
open Go Go.RowKit Go.Proofs.Wi
inductive BadI (st lo po wnd rto tr er : Int) (dn tm : Nat) (en se ck : Bool) : Prop
 | a1 (h : st < 0)
 | a2 (g1 : ¬ st < 0) (h : 9 < st)
 | a3 (g1 : ¬ st < 0) (g2 : ¬ 9 < st) (h : ¬ (1 ≤ lo ∧ lo ≤ 65535))
 | a4 (g1 : ¬ st < 0) (g2 : ¬ 9 < st) (g3 : 1 ≤ lo ∧ lo ≤ 65535) (h : ¬ (1 ≤ po ∧ po ≤ 65535))
 | a5 (g1 : ¬ st < 0) (g2 : ¬ 9 < st) (g3 : 1 ≤ lo ∧ lo ≤ 65535) (g4 : 1 ≤ po ∧ po ≤ 65535) (h : ¬ dn ≤ 256)
 | a6 (g1 : ¬ st < 0) (g2 : ¬ 9 < st) (g3 : 1 ≤ lo ∧ lo ≤ 65535) (g4 : 1 ≤ po ∧ po ≤ 65535) (g5 : dn ≤ 256) (h : wnd < 0)
 | a7 (g1 : ¬ st < 0) (g2 : ¬ 9 < st) (g3 : 1 ≤ lo ∧ lo ≤ 65535) (g4 : 1 ≤ po ∧ po ≤ 65535) (g5 : dn ≤ 256) (g6 : ¬ wnd < 0) (h : 65535 < wnd)
 | a8 (g1 : ¬ st < 0) (g2 : ¬ 9 < st) (g3 : 1 ≤ lo ∧ lo ≤ 65535) (g4 : 1 ≤ po ∧ po ≤ 65535) (g5 : dn ≤ 256) (g6 : ¬ wnd < 0) (g7 : ¬ 65535 < wnd) (h : ck = false)
inductive BadJ (st rto tr er : Int) (tm : Nat) (en se : Bool) : Prop
 | b1 (h : ¬ tm ≤ 1099511627776)
 | b2 (g1 : tm ≤ 1099511627776) (h : rto < 1)
 | b3 (g1 : tm ≤ 1099511627776) (g2 : ¬ rto < 1) (h : 64 < rto)
 | b4 (g1 : tm ≤ 1099511627776) (g2 : ¬ rto < 1) (g3 : ¬ 64 < rto) (h : tr < 0)
 | b5 (g1 : tm ≤ 1099511627776) (g2 : ¬ rto < 1) (g3 : ¬ 64 < rto) (g4 : ¬ tr < 0) (h : 12 < tr)
 | b6 (g1 : tm ≤ 1099511627776) (g2 : ¬ rto < 1) (g3 : ¬ 64 < rto) (g4 : ¬ tr < 0) (g5 : ¬ 12 < tr) (h : er < 0)
 | b7 (g1 : tm ≤ 1099511627776) (g2 : ¬ rto < 1) (g3 : ¬ 64 < rto) (g4 : ¬ tr < 0) (g5 : ¬ 12 < tr) (g6 : ¬ er < 0) (h : 1000 < er)
 | b8 (g1 : tm ≤ 1099511627776) (g2 : ¬ rto < 1) (g3 : ¬ 64 < rto) (g4 : ¬ tr < 0) (g5 : ¬ 12 < tr) (g6 : ¬ er < 0) (g7 : ¬ 1000 < er) (h : se = true) (h2 : en = false)
end Go.Proofs.Tp
namespace Go.Proofs.Ythenepdbgeafkaa
open Go.Proofs.Wi Go.RowKit Go.Proofs Go.Proofs.Tp
end Go.Proofs.Ythenepdbgeafkaa
end
