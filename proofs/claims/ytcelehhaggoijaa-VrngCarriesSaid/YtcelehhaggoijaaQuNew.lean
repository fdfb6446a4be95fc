/-
  A new queue.
-/
import Derived.Test.YtcelehhaggoijaaQuBufs
import Derived.Laws.MakeOwn
set_option linter.unusedVariables false
set_option linter.unusedSimpArgs false
namespace Go.Proofs.Qu
open Go Go.RowKit Go.Proofs.Nm
/-- A row of zeros. -/
def zerosR (n : Nat) : Array Value := madeCells (Value.int .u8 0).cells (n * 1)
theorem zerosR_list (n : Nat) : (zerosR n).toList = cellsB (List.replicate n 0) := by
  unfold zerosR
  apply List.ext_getElem?
  intro i
  unfold madeCells cellsB
  simp only [Value.cells, Array.toList_map, Array.toList_range, List.getElem?_map]
  by_cases h : i < n * 1
  · rw [List.getElem?_range h, List.getElem?_replicate, if_pos (by omega)]
    simp [Nat.mod_one]
  · rw [List.getElem?_eq_none (by simp; omega), List.getElem?_replicate, if_neg (by omega)]
    rfl
theorem zerosR_size (n : Nat) : (zerosR n).size = n := by
  have := congrArg List.length (zerosR_list n)
  rw [Array.length_toList, cellsB_len, List.length_replicate] at this
  exact this
def intsI (l : List Nat) : List Value := l.map fun n => Value.int .i64 (n : Nat)
theorem intsI_len (l : List Nat) : (intsI l).length = l.length := by unfold intsI; rw [List.length_map]
theorem intsI_snoc (l : List Nat) (x : Nat) : intsI (l ++ [x]) = intsI l ++ [.int .i64 (x : Nat)] := by unfold intsI; simp
theorem intsI_one (l : List Nat) : ∀ x ∈ intsI l, x.oneCell' = true := fun x hx => by
  unfold intsI at hx
  obtain ⟨_, _, rfl⟩ := List.mem_map.1 hx
  rfl
theorem zeros_row (B n : Nat) (h : n ≤ 100000) : AppRow (.slice (some ⟨B, 0, none⟩) n n) 1 (cellsB (List.replicate n 0)) (B, zerosR n) := by
  refine ⟨n, n, rfl, by rw [cellsB_len, List.length_replicate, Nat.mul_one], Nat.le_refl _, by unfold maxLen; omega, by rw [Nat.mul_one]; exact zerosR_size n, ?_⟩
  show (zerosR n).toList.take _ = _
  rw [zerosR_list, List.take_of_length_le (by rw [cellsB_len, List.length_replicate]; omega)]
theorem int_one (x : Nat) : ∀ y ∈ [Value.int .i64 (x : Nat)], y.oneCell' = true := fun y hy => by rw [List.mem_singleton.1 hy]; rfl
theorem mem4o {w0 w : World} {a b c d : Nat × Array Value} {O L : List (Nat × Array Value)} {R : List (Nat × Value × List Value)} (h : Mem w0 w (a :: b :: c :: d :: (O ++ L)) R) : Mem w0 w ([a, b, c, d] ++ O ++ L) R := by simpa using h
theorem mem4o' {w0 w : World} {a b c d : Nat × Array Value} {O L : List (Nat × Array Value)} {R : List (Nat × Value × List Value)} (h : Mem w0 w ([a, b, c, d] ++ O ++ L) R) : Mem w0 w (a :: b :: c :: d :: (O ++ L)) R := by simpa using h
theorem zeros_good (n : Nat) : goodB (List.replicate n 0) := fun x hx => by rw [(List.mem_replicate.1 hx).2]; decide
end Go.Proofs.Qu
namespace Go
namespace Any
section
variable {P : Program} {ops : Array Oper} {β : Base} {S : Nat → Stat} {D : Nat → Kind} {Q : Act → Env → Prop} {k : Nat} {rest : List Oper} {a : Act} {E : Env}
variable {dst : Option Tmp} {ty T : TypeId} {pos : String} {after : Array Edge} {g : Option (Nat × Bool)} {x y : Operand}
theorem run_mk_op {w w' : World} {u v r : Value} (h : (Instr.makeSlice T u v).run P w = .ok r w') (hx : a.eval x = u) (hy : a.eval y = v) : (execOp a.eval (⟨dst, .makeSlice T x y, ty, pos, after, g⟩ : Oper)).run P w = .ok (.value r) w' := by
  simp [execOp, hx, hy, h, Result.andThen]
theorem at_emk (h : wpE P ops β S D Q k (⟨dst, .makeSlice T x y, ty, pos, after, g⟩ :: rest) a E) : wpE P ops β S D Q k (⟨dst, .makeSlice T x y, ty, pos, after, g⟩ :: rest) a E := h
end
end Any
end Go
namespace Go.Proofs.Ytcelehhaggoijaa
open Go.Proofs.Qu Go.Proofs.Nm Go.RowKit Go.Proofs
theorem run_mkz (w : World) (n : Nat) (hn : n ≤ 100000) : (Instr.makeSlice 23 (.int .i64 (n : Nat)) (.int .i64 (n : Nat))).run Try.prog w = .ok (.slice (some ⟨w.heap.size, 0, none⟩) n n) (w.alloc (.cells (zerosR n) 5)) := by
  obtain ⟨i, hi, hz, hsz, hby⟩ := info_parts infoU8z
  have h := run_makeSlice (P := Try.prog) (w := w) 23 5 i (.int .u8 0) Try.underlying23 hi hz .i64 .i64 (n : Nat) (n : Nat) (by omega) (by omega) (by rw [hsz]; simp; omega) (by rw [hby]; omega) (by omega)
  rw [hsz] at h
  simp only [Int.toNat_natCast] at h
  exact h
theorem built_q (base n : Nat) : Try.prog.built 30 [(0, .int .i64 (base : Nat)), (1, .int .i64 (n : Nat))] = some #[.int .i64 (base : Nat), .int .i64 (n : Nat), .slice none 0 0, .int .u16 0, .int .u16 0, .slice none 0 0] := by kernel_rfl
theorem infoQ : (Try.prog.info? 30).map (·.size) = some 6 := by kernel_rfl
set_option maxRecDepth 100000 in
set_option maxHeartbeats 16000000 in
theorem New_M {w0 w : World} {L : List (Nat × Array Value)} {R : List (Nat × Value × List Value)} {mb mo mn mc : Nat} {M : List Nat} (hv : Mem w0 w L R) (hm : InM R mb mo mn mc M) (base n : Nat) (hn : okN n) (hb : base + sizeN n ≤ mn) :
    Calls Try.prog 11 #[(.agg #[(.slice (some ⟨mb, mo, none⟩) mn mc)]), .int .i64 (base : Nat), .int .i64 (n : Nat)] w fun e w' => ∃ b c fv R', e = .returned (.tuple #[.agg #[.slice (some ⟨b, 0, none⟩) mn c], .agg #[.int .i64 (base : Nat), .int .i64 (n : Nat), fv, .int .u16 0, .int .u16 0, .slice none 0 0], .int .i64 0]) ∧ Mem w0 w' L R' ∧ InM R' b 0 mn c (putB M base (List.replicate (sizeN n) 0)) ∧ (1, fv, intsI (List.range n)) ∈ R' ∧ ∀ x ∈ R, x ∈ R' := by
  have HM := Lib.hid hm
  have HN := Lib.hid hn
  have HB := Lib.hid hb
  have HM8 : Hid (mn ≤ 8192) := Lib.hid hm.most
  have hsz := hn.size
  have hle := hn.le
  obtain ⟨sz, hs⟩ : ∃ sz, sizeN n = sz := ⟨_, rfl⟩
  have HSI : Hid (∀ w, Calls Try.prog 23 #[.int .i64 (n : Nat)] w fun e w' => e = .returned (.int .i64 (sz : Nat)) ∧ New w w') := Lib.hid (fun w => by have := Size_ok n hn w; rw [hs] at this; exact this)
  have HSZ : Hid (sz ≤ 100000) := Lib.hid (by omega)
  have HS0 : Hid (0 < sz) := Lib.hid (by omega)
  have HBS : Hid (base + sz ≤ mn) := Lib.hid (by omega)
  have hn16 : (n : Int) ≤ 16 := by omega
  rw [hs]
  clear hn hb hsz hle hs hm
  go_enter Try.func11, Try.ntmps11
  go_wp2_with (first
    | ((with_reducible refine at_box (T := 25) (dst := some 3) ?_); refine wl_newb rfl #[(.slice (some ⟨mb, mo, none⟩) mn mc)] 25 (fun _ => rfl) ?_; intro b3 w2 hm2; replace hv := hv.madeAt hm2; clear hm2)
    | ((with_reducible refine at_alloc (T := 25) (dst := some 6) ?_); refine wl_newb rfl #[.slice none 0 0] 25 (fun _ => rfl) ?_; intro b6 w2 hm2; replace hv := hv.madeAt hm2; clear hm2)
    | ((with_reducible refine at_alloc (T := 30) (dst := some 7) ?_); refine wl_newb rfl #[.int .i64 0, .int .i64 0, .slice none 0 0, .int .u16 0, .int .u16 0, .slice none 0 0] 30 (fun _ => rfl) ?_; intro b7 w2 hm2; replace hv := hv.madeAt hm2; clear hm2)
    | ((with_reducible refine at_load (T := 25) ?_); refine wl_ldv rfl b3 rfl _ (hv.vars.row (by first | exact .head _ | exact .tail _ (.head _) | exact .tail _ (.tail _ (.head _)) | exact .tail _ (.tail _ (.tail _ (.head _))) | exact .tail _ (.tail _ (.tail _ (.tail _ (.head _)))) | exact .tail _ (.tail _ (.tail _ (.tail _ (.tail _ (.head _))))) | exact .tail _ (.tail _ (.tail _ (.tail _ (.tail _ (.tail _ (.head _)))))) | exact .tail _ (.tail _ (.tail _ (.tail _ (.tail _ (.tail _ (.tail _ (.head _))))))))) 1 _ Try.underlying25 rfl infoM (by decide) rfl ?_)
    | (go_at_call 22; (with_reducible refine (RingCheck_ok _ _ _ _ _ _ HN.out HB.out HM8.out _).mono ?_); rintro e w1 ⟨rfl, hn1⟩; replace hv := hv.new hn1; clear hn1))
  have hv0 := hv
  clear hv
  have hv : Mem w0 _ ([(b7, #[.int .i64 0, .int .i64 0, .slice none 0 0, .int .u16 0, .int .u16 0, .slice none 0 0]), (b6, #[.slice none 0 0]), (b3, #[(.slice (some ⟨mb, mo, none⟩) mn mc)])] ++ L) _ := hv0
  clear hv0
  refine Any.wp_region_cut 5 [⟨[1002], none⟩, ⟨[], none⟩, ⟨[], none⟩, ⟨[], none⟩, ⟨[], some 6⟩, ⟨[], none⟩, ⟨[], none⟩, ⟨[], none⟩, ⟨[], none⟩, ⟨[], none⟩] [.val, .val, .val, .val, .bsl sz (zerosR sz)] (by kernel_rfl) (by kernel_rfl) (hv.vars.keep (List.sublist_append_left [(b7, #[.int .i64 0, .int .i64 0, .slice none 0 0, .int .u16 0, .int .u16 0, .slice none 0 0]), (b6, #[.slice none 0 0]), (b3, #[(.slice (some ⟨mb, mo, none⟩) mn mc)])] L)) ?_
  simp only [Any.someVals, List.take_succ_cons, List.take_zero]
  iterate 5 apply Exists.intro
  repeat (first
    | (refine Any.E_off rfl ?_; simp only [Act.put, List.setIfInBounds_toArray, List.set_cons_succ, List.set_cons_zero])
    | (apply Any.E_pureq rfl rfl rfl
       case h => intro K hK; go_big_quiet_op; (refine hK _ ?_; rfl)
       case hr => exact fun _ => rfl
       simp only [Act.put, List.setIfInBounds_toArray, List.set_cons_succ, List.set_cons_zero])
    | (apply Any.E_val rfl rfl rfl rfl
       case h =>
         intro E' hA K hK
         first
           | ((with_reducible refine Any.at_qload (T := 25) ?_); refine Any.q_ldv 1002 hA (by decide) rfl rfl 1 _ Try.underlying25 rfl infoM (by decide) rfl ?_; refine hK _ ?_; rfl)
           | (go_big_quiet_op; first
             | (refine hK _ ?_; rfl)
             | (refine ⟨_, fun _ _ => rfl, ?_⟩; refine hK _ ?_; rfl)
             | (apply Exists.intro; refine ⟨fun w1 hw1 => ?_, ?_⟩; · (first
                 | (go_at_call 23; exact Any.calls_VE (HSI.out _) hw1))
                refine hK _ ?_; rfl))
       case hD => rfl
       simp only [Act.put, List.setIfInBounds_toArray, List.set_cons_succ, List.set_cons_zero])
    | ((with_reducible refine Any.at_ealloc ?_); refine Any.E_lay rfl rfl rfl (fun _ => rfl) ?_; intro B; simp only [Act.put, List.setIfInBounds_toArray, List.set_cons_succ, List.set_cons_zero])
    | ((with_reducible refine Any.at_emk ?_); refine Any.E_bsl (n := sz) (z := zerosR sz) (t := 5) rfl rfl rfl (fun w' => Any.run_mk_op (run_mkz w' sz HSZ.out) rfl rfl) ?_; intro B; simp only [Act.put, List.setIfInBounds_toArray, List.set_cons_succ, List.set_cons_zero])
    | ((with_reducible refine Any.at_estore (T := 25) ?_); refine Any.E_putv (T := 25) rfl rfl rfl rfl rfl rfl 1 infoM rfl rfl (by simp [Value.oneCell']) ?_; simp only [Act.put, List.setIfInBounds_toArray, List.set_cons_succ, List.set_cons_zero]))
  try any_goals exact undef
  refine Any.E_nil ?_
  intro w9 hE9
  replace hv : Mem w0 w9 ([(B, zerosR sz), (b7, #[.int .i64 0, .int .i64 0, .slice none 0 0, .int .u16 0, .int .u16 0, .slice none 0 0]), (b6, #[.slice none 0 0]), (b3, #[(.slice (some ⟨mb, mo, none⟩) mn mc)])] ++ L) _ := hE9.memr (L1 := [(b7, #[.int .i64 0, .int .i64 0, .slice none 0 0, .int .u16 0, .int .u16 0, .slice none 0 0]), (b6, #[.slice none 0 0]), (b3, #[(.slice (some ⟨mb, mo, none⟩) mn mc)])]) hv [6, 1000, 1001, 1002] (by decide)
  clear hE9
  have hv2 := Mem.yield (L1 := []) hv (zeros_row B sz HSZ.out)
  replace hv := hv2
  clear hv2
  simp only [List.nil_append] at hv
  refine Any.wpOp_callv rfl rfl (Go.Proofs.enters_of Try.func18 (by kernel_rfl) rfl) rfl [(.agg #[(.slice (some ⟨mb, mo, none⟩) mn mc)]), .int .i64 (base : Nat), .slice (some ⟨B, 0, none⟩) sz sz] rfl ?_
  refine (Put_ok hv (HM.out.mono fun x hx => Mem.s hx) base Mem.z (zeros_good sz) HS0.out HBS.out).mono ?_
  rintro e w1 ⟨vb, vc, R1, rfl, hv1, hi1, hs1⟩
  replace hv := hv1
  have HI1 := Lib.hid hi1
  have HS1 := Lib.hid (fun x hx => hs1 x (Mem.s hx))
  clear hv1 hi1 hs1
  refine ⟨_, rfl, ?_⟩
  have hv0 := hv
  clear hv
  have hv : Mem w0 _ ([(b7, #[.int .i64 0, .int .i64 0, .slice none 0 0, .int .u16 0, .int .u16 0, .slice none 0 0]), (b6, #[.slice none 0 0]), (b3, #[(.slice (some ⟨mb, mo, none⟩) mn mc)])] ++ L) _ := hv0
  clear hv0
  refine Any.wpAny_rest 6 [⟨[], none⟩, ⟨[], none⟩, ⟨[], none⟩, ⟨[1002], some 1002⟩] [.val, .val, .val, .put] (by kernel_rfl) (hv.vars.keep (List.sublist_append_left [(b7, #[.int .i64 0, .int .i64 0, .slice none 0 0, .int .u16 0, .int .u16 0, .slice none 0 0]), (b6, #[.slice none 0 0]), (b3, #[(.slice (some ⟨mb, mo, none⟩) mn mc)])] L)) ?_
  simp only [List.length_cons, List.length_nil, Nat.zero_add, Nat.reduceAdd, Nat.reduceSub, Any.someVals, List.drop_succ_cons, List.drop_zero]
  simp only [Act.put, List.setIfInBounds_toArray, List.set_cons_succ, List.set_cons_zero]
  iterate 4 apply Exists.intro
  repeat (first
    | (refine Any.E_off rfl ?_; simp only [Act.put, List.setIfInBounds_toArray, List.set_cons_succ, List.set_cons_zero])
    | (apply Any.E_pureq rfl rfl rfl
       case h => intro K hK; go_big_quiet_op; (refine hK _ ?_; rfl)
       case hr => exact fun _ => rfl
       simp only [Act.put, List.setIfInBounds_toArray, List.set_cons_succ, List.set_cons_zero])
    | (apply Any.E_val rfl rfl rfl rfl
       case h =>
         intro E' hA K hK
         first
           | ((with_reducible refine Any.at_qload (T := 25) ?_); refine Any.q_ldv 1002 hA (by decide) rfl rfl 1 _ Try.underlying25 rfl infoM (by decide) rfl ?_; refine hK _ ?_; rfl)
           | (go_big_quiet_op; first
             | (refine hK _ ?_; rfl)
             | (refine ⟨_, fun _ _ => rfl, ?_⟩; refine hK _ ?_; rfl)
             | (apply Exists.intro; refine ⟨fun w1 hw1 => ?_, ?_⟩; · (first
                 | (go_at_call 23; exact Any.calls_VE (HSI.out _) hw1))
                refine hK _ ?_; rfl))
       case hD => rfl
       simp only [Act.put, List.setIfInBounds_toArray, List.set_cons_succ, List.set_cons_zero])
    | ((with_reducible refine Any.at_ealloc ?_); refine Any.E_lay rfl rfl rfl (fun _ => rfl) ?_; intro B; simp only [Act.put, List.setIfInBounds_toArray, List.set_cons_succ, List.set_cons_zero])
    | ((with_reducible refine Any.at_emk ?_); refine Any.E_bsl (n := sz) (z := zerosR sz) (t := 5) rfl rfl rfl (fun w' => Any.run_mk_op (run_mkz w' sz HSZ.out) rfl rfl) ?_; intro B; simp only [Act.put, List.setIfInBounds_toArray, List.set_cons_succ, List.set_cons_zero])
    | ((with_reducible refine Any.at_estore (T := 25) ?_); refine Any.E_putv (T := 25) rfl rfl rfl rfl rfl rfl 1 infoM rfl rfl (by simp [Value.oneCell']) ?_; simp only [Act.put, List.setIfInBounds_toArray, List.set_cons_succ, List.set_cons_zero]))
  try any_goals exact undef
  refine Any.E_nil ?_
  intro w9 hE9
  replace hv : Mem w0 w9 ([(b7, #[.int .i64 0, .int .i64 0, .slice none 0 0, .int .u16 0, .int .u16 0, .slice none 0 0]), (b6, #[.slice none 0 0]), (b3, #[(.slice (some ⟨vb, 0, none⟩) mn vc)])] ++ L) _ := hE9.memr0 (L1 := [(b7, #[.int .i64 0, .int .i64 0, .slice none 0 0, .int .u16 0, .int .u16 0, .slice none 0 0]), (b6, #[.slice none 0 0]), (b3, #[(.slice (some ⟨mb, mo, none⟩) mn mc)])]) hv [1000, 1001, 1002] (by decide)
  clear hE9
  simp only [List.cons_append, List.nil_append] at hv
  go_wp2_with (first
    | ((with_reducible refine at_build ?_); refine wl_build rfl [(0, .int .i64 (base : Nat)), (1, .int .i64 (n : Nat))] rfl (built_q _ _) ?_)
    | ((with_reducible refine at_alloc (T := 30) (dst := some 9) ?_); refine wl_newb rfl #[.int .i64 0, .int .i64 0, .slice none 0 0, .int .u16 0, .int .u16 0, .slice none 0 0] 30 (fun _ => rfl) ?_; intro b9 w2 hm2; replace hv := hv.madeAt hm2; clear hm2)
    | ((with_reducible refine at_store (T := 30) ?_); refine wl_stv rfl b9 rfl _ rfl _ (hv.vars.row (by first | exact .head _ | exact .tail _ (.head _) | exact .tail _ (.tail _ (.head _)) | exact .tail _ (.tail _ (.tail _ (.head _))) | exact .tail _ (.tail _ (.tail _ (.tail _ (.head _)))) | exact .tail _ (.tail _ (.tail _ (.tail _ (.tail _ (.head _))))) | exact .tail _ (.tail _ (.tail _ (.tail _ (.tail _ (.tail _ (.head _)))))) | exact .tail _ (.tail _ (.tail _ (.tail _ (.tail _ (.tail _ (.tail _ (.head _))))))))) (hv.vars.sft (by first | exact .head _ | exact .tail _ (.head _) | exact .tail _ (.tail _ (.head _)) | exact .tail _ (.tail _ (.tail _ (.head _))) | exact .tail _ (.tail _ (.tail _ (.tail _ (.head _)))) | exact .tail _ (.tail _ (.tail _ (.tail _ (.tail _ (.head _))))) | exact .tail _ (.tail _ (.tail _ (.tail _ (.tail _ (.tail _ (.head _)))))) | exact .tail _ (.tail _ (.tail _ (.tail _ (.tail _ (.tail _ (.tail _ (.head _))))))))) 6 infoQ rfl rfl (by simp [Value.oneCell']) ?_; intro w2 hw2; (first | (replace hv := hv.set 0 rfl hw2) | (replace hv := hv.set 1 rfl hw2) | (replace hv := hv.set 2 rfl hw2) | (replace hv := hv.set 3 rfl hw2) | (replace hv := hv.set 4 rfl hw2) | (replace hv := hv.set 5 rfl hw2) | (replace hv := hv.set 6 rfl hw2) | (replace hv := hv.set 7 rfl hw2)); clear hw2; simp only [List.set] at hv))
  go_loopw [31] (fun kv wr => ∃ (k : Nat) (fv : Value) (O : List (Nat × Array Value)), k ≤ n ∧ kv = .int .i64 (k : Nat) ∧ Mem w0 wr ((b9, #[.int .i64 (base : Nat), .int .i64 (n : Nat), fv, .int .u16 0, .int .u16 0, .slice none 0 0]) :: (b7, #[.int .i64 0, .int .i64 0, .slice none 0 0, .int .u16 0, .int .u16 0, .slice none 0 0]) :: (b6, #[.slice none 0 0]) :: (b3, #[(.slice (some ⟨vb, 0, none⟩) mn vc)]) :: (O ++ L)) R1 ∧ Hid (OwnL 1 fv (intsI (List.range k)) O)) (fun kv _ => n - (intOf kv).toNat)
  case atStart => exact ⟨0, .slice none 0 0, [], Nat.zero_le _, rfl, hv, Lib.hid (OwnL.nil 1)⟩
  case round =>
    clear hv
    obtain ⟨k, fv, O, hk0, rfl, hv, HO⟩ := hrel
    obtain ⟨fa, fn, fc, rfl, hq⟩ := id HO.out.slice
    clear hq
    by_cases hk : k < n
    · have hki : (k : Int) < (n : Int) := by omega
      have hkb : (k : Int) ≤ 16 := by omega
      have HKN := Lib.hid hk
      have HP1 : Hid (((intsI (List.range k)).length + [Value.int .i64 (k : Nat)].length) / 1 ≤ maxLen) := Lib.hid (by rw [intsI_len, List.length_range, Nat.div_one]; show k + 1 ≤ _; unfold maxLen; omega)
      have HP2 : Hid (((intsI (List.range k)).length + [Value.int .i64 (k : Nat)].length) / 1 * 8 ≤ 140737488355328) := Lib.hid (by rw [intsI_len, List.length_range, Nat.div_one]; show (k + 1) * 8 ≤ _; omega)
      clear hk0 hk
      go_wp2_with (first
        | ((with_reducible refine at_load (T := 26) ?_); refine wl_ldc rfl b9 2 rfl _ (hv.vars.row (by first | exact .head _ | exact .tail _ (.head _) | exact .tail _ (.tail _ (.head _)) | exact .tail _ (.tail _ (.tail _ (.head _))) | exact .tail _ (.tail _ (.tail _ (.tail _ (.head _)))) | exact .tail _ (.tail _ (.tail _ (.tail _ (.tail _ (.head _))))) | exact .tail _ (.tail _ (.tail _ (.tail _ (.tail _ (.tail _ (.head _)))))) | exact .tail _ (.tail _ (.tail _ (.tail _ (.tail _ (.tail _ (.tail _ (.head _))))))))) _ Try.underlying26 rfl (.slice fa fn fc) rfl ?_)
        | ((with_reducible refine at_append (t := 26) ?_); replace hv := (mem4o hv).bsl' (k := 1) (n := 1) (c := [.int .i64 (k : Nat)]) ⟨rfl, made_alloc _ #[.int .i64 (k : Nat)] 3⟩ rfl rfl (by unfold maxLen; omega); refine wl_appO (A := [_, _, _, _]) (B := L) rfl rfl HO.out hv (.int .i64 0) 8 Try.underlying26 infoIz rfl (by decide) rfl (hv.rd Mem.z) (int_one _) HP1.out HP2.out ?_; intro v2 w7 O2 hO2 hv1; replace hv := mem4o' hv1.dropR; clear hv1; rw [← intsI_snoc, ← List.range_succ] at hO2; have hq2 := hO2.slice; obtain ⟨ua, un, uc, rfl, hq3⟩ := hq2; clear hq3; replace hO2 := Lib.hid hO2)
        | ((with_reducible refine at_store (T := 26) ?_); refine wl_stc rfl b9 2 rfl (.slice ua un uc) rfl _ (hv.vars.row (by first | exact .head _ | exact .tail _ (.head _) | exact .tail _ (.tail _ (.head _)) | exact .tail _ (.tail _ (.tail _ (.head _))) | exact .tail _ (.tail _ (.tail _ (.tail _ (.head _)))) | exact .tail _ (.tail _ (.tail _ (.tail _ (.tail _ (.head _))))) | exact .tail _ (.tail _ (.tail _ (.tail _ (.tail _ (.tail _ (.head _)))))) | exact .tail _ (.tail _ (.tail _ (.tail _ (.tail _ (.tail _ (.tail _ (.head _))))))))) (hv.vars.sft (by first | exact .head _ | exact .tail _ (.head _) | exact .tail _ (.tail _ (.head _)) | exact .tail _ (.tail _ (.tail _ (.head _))) | exact .tail _ (.tail _ (.tail _ (.tail _ (.head _)))) | exact .tail _ (.tail _ (.tail _ (.tail _ (.tail _ (.head _))))) | exact .tail _ (.tail _ (.tail _ (.tail _ (.tail _ (.tail _ (.head _)))))) | exact .tail _ (.tail _ (.tail _ (.tail _ (.tail _ (.tail _ (.tail _ (.head _))))))))) (by kernel_rfl) rfl (by show 2 < 6; decide) ?_; intro w2 hw2; (first | (replace hv := hv.set 0 rfl hw2) | (replace hv := hv.set 1 rfl hw2) | (replace hv := hv.set 2 rfl hw2) | (replace hv := hv.set 3 rfl hw2)); clear hw2; simp only [List.set] at hv))
      have hkn := HKN.out
      go_roundw
      case rel => exact ⟨k + 1, .slice ua un uc, O2, by omega, by go_num, hv, hO2⟩
      case measure => simp [intOf]; omega
    · have hki : ¬ (k : Int) < (n : Int) := by omega
      obtain rfl : k = n := by omega
      clear hk hk0
      go_wp2
      have hv0 := hv
      clear hv
      have hv : Mem w0 _ ([(b9, #[.int .i64 (base : Nat), .int .i64 (k : Nat), (.slice fa fn fc), .int .u16 0, .int .u16 0, .slice none 0 0]), (b7, #[.int .i64 0, .int .i64 0, .slice none 0 0, .int .u16 0, .int .u16 0, .slice none 0 0]), (b6, #[.slice none 0 0]), (b3, #[(.slice (some ⟨vb, 0, none⟩) mn vc)])] ++ (O ++ L)) _ := hv0
      clear hv0
      refine Any.wp_region_walk [⟨[1003], none⟩, ⟨[1000], none⟩, ⟨[1002], some 1002⟩, ⟨[1001], some 1001⟩, ⟨[], none⟩] [.val, .val, .put, .put, .val] (by kernel_rfl) (by kernel_rfl) (hv.vars.keep (List.sublist_append_left [(b9, #[.int .i64 (base : Nat), .int .i64 (k : Nat), (.slice fa fn fc), .int .u16 0, .int .u16 0, .slice none 0 0]), (b7, #[.int .i64 0, .int .i64 0, .slice none 0 0, .int .u16 0, .int .u16 0, .slice none 0 0]), (b6, #[.slice none 0 0]), (b3, #[(.slice (some ⟨vb, 0, none⟩) mn vc)])] (O ++ L))) ?_
      simp only [List.length_cons, List.length_nil, Nat.zero_add, Any.someVals]
      iterate 5 apply Exists.intro
      repeat (first
        | (refine Any.E_off rfl ?_; simp only [Act.put, List.setIfInBounds_toArray, List.set_cons_succ, List.set_cons_zero])
        | (apply Any.E_pureq rfl rfl rfl
           case h => intro K hK; go_big_quiet_op; (refine hK _ ?_; rfl)
           case hr => exact fun _ => rfl
           simp only [Act.put, List.setIfInBounds_toArray, List.set_cons_succ, List.set_cons_zero])
        | (apply Any.E_val rfl rfl rfl rfl
           case h =>
             intro E' hA K hK
             first
               | ((with_reducible refine Any.at_qload (T := 25) ?_); refine Any.q_ldv 1003 hA (by decide) rfl rfl 1 _ Try.underlying25 rfl infoM (by decide) rfl ?_; refine hK _ ?_; rfl)
               | ((with_reducible refine Any.at_qload (T := 30) ?_); refine Any.q_ldv 1000 hA (by decide) rfl rfl 6 _ Try.underlying30 rfl infoQ (by decide) rfl ?_; refine hK _ ?_; rfl)
               | (go_big_quiet_op; first
                 | (refine hK _ ?_; rfl)
                 | (refine ⟨_, fun _ _ => rfl, ?_⟩; refine hK _ ?_; rfl)
                 | (apply Exists.intro; refine ⟨fun w1 hw1 => ?_, ?_⟩; · (first
                     | fail)
                    refine hK _ ?_; rfl))
           case hD => rfl
           simp only [Act.put, List.setIfInBounds_toArray, List.set_cons_succ, List.set_cons_zero])
        | ((with_reducible refine Any.at_ealloc ?_); refine Any.E_lay rfl rfl rfl (fun _ => rfl) ?_; intro B; simp only [Act.put, List.setIfInBounds_toArray, List.set_cons_succ, List.set_cons_zero])
        | ((with_reducible refine Any.at_estore (T := 25) ?_); refine Any.E_putv (T := 25) rfl rfl rfl rfl rfl rfl 1 infoM rfl rfl (by simp [Value.oneCell']) ?_; simp only [Act.put, List.setIfInBounds_toArray, List.set_cons_succ, List.set_cons_zero])
        | ((with_reducible refine Any.at_estore (T := 30) ?_); refine Any.E_putv (T := 30) rfl rfl rfl rfl rfl rfl 6 infoQ rfl rfl (by simp [Value.oneCell']) ?_; simp only [Act.put, List.setIfInBounds_toArray, List.set_cons_succ, List.set_cons_zero]))
      try any_goals exact undef
      refine Any.E_nil ?_
      intro w9 hE9
      replace hv : Mem w0 w9 ([(b9, #[.int .i64 (base : Nat), .int .i64 (k : Nat), (.slice fa fn fc), .int .u16 0, .int .u16 0, .slice none 0 0]), (b7, #[.int .i64 (base : Nat), .int .i64 (k : Nat), (.slice fa fn fc), .int .u16 0, .int .u16 0, .slice none 0 0]), (b6, #[(.slice (some ⟨vb, 0, none⟩) mn vc)]), (b3, #[(.slice (some ⟨vb, 0, none⟩) mn vc)])] ++ (O ++ L)) _ := hE9.memr hv [1000, 1001, 1002, 1003] (by decide)
      clear hE9
      simp only [List.cons_append, List.nil_append] at hv
      go_wp2
      try simp only [Exit.inBlock, Exit.then]
      refine ret_cct (v := .agg #[(.slice (some ⟨vb, 0, none⟩) mn vc)]) (v' := .agg #[.int .i64 (base : Nat), .int .i64 (k : Nat), (.slice fa fn fc), .int .u16 0, .int .u16 0, .slice none 0 0]) (v1 := .int .i64 0) rfl rfl rfl (read_row _ b6 25 _ (hv.vars.row (b := b6) (by first | exact .head _ | exact .tail _ (.head _) | exact .tail _ (.tail _ (.head _)) | exact .tail _ (.tail _ (.tail _ (.head _))) | exact .tail _ (.tail _ (.tail _ (.tail _ (.head _)))) | exact .tail _ (.tail _ (.tail _ (.tail _ (.tail _ (.head _))))) | exact .tail _ (.tail _ (.tail _ (.tail _ (.tail _ (.tail _ (.head _)))))) | exact .tail _ (.tail _ (.tail _ (.tail _ (.tail _ (.tail _ (.tail _ (.head _))))))))) 1 _ Try.underlying25 rfl infoM (by decide) rfl) (read_row _ b7 30 _ (hv.vars.row (b := b7) (by first | exact .head _ | exact .tail _ (.head _) | exact .tail _ (.tail _ (.head _)) | exact .tail _ (.tail _ (.tail _ (.head _))) | exact .tail _ (.tail _ (.tail _ (.tail _ (.head _)))) | exact .tail _ (.tail _ (.tail _ (.tail _ (.tail _ (.head _))))) | exact .tail _ (.tail _ (.tail _ (.tail _ (.tail _ (.tail _ (.head _)))))) | exact .tail _ (.tail _ (.tail _ (.tail _ (.tail _ (.tail _ (.tail _ (.head _))))))))) 6 _ Try.underlying30 rfl infoQ (by decide) rfl) rfl rfl ?_
      have hy := HO.out.yield (A := [_, _, _, _]) (B := L) (mem4o hv)
      simp only [List.cons_append, List.nil_append] at hy
      exact ⟨vb, vc, .slice fa fn fc, _, rfl, hy.drop.drop.drop.drop, HI1.out.mono (fun x hx => Mem.s hx), Mem.z, fun x hx => Mem.s (HS1.out x hx)⟩
end Go.Proofs.Ytcelehhaggoijaa
