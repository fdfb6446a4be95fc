/-
 A card behind two rings (layer 10): a new one.
-/
import Derived.Test.YtjmibgomkgkhnaaGreatVnY
import Derived.Test.YtjmibgomkgkhnaaGreatVn5
set_option maxRecDepth 100000
set_option maxHeartbeats 16000000
set_option linter.unusedVariables false
set_option linter.unusedSimpArgs false
namespace Go.Proofs.Qu
open Go Go.RowKit Go.Proofs.Nm
def handM (M : List Nat) : Nat → List Nat
 | 0 => M
 | j + 1 => addM (handM M j) 0 4 j ((List.range 4).drop j) [(300 + 192 * j, 192, true)]
def zeroQ (M : List Nat) (base : Nat) : List Nat := putB M base (List.replicate (sizeN 4) 0)
def RxC (chs : List Chn) (j : Nat) : Prop := chs.map (fun c => (c.h, c.ds, c.rm)) = (List.range j).map (fun r => (r, [r], 192))
theorem RxC.add {chs : List Chn} {j : Nat} {c : Chn} (h : RxC chs j) (h1 : c.h = j) (h2 : c.ds = [j]) (h3 : c.rm = 192) : RxC (chs ++ [c]) (j + 1) := by
 unfold RxC at *
 rw [List.map_append, h, List.range_succ, List.map_append, List.map_singleton, List.map_singleton, h1, h2, h3]
end Go.Proofs.Qu
namespace Go.Proofs.YtjmibgomkgkhnaaGreat
open Go.Proofs.Qu Go.Proofs.Nm Go.RowKit Go.Proofs
theorem infoT3 : (Tryz.prog.info? 80).map (·.size) = some 2 := by kernel_rfl
theorem built_to (b_11 o : Nat) (x : Int) : Tryz.prog.built 80 [(0, .int .i64 x), (1, .pointer (some ⟨b_11, o, none⟩))] = some #[.int .i64 x, .pointer (some ⟨b_11, o, none⟩)] := by kernel_rfl
theorem NewQ_0 {w0 w : World} {L : List (Nat × Array Value)} {R : List (Nat × Value × List Value)} (hv : Mem w0 w L R) {mb mc : Nat} {M : List Nat} (hm : InM R mb 0 1900 mc M) : Calls Tryz.prog 26 #[.agg #[.slice (some ⟨mb, 0, none⟩) 1900 mc], .int .i64 0, .int .i64 4] w fun e w' => ∃ vb vc fa fc R', e = .returned (.tuple #[.agg #[.slice (some ⟨vb, 0, none⟩) 1900 vc], .agg #[.int .i64 0, .int .i64 4, .slice fa 4 fc, .int .u16 0, .int .u16 0, .slice none 0 0], .int .i64 0]) ∧ Mem w0 w' L R' ∧ Drv R' 1900 vb vc (.slice fa 4 fc) (.slice none 0 0) (zeroQ M 0) 4 (List.range 4) [] ∧ ∀ x ∈ R, x ∈ R' := New_D hv hm 0 4 ok4 (by decide)
theorem NewQ_120 {w0 w : World} {L : List (Nat × Array Value)} {R : List (Nat × Value × List Value)} (hv : Mem w0 w L R) {mb mc : Nat} {M : List Nat} (hm : InM R mb 0 1900 mc M) : Calls Tryz.prog 26 #[.agg #[.slice (some ⟨mb, 0, none⟩) 1900 mc], .int .i64 120, .int .i64 4] w fun e w' => ∃ vb vc fa fc R', e = .returned (.tuple #[.agg #[.slice (some ⟨vb, 0, none⟩) 1900 vc], .agg #[.int .i64 120, .int .i64 4, .slice fa 4 fc, .int .u16 0, .int .u16 0, .slice none 0 0], .int .i64 0]) ∧ Mem w0 w' L R' ∧ Drv R' 1900 vb vc (.slice fa 4 fc) (.slice none 0 0) (zeroQ M 120) 4 (List.range 4) [] ∧ ∀ x ∈ R, x ∈ R' := New_D hv hm 120 4 ok4 (by decide)
theorem built_net : Tryz.prog.built 33 [(2, .int .i64 300)] = some #[.int .i64 0, .int .i64 0, .slice none 0 0, .int .u16 0, .int .u16 0, .slice none 0 0, .int .i64 0, .int .i64 0, .slice none 0 0, .int .u16 0, .int .u16 0, .slice none 0 0, .int .i64 300, .int .i64 0, .int .i64 0, .int .i64 0, .int .i64 0, .int .i64 0, .int .i64 0, .int .i64 0, .int .i64 0] := by kernel_rfl
theorem Get_1536 {w0 w : World} {L : List (Nat × Array Value)} {R : List (Nat × Value × List Value)} (hv : Mem w0 w L R) {vb vc : Nat} {M : List Nat} (hm : InM R vb 0 1900 vc M) : Calls Tryz.prog 27 #[.agg #[.slice (some ⟨vb, 0, none⟩) 1900 vc], .int .i64 300, .int .i64 1536] w fun e w' => ∃ v R', e = .returned v ∧ GetNW R 1536 (getB M 300 1536) v R' ∧ Mem w0 w' L R' ∧ ∀ x ∈ R, x ∈ R' := Get_N (n := 1536) hv (fun x hx => hx) hm 300 300 rfl (by decide) rfl
def HandsAt (w0 : World) (L : List (Nat × Array Value)) (R : List (Nat × Value × List Value)) (M : List Nat) (b_4 b_8 b_9 b_11 b_12 mb mc j : Nat) (wr : World) : Prop := ∃ (vb vc rfn fc1 rcn cc rav z1 z2 z3 fc2 i0 i1 i2 i3 o0 o1 o2 o3 : Nat) (fa1 ca fa2 : Option Addr) (chs : List Chn) (Rx : List (Nat × Value × List Value)), Mem w0 wr ([(b_12, #[.slice (some ⟨mb, 0, none⟩) 1900 mc]), (b_11, #[.int .i64 0, .int .i64 4, .slice fa1 rfn fc1, .int .u16 rav, .int .u16 z1, .slice ca rcn cc, .int .i64 120, .int .i64 4, .slice fa2 4 fc2, .int .u16 z2, .int .u16 z3, .slice none 0 0, .int .i64 300, .int .i64 i0, .int .i64 i1, .int .i64 i2, .int .i64 i3, .int .i64 o0, .int .i64 o1, .int .i64 o2, .int .i64 o3]), (b_9, #[.int .i64 0, .int .i64 0, .slice none 0 0, .int .u16 0, .int .u16 0, .slice none 0 0, .int .i64 0, .int .i64 0, .slice none 0 0, .int .u16 0, .int .u16 0, .slice none 0 0, .int .i64 0, .int .i64 0, .int .i64 0, .int .i64 0, .int .i64 0, .int .i64 0, .int .i64 0, .int .i64 0, .int .i64 0]), (b_8, #[.slice none 0 0]), (b_4, #[.slice (some ⟨vb, 0, none⟩) 1900 vc])] ++ L) Rx ∧ Hid (InM Rx vb 0 1900 vc (handM (zeroQ (zeroQ M 0) 120) j)) ∧ Hid (InQ Rx (.slice fa1 rfn fc1) (.slice ca rcn cc) ((List.range 4).drop j) chs) ∧ Hid (OkQ 4 ((List.range 4).drop j) chs) ∧ Hid (RxC chs j) ∧ Hid (InQ Rx (.slice fa2 4 fc2) (.slice none 0 0) (List.range 4) []) ∧ Hid (∀ x ∈ R, x ∈ Rx) ∧ Hid (rfn = 4 - j ∧ rcn = j ∧ rav = j ∧ z1 = 0 ∧ z2 = 0 ∧ z3 = 0) ∧ Hid (i0 = (if 0 < j then 1 else 0) ∧ i1 = (if 1 < j then 2 else 0) ∧ i2 = (if 2 < j then 3 else 0) ∧ i3 = (if 3 < j then 4 else 0)) ∧ Hid (o0 = 0 ∧ o1 = 0 ∧ o2 = 0 ∧ o3 = 0)
def NewW (R : List (Nat × Value × List Value)) (M : List Nat) (v : Value) (Rx : List (Nat × Value × List Value)) : Prop := ∃ (vb vc rfn fc1 rcn cc rav z1 z2 z3 fc2 i0 i1 i2 i3 o0 o1 o2 o3 : Nat) (fa1 ca fa2 : Option Addr) (chs : List Chn), v = .tuple #[.agg #[.slice (some ⟨vb, 0, none⟩) 1900 vc], .agg #[.int .i64 0, .int .i64 4, .slice fa1 rfn fc1, .int .u16 rav, .int .u16 z1, .slice ca rcn cc, .int .i64 120, .int .i64 4, .slice fa2 4 fc2, .int .u16 z2, .int .u16 z3, .slice none 0 0, .int .i64 300, .int .i64 i0, .int .i64 i1, .int .i64 i2, .int .i64 i3, .int .i64 o0, .int .i64 o1, .int .i64 o2, .int .i64 o3], .int .i64 0] ∧ Hid (InM Rx vb 0 1900 vc (handM (zeroQ (zeroQ M 0) 120) 4)) ∧ Hid (InQ Rx (.slice fa1 rfn fc1) (.slice ca rcn cc) ((List.range 4).drop 4) chs) ∧ Hid (OkQ 4 ((List.range 4).drop 4) chs) ∧ Hid (RxC chs 4) ∧ Hid (InQ Rx (.slice fa2 4 fc2) (.slice none 0 0) (List.range 4) []) ∧ Hid (∀ x ∈ R, x ∈ Rx) ∧ Hid (rfn = 4 - 4 ∧ rcn = 4 ∧ rav = 4 ∧ z1 = 0 ∧ z2 = 0 ∧ z3 = 0) ∧ Hid (i0 = (if 0 < 4 then 1 else 0) ∧ i1 = (if 1 < 4 then 2 else 0) ∧ i2 = (if 2 < 4 then 3 else 0) ∧ i3 = (if 3 < 4 then 4 else 0)) ∧ Hid (o0 = 0 ∧ o1 = 0 ∧ o2 = 0 ∧ o3 = 0)
theorem New_N {w0 w : World} {L : List (Nat × Array Value)} {R : List (Nat × Value × List Value)} (hv : Mem w0 w L R) {mb mc : Nat} {M : List Nat} (hm : InM R mb 0 1900 mc M) :
   Calls Tryz.prog 8 #[.agg #[.slice (some ⟨mb, 0, none⟩) 1900 mc], .int .i64 0, .int .i64 120, .int .i64 300] w fun e w' => ∃ v Rx, e = .returned v ∧ NewW R M v Rx ∧ Mem w0 w' L Rx := by
 have HM := Lib.hid hm
 clear hm
 go_enter Tryz.func8, Tryz.ntmps8
 go_wp2_with (first
   | ((with_reducible refine at_box (T := 26) (dst := some 4) ?_); refine wl_newb rfl #[.slice (some ⟨mb, 0, none⟩) 1900 mc] 26 (fun _ => rfl) ?_; intro b_4 w2 hm2; replace hv := hv.madeAt hm2; clear hm2)
   | ((with_reducible refine at_alloc (T := 26) (dst := some 8) ?_); refine wl_newb rfl #[.slice none 0 0] 26 (fun _ => rfl) ?_; intro b_8 w2 hm2; replace hv := hv.madeAt hm2; clear hm2)
   | ((with_reducible refine at_alloc (T := 33) (dst := some 9) ?_); refine wl_newb rfl #[.int .i64 0, .int .i64 0, .slice none 0 0, .int .u16 0, .int .u16 0, .slice none 0 0, .int .i64 0, .int .i64 0, .slice none 0 0, .int .u16 0, .int .u16 0, .slice none 0 0, .int .i64 0, .int .i64 0, .int .i64 0, .int .i64 0, .int .i64 0, .int .i64 0, .int .i64 0, .int .i64 0, .int .i64 0] 33 (fun _ => rfl) ?_; intro b_9 w2 hm2; replace hv := hv.madeAt hm2; clear hm2)
   | ((with_reducible refine at_build (T := 33) ?_); refine wl_build rfl _ rfl built_net ?_)
   | ((with_reducible refine at_alloc (T := 33) (dst := some 11) ?_); refine wl_newb rfl #[.int .i64 0, .int .i64 0, .slice none 0 0, .int .u16 0, .int .u16 0, .slice none 0 0, .int .i64 0, .int .i64 0, .slice none 0 0, .int .u16 0, .int .u16 0, .slice none 0 0, .int .i64 0, .int .i64 0, .int .i64 0, .int .i64 0, .int .i64 0, .int .i64 0, .int .i64 0, .int .i64 0, .int .i64 0] 33 (fun _ => rfl) ?_; intro b_11 w2 hm2; replace hv := hv.madeAt hm2; clear hm2)
   | ((with_reducible refine at_store (T := 33) ?_); refine wl_stv rfl b_11 rfl _ rfl _ hv.vars.ro hv.vars.so 21 infoN rfl rfl (by simp [Value.oneCell']) ?_; intro w2 hw2; replace hv := hv.sets (by repeat first | exact .z | apply SetM.s) hw2; clear hw2)
   | ((with_reducible refine at_load (T := 26) ?_); refine wl_ldv rfl b_4 rfl _ hv.vars.ro 1 _ Tryz.underlying26 rfl infoM (by decide) rfl ?_)
   | ((with_reducible refine at_alloc (T := 26) (dst := some 12) ?_); refine wl_newb rfl #[.slice none 0 0] 26 (fun _ => rfl) ?_; intro b_12 w2 hm2; replace hv := hv.madeAt hm2; clear hm2)
   | ((with_reducible refine at_store (T := 26) ?_); refine wl_stv rfl b_12 rfl _ rfl _ hv.vars.ro hv.vars.so 1 infoM rfl rfl (by simp [Value.oneCell']) ?_; intro w2 hw2; replace hv := hv.sets (by repeat first | exact .z | apply SetM.s) hw2; clear hw2)
   | ((with_reducible refine at_build (T := 80) ?_); refine wl_build rfl _ rfl (built_to _ _ _) ?_)
   | ((with_reducible refine at_bslice (T := 81) ?_); refine wl_mkb rfl (#[.int .i64 0, .pointer (some ⟨b_11, 0, none⟩)] ++ #[.int .i64 120, .pointer (some ⟨b_11, 6, none⟩)]) 80 2 2 (fun w' => (by unfold execOp; go_simp)) ?_; intro b_30 w2 hm2; replace hv := hv.bsl' (k := 2) (n := 2) (c := [.int .i64 0, .pointer (some ⟨b_11, 0, none⟩), .int .i64 120, .pointer (some ⟨b_11, 6, none⟩)]) hm2 rfl rfl (by unfold maxLen; omega); clear hm2))
 obtain ⟨R0, e0⟩ : ∃ R0, R0 = (2, Value.slice (some ⟨b_30, 0, none⟩) 2 2, [Value.int .i64 0, .pointer (some ⟨b_11, 0, none⟩), .int .i64 120, .pointer (some ⟨b_11, 6, none⟩)]) :: R := ⟨_, rfl⟩
 have HL3 : Hid ((2, Value.slice (some ⟨b_30, 0, none⟩) 2 2, [Value.int .i64 0, .pointer (some ⟨b_11, 0, none⟩), .int .i64 120, .pointer (some ⟨b_11, 6, none⟩)]) ∈ R0) := Lib.hid (by rw [e0]; exact Mem.z)
 have HS0 : Hid (∀ x ∈ R, x ∈ R0) := Lib.hid (fun x hx => by rw [e0]; exact Mem.s hx)
 rw [← e0] at hv
 replace HM := Lib.hid (HM.out.mono HS0.out)
 clear e0
 go_loopw [32] (fun iv wr => (iv = .int .i64 0 ∧ Mem w0 wr ([(b_12, #[.slice (some ⟨mb, 0, none⟩) 1900 mc]), (b_11, #[.int .i64 0, .int .i64 0, .slice none 0 0, .int .u16 0, .int .u16 0, .slice none 0 0, .int .i64 0, .int .i64 0, .slice none 0 0, .int .u16 0, .int .u16 0, .slice none 0 0, .int .i64 300, .int .i64 0, .int .i64 0, .int .i64 0, .int .i64 0, .int .i64 0, .int .i64 0, .int .i64 0, .int .i64 0]), (b_9, #[.int .i64 0, .int .i64 0, .slice none 0 0, .int .u16 0, .int .u16 0, .slice none 0 0, .int .i64 0, .int .i64 0, .slice none 0 0, .int .u16 0, .int .u16 0, .slice none 0 0, .int .i64 0, .int .i64 0, .int .i64 0, .int .i64 0, .int .i64 0, .int .i64 0, .int .i64 0, .int .i64 0, .int .i64 0]), (b_8, #[.slice none 0 0]), (b_4, #[.slice (some ⟨mb, 0, none⟩) 1900 mc])] ++ L) R0) ∨ (iv = .int .i64 1 ∧ Hid (∃ vb1 vc1 fa1 fc1 R1, Mem w0 wr ([(b_12, #[.slice (some ⟨mb, 0, none⟩) 1900 mc]), (b_11, #[.int .i64 0, .int .i64 4, .slice fa1 4 fc1, .int .u16 0, .int .u16 0, .slice none 0 0, .int .i64 0, .int .i64 0, .slice none 0 0, .int .u16 0, .int .u16 0, .slice none 0 0, .int .i64 300, .int .i64 0, .int .i64 0, .int .i64 0, .int .i64 0, .int .i64 0, .int .i64 0, .int .i64 0, .int .i64 0]), (b_9, #[.int .i64 0, .int .i64 0, .slice none 0 0, .int .u16 0, .int .u16 0, .slice none 0 0, .int .i64 0, .int .i64 0, .slice none 0 0, .int .u16 0, .int .u16 0, .slice none 0 0, .int .i64 0, .int .i64 0, .int .i64 0, .int .i64 0, .int .i64 0, .int .i64 0, .int .i64 0, .int .i64 0, .int .i64 0]), (b_8, #[.slice none 0 0]), (b_4, #[.slice (some ⟨vb1, 0, none⟩) 1900 vc1])] ++ L) R1 ∧ Drv R1 1900 vb1 vc1 (.slice fa1 4 fc1) (.slice none 0 0) (zeroQ M 0) 4 (List.range 4) [] ∧ ∀ x ∈ R0, x ∈ R1)) ∨ (iv = .int .i64 2 ∧ Hid (∃ vb2 vc2 fa1 fc1 fa2 fc2 R2, Mem w0 wr ([(b_12, #[.slice (some ⟨mb, 0, none⟩) 1900 mc]), (b_11, #[.int .i64 0, .int .i64 4, .slice fa1 4 fc1, .int .u16 0, .int .u16 0, .slice none 0 0, .int .i64 120, .int .i64 4, .slice fa2 4 fc2, .int .u16 0, .int .u16 0, .slice none 0 0, .int .i64 300, .int .i64 0, .int .i64 0, .int .i64 0, .int .i64 0, .int .i64 0, .int .i64 0, .int .i64 0, .int .i64 0]), (b_9, #[.int .i64 0, .int .i64 0, .slice none 0 0, .int .u16 0, .int .u16 0, .slice none 0 0, .int .i64 0, .int .i64 0, .slice none 0 0, .int .u16 0, .int .u16 0, .slice none 0 0, .int .i64 0, .int .i64 0, .int .i64 0, .int .i64 0, .int .i64 0, .int .i64 0, .int .i64 0, .int .i64 0, .int .i64 0]), (b_8, #[.slice none 0 0]), (b_4, #[.slice (some ⟨vb2, 0, none⟩) 1900 vc2])] ++ L) R2 ∧ InQ R2 (.slice fa1 4 fc1) (.slice none 0 0) (List.range 4) [] ∧ OkQ 4 (List.range 4) [] ∧ Drv R2 1900 vb2 vc2 (.slice fa2 4 fc2) (.slice none 0 0) (zeroQ (zeroQ M 0) 120) 4 (List.range 4) [] ∧ ∀ x ∈ R0, x ∈ R2))) (fun iv _ => 2 - (intOf iv).toNat)
 case atStart => exact .inl ⟨rfl, hv⟩
 case round =>
   clear hv
   rcases hrel with ⟨rfl, hv⟩ | ⟨rfl, HV9⟩ | ⟨rfl, HV9⟩
   · simp only [List.cons_append, List.nil_append] at hv
     go_wp2_with (first
       | ((with_reducible refine at_load (T := 80) ?_); refine wl_rdv rfl (c := [.int .i64 0, .pointer (some ⟨b_11, 0, none⟩), .int .i64 120, .pointer (some ⟨b_11, 6, none⟩)]) (hv.rd HL3.out) 0 rfl 2 _ Tryz.underlying80 rfl infoT3 (by decide) #[.int .i64 0, .pointer (some ⟨b_11, 0, none⟩)] rfl rfl ?_)
       | ((with_reducible refine at_alloc (T := 80) (dst := some 14) ?_); refine wl_newb rfl #[.int .i64 0, .pointer none] 80 (fun _ => rfl) ?_; intro b_14 w2 hm2; replace hv := hv.madeAt hm2; clear hm2)
       | ((with_reducible refine at_store (T := 80) ?_); refine wl_stv rfl b_14 rfl _ rfl _ hv.vars.ro hv.vars.so 2 infoT3 rfl rfl (by simp [Value.oneCell']) ?_; intro w2 hw2; replace hv := hv.sets (by repeat first | exact .z | apply SetM.s) hw2; clear hw2)
       | ((with_reducible refine at_load (T := 26) ?_); refine wl_ldv rfl b_4 rfl _ hv.vars.ro 1 _ Tryz.underlying26 rfl infoM (by decide) rfl ?_)
       | ((with_reducible refine at_load (T := 3) ?_); refine wl_ldc rfl b_14 0 rfl _ hv.vars.ro _ Tryz.underlying3 rfl (.int .i64 0) rfl ?_)
       | (go_at_call 26; (with_reducible refine (NewQ_0 hv HM.out).mono ?_); rintro e w1 ⟨vb1, vc1, fa1, fc1, R1, rfl, hv1, hd1, hs1⟩; replace hv := hv1; have HD1 := Lib.hid hd1; have HS1 := Lib.hid hs1; clear hv1 hd1 hs1)
       | ((with_reducible refine at_alloc (T := 26) (dst := some 15) ?_); refine wl_newb rfl #[.slice none 0 0] 26 (fun _ => rfl) ?_; intro b_15 w2 hm2; replace hv := hv.madeAt hm2; clear hm2)
       | ((with_reducible refine at_alloc (T := 30) (dst := some 16) ?_); refine wl_newb rfl #[.int .i64 0, .int .i64 0, .slice none 0 0, .int .u16 0, .int .u16 0, .slice none 0 0] 30 (fun _ => rfl) ?_; intro b_16 w2 hm2; replace hv := hv.madeAt hm2; clear hm2)
       | ((with_reducible refine at_store (T := 26) ?_); refine wl_stv rfl b_15 rfl _ rfl _ hv.vars.ro hv.vars.so 1 infoM rfl rfl (by simp [Value.oneCell']) ?_; intro w2 hw2; replace hv := hv.sets (by repeat first | exact .z | apply SetM.s) hw2; clear hw2)
       | ((with_reducible refine at_store (T := 30) ?_); refine wl_stv rfl b_16 rfl _ rfl _ hv.vars.ro hv.vars.so 6 infoQ rfl rfl (by simp [Value.oneCell']) ?_; intro w2 hw2; replace hv := hv.sets (by repeat first | exact .z | apply SetM.s) hw2; clear hw2))
     replace hv : Mem w0 _ ([(b_16, _), (b_15, _), (b_14, _), (b_12, _), (b_11, _), (b_9, _), (b_8, _), (b_4, _)] ++ L) R1 := hv
     try simp only [Act.put]
     refine Bny.wp_region_walk _ _ [⟨[], none⟩, ⟨[1002], none⟩, ⟨[1001], none⟩, ⟨[1000], none⟩, ⟨[1007], some 1007⟩, ⟨[], none⟩, ⟨[1004], some 1004⟩] [.val, .val, .val, .val, .put, .val, .put] (by kernel_rfl) (by kernel_rfl) hv ?_
     simp only [List.length_cons, List.length_nil, Nat.zero_add, Any.someVals]
     iterate 7 apply Exists.intro
     repeat (first
       | (refine Bny.E_off rfl ?_; simp only [Act.put, sia, scs, scz])
       | ((with_reducible refine Bny.at_estore (T := 26) ?_); refine Bny.E_putv (T := 26) rfl rfl rfl rfl rfl rfl 1 infoM rfl rfl (by simp [Value.oneCell']) ?_; simp only [Act.put, sia, scs, scz])
       | ((with_reducible refine Bny.at_estore (T := 30) ?_); refine Bny.E_putp (T := 30) (off := 0) rfl rfl rfl rfl rfl rfl 6 infoQ rfl (by show 0 + 6 ≤ 21; decide) (by simp [Value.oneCell']) (splice_21_0_6 _ _ _ _ _ _ _ _ _ _ _ _ _ _ _ _ _ _ _ _ _ _ _ _ _ _ _) ?_; simp only [Act.put, sia, scs, scz])
       | (apply Bny.E_pureq rfl rfl rfl
          case h => intro K hK; go_big_quiet_op; (refine hK _ ?_; rfl)
          case hr => exact fun _ => rfl
          simp only [Act.put, sia, scs, scz])
       | (apply Bny.E_val rfl rfl rfl rfl
          case h =>
            intro E' hA K hK
            first
              | ((with_reducible refine Bny.at_qload (T := 79) ?_); refine Bny.q_ldc 1002 hA (by decide) rfl rfl _ Tryz.underlying79 rfl (_) rfl ?_; refine hK _ ?_; rfl)
              | ((with_reducible refine Bny.at_qload (T := 26) ?_); refine Bny.q_ldv 1001 hA (by decide) rfl rfl 1 _ Tryz.underlying26 rfl infoM (by decide) rfl ?_; refine hK _ ?_; rfl)
              | ((with_reducible refine Bny.at_qload (T := 30) ?_); refine Bny.q_ldv 1000 hA (by decide) rfl rfl 6 _ Tryz.underlying30 rfl infoQ (by decide) rfl ?_; refine hK _ ?_; rfl)
              | (go_big_quiet_op; first
                | (refine hK _ ?_; rfl)
                | (refine ⟨_, fun _ _ => rfl, ?_⟩; refine hK _ ?_; rfl)
                | (apply Exists.intro; refine ⟨fun w1 hw1 => ?_, ?_⟩; · (first
                    | fail)
                   refine hK _ ?_; rfl))
          case hD => rfl
          simp only [Act.put, sia, scs, scz]))
     try any_goals exact undef
     refine Bny.E_nil ?_
     intro w9 hE9
     replace hv : Mem w0 w9 ([(b_16, #[.int .i64 0, .int .i64 4, .slice fa1 4 fc1, .int .u16 0, .int .u16 0, .slice none 0 0]), (b_15, #[.slice (some ⟨vb1, 0, none⟩) 1900 vc1]), (b_14, #[.int .i64 0, .pointer (some ⟨b_11, 0, none⟩)]), (b_12, #[.slice (some ⟨mb, 0, none⟩) 1900 mc]), (b_11, #[.int .i64 0, .int .i64 4, .slice fa1 4 fc1, .int .u16 0, .int .u16 0, .slice none 0 0, .int .i64 0, .int .i64 0, .slice none 0 0, .int .u16 0, .int .u16 0, .slice none 0 0, .int .i64 300, .int .i64 0, .int .i64 0, .int .i64 0, .int .i64 0, .int .i64 0, .int .i64 0, .int .i64 0, .int .i64 0]), (b_9, #[.int .i64 0, .int .i64 0, .slice none 0 0, .int .u16 0, .int .u16 0, .slice none 0 0, .int .i64 0, .int .i64 0, .slice none 0 0, .int .u16 0, .int .u16 0, .slice none 0 0, .int .i64 0, .int .i64 0, .int .i64 0, .int .i64 0, .int .i64 0, .int .i64 0, .int .i64 0, .int .i64 0, .int .i64 0]), (b_8, #[.slice none 0 0]), (b_4, #[.slice (some ⟨vb1, 0, none⟩) 1900 vc1])] ++ L) R1 := hE9.mem0 [1000, 1001, 1002, 1003, 1004, 1005, 1006, 1007] (by decide)
     clear hE9
     simp only [List.cons_append, List.nil_append] at hv
     go_wp2
     go_roundw
     case rel => exact .inr (.inl ⟨by go_num, Lib.hid ⟨vb1, vc1, fa1, fc1, R1, hv.drop.drop.drop, HD1.out, HS1.out⟩⟩)
     case measure => simp [intOf]
   · obtain ⟨vb1, vc1, fa1, fc1, R1, hv, hd1, hs1⟩ := HV9.out
     have HD1 := Lib.hid hd1
     have HS1 := Lib.hid hs1
     replace HL3 := Lib.hid (hs1 _ HL3.out)
     clear hd1 hs1 HV9
     simp only [List.cons_append, List.nil_append] at hv
     go_wp2_with (first
       | ((with_reducible refine at_load (T := 80) ?_); refine wl_rdv rfl (c := [.int .i64 0, .pointer (some ⟨b_11, 0, none⟩), .int .i64 120, .pointer (some ⟨b_11, 6, none⟩)]) (hv.rd HL3.out) 2 rfl 2 _ Tryz.underlying80 rfl infoT3 (by decide) #[.int .i64 120, .pointer (some ⟨b_11, 6, none⟩)] rfl rfl ?_)
       | ((with_reducible refine at_alloc (T := 80) (dst := some 14) ?_); refine wl_newb rfl #[.int .i64 0, .pointer none] 80 (fun _ => rfl) ?_; intro b_14 w2 hm2; replace hv := hv.madeAt hm2; clear hm2)
       | ((with_reducible refine at_store (T := 80) ?_); refine wl_stv rfl b_14 rfl _ rfl _ hv.vars.ro hv.vars.so 2 infoT3 rfl rfl (by simp [Value.oneCell']) ?_; intro w2 hw2; replace hv := hv.sets (by repeat first | exact .z | apply SetM.s) hw2; clear hw2)
       | ((with_reducible refine at_load (T := 26) ?_); refine wl_ldv rfl b_4 rfl _ hv.vars.ro 1 _ Tryz.underlying26 rfl infoM (by decide) rfl ?_)
       | ((with_reducible refine at_load (T := 3) ?_); refine wl_ldc rfl b_14 0 rfl _ hv.vars.ro _ Tryz.underlying3 rfl (.int .i64 120) rfl ?_)
       | (go_at_call 26; (with_reducible refine (NewQ_120 hv HD1.out.m).mono ?_); rintro e w1 ⟨vb2, vc2, fa2, fc2, R2, rfl, hv1, hd2, hs2⟩; replace hv := hv1; have HD2 := Lib.hid hd2; have HS2 := Lib.hid hs2; clear hv1 hd2 hs2)
       | ((with_reducible refine at_alloc (T := 26) (dst := some 15) ?_); refine wl_newb rfl #[.slice none 0 0] 26 (fun _ => rfl) ?_; intro b_15 w2 hm2; replace hv := hv.madeAt hm2; clear hm2)
       | ((with_reducible refine at_alloc (T := 30) (dst := some 16) ?_); refine wl_newb rfl #[.int .i64 0, .int .i64 0, .slice none 0 0, .int .u16 0, .int .u16 0, .slice none 0 0] 30 (fun _ => rfl) ?_; intro b_16 w2 hm2; replace hv := hv.madeAt hm2; clear hm2)
       | ((with_reducible refine at_store (T := 26) ?_); refine wl_stv rfl b_15 rfl _ rfl _ hv.vars.ro hv.vars.so 1 infoM rfl rfl (by simp [Value.oneCell']) ?_; intro w2 hw2; replace hv := hv.sets (by repeat first | exact .z | apply SetM.s) hw2; clear hw2)
       | ((with_reducible refine at_store (T := 30) ?_); refine wl_stv rfl b_16 rfl _ rfl _ hv.vars.ro hv.vars.so 6 infoQ rfl rfl (by simp [Value.oneCell']) ?_; intro w2 hw2; replace hv := hv.sets (by repeat first | exact .z | apply SetM.s) hw2; clear hw2))
     replace hv : Mem w0 _ ([(b_16, _), (b_15, _), (b_14, _), (b_12, _), (b_11, _), (b_9, _), (b_8, _), (b_4, _)] ++ L) R2 := hv
     try simp only [Act.put]
     refine Bny.wp_region_walk _ _ [⟨[], none⟩, ⟨[1002], none⟩, ⟨[1001], none⟩, ⟨[1000], none⟩, ⟨[1007], some 1007⟩, ⟨[], none⟩, ⟨[1004], some 1004⟩] [.val, .val, .val, .val, .put, .val, .put] (by kernel_rfl) (by kernel_rfl) hv ?_
     simp only [List.length_cons, List.length_nil, Nat.zero_add, Any.someVals]
     iterate 7 apply Exists.intro
     repeat (first
       | (refine Bny.E_off rfl ?_; simp only [Act.put, sia, scs, scz])
       | ((with_reducible refine Bny.at_estore (T := 26) ?_); refine Bny.E_putv (T := 26) rfl rfl rfl rfl rfl rfl 1 infoM rfl rfl (by simp [Value.oneCell']) ?_; simp only [Act.put, sia, scs, scz])
       | ((with_reducible refine Bny.at_estore (T := 30) ?_); refine Bny.E_putp (T := 30) (off := 6) rfl rfl rfl rfl rfl rfl 6 infoQ rfl (by show 6 + 6 ≤ 21; decide) (by simp [Value.oneCell']) (splice_21_6_6 _ _ _ _ _ _ _ _ _ _ _ _ _ _ _ _ _ _ _ _ _ _ _ _ _ _ _) ?_; simp only [Act.put, sia, scs, scz])
       | (apply Bny.E_pureq rfl rfl rfl
          case h => intro K hK; go_big_quiet_op; (refine hK _ ?_; rfl)
          case hr => exact fun _ => rfl
          simp only [Act.put, sia, scs, scz])
       | (apply Bny.E_val rfl rfl rfl rfl
          case h =>
            intro E' hA K hK
            first
              | ((with_reducible refine Bny.at_qload (T := 79) ?_); refine Bny.q_ldc 1002 hA (by decide) rfl rfl _ Tryz.underlying79 rfl (_) rfl ?_; refine hK _ ?_; rfl)
              | ((with_reducible refine Bny.at_qload (T := 26) ?_); refine Bny.q_ldv 1001 hA (by decide) rfl rfl 1 _ Tryz.underlying26 rfl infoM (by decide) rfl ?_; refine hK _ ?_; rfl)
              | ((with_reducible refine Bny.at_qload (T := 30) ?_); refine Bny.q_ldv 1000 hA (by decide) rfl rfl 6 _ Tryz.underlying30 rfl infoQ (by decide) rfl ?_; refine hK _ ?_; rfl)
              | (go_big_quiet_op; first
                | (refine hK _ ?_; rfl)
                | (refine ⟨_, fun _ _ => rfl, ?_⟩; refine hK _ ?_; rfl)
                | (apply Exists.intro; refine ⟨fun w1 hw1 => ?_, ?_⟩; · (first
                    | fail)
                   refine hK _ ?_; rfl))
          case hD => rfl
          simp only [Act.put, sia, scs, scz]))
     try any_goals exact undef
     refine Bny.E_nil ?_
     intro w9 hE9
     replace hv : Mem w0 w9 ([(b_16, #[.int .i64 120, .int .i64 4, .slice fa2 4 fc2, .int .u16 0, .int .u16 0, .slice none 0 0]), (b_15, #[.slice (some ⟨vb2, 0, none⟩) 1900 vc2]), (b_14, #[.int .i64 120, .pointer (some ⟨b_11, 6, none⟩)]), (b_12, #[.slice (some ⟨mb, 0, none⟩) 1900 mc]), (b_11, #[.int .i64 0, .int .i64 4, .slice fa1 4 fc1, .int .u16 0, .int .u16 0, .slice none 0 0, .int .i64 120, .int .i64 4, .slice fa2 4 fc2, .int .u16 0, .int .u16 0, .slice none 0 0, .int .i64 300, .int .i64 0, .int .i64 0, .int .i64 0, .int .i64 0, .int .i64 0, .int .i64 0, .int .i64 0, .int .i64 0]), (b_9, #[.int .i64 0, .int .i64 0, .slice none 0 0, .int .u16 0, .int .u16 0, .slice none 0 0, .int .i64 0, .int .i64 0, .slice none 0 0, .int .u16 0, .int .u16 0, .slice none 0 0, .int .i64 0, .int .i64 0, .int .i64 0, .int .i64 0, .int .i64 0, .int .i64 0, .int .i64 0, .int .i64 0, .int .i64 0]), (b_8, #[.slice none 0 0]), (b_4, #[.slice (some ⟨vb2, 0, none⟩) 1900 vc2])] ++ L) R2 := hE9.mem0 [1000, 1001, 1002, 1003, 1004, 1005, 1006, 1007] (by decide)
     clear hE9
     simp only [List.cons_append, List.nil_append] at hv
     go_wp2
     go_roundw
     case rel => exact .inr (.inr ⟨by go_num, Lib.hid ⟨vb2, vc2, fa1, fc1, fa2, fc2, R2, hv.drop.drop.drop, HD1.out.q.mono HS2.out, HD1.out.ok, HD2.out, fun x hx => HS2.out x (HS1.out x hx)⟩⟩)
     case measure => simp [intOf]
   · obtain ⟨vb2, vc2, fa1, fc1, fa2, fc2, R2, hv, hq1, ho1, hd2, hs2⟩ := HV9.out
     have HQ1 := Lib.hid hq1
     have HO1 := Lib.hid ho1
     have HD2 := Lib.hid hd2
     have HS2 := Lib.hid hs2
     clear hq1 ho1 hd2 hs2 HV9
     simp only [List.cons_append, List.nil_append] at hv
     go_wp2_with (first
       | ((with_reducible refine at_load (T := 26) ?_); refine wl_ldv rfl b_4 rfl _ hv.vars.ro 1 _ Tryz.underlying26 rfl infoM (by decide) rfl ?_)
       | (go_at_call 27; (with_reducible refine (Get_1536 hv HD2.out.m).mono ?_); rintro e w1 ⟨v3, R3, rfl, hg3, hv1, hs3⟩; replace hv := hv1; obtain ⟨gv, rfl, hgr, hr9⟩ := hg3; clear hr9 hgr; have HS3 := Lib.hid hs3; clear hv1 hs3))
     go_loopw [66] (fun iv wr => ∃ j : Nat, j ≤ 4 ∧ iv = .int .i64 j ∧ HandsAt w0 L R M b_4 b_8 b_9 b_11 b_12 mb mc j wr) (fun iv _ => 4 - (intOf iv).toNat)
     case atStart => exact ⟨0, by decide, rfl, vb2, vc2, 4, fc1, 0, 0, 0, 0, 0, 0, fc2, 0, 0, 0, 0, 0, 0, 0, 0, fa1, none, fa2, [], R3, hv, Lib.hid (HD2.out.m.mono HS3.out), Lib.hid (HQ1.out.mono HS3.out), HO1, Lib.hid rfl, Lib.hid (HD2.out.q.mono HS3.out), Lib.hid (fun x hx => HS3.out x (HS2.out x (HS0.out x hx))), Lib.hid ⟨rfl, rfl, rfl, rfl, rfl, rfl⟩, Lib.hid ⟨rfl, rfl, rfl, rfl⟩, Lib.hid ⟨rfl, rfl, rfl, rfl⟩⟩
     case round =>
       clear hv
       obtain ⟨j, hj, rfl, vb, vc, rfn, fc1, rcn, cc, rav, z1, z2, z3, fc2, i0, i1, i2, i3, o0, o1, o2, o3, fa1, ca, fa2, chs, Rx, hv, HI, HQ, HO, HC, HT, HSX, HF, HF2, HF3⟩ := hrel
       clear HD2 HQ1 HO1 HS2 HS3
       rcases (show j = 0 ∨ j = 1 ∨ j = 2 ∨ j = 3 ∨ j = 4 from by omega) with rfl | rfl | rfl | rfl | rfl
       · clear hj
         simp only [Int.natCast_zero]
         obtain ⟨e1, e2, e3, e4, e5, e6⟩ := HF.out
         obtain ⟨f0, f1, f2, f3⟩ := HF2.out
         obtain rfl : rfn = 4 := e1
         obtain rfl : rcn = 0 := e2
         have hij : i0 = 0 := f0.trans (by decide)
         obtain ⟨av1, hav1⟩ : ∃ a, rav + 1 = a := ⟨_, rfl⟩
         obtain ⟨x1, hx1⟩ : ∃ x, 0 + 1 = x := ⟨_, rfl⟩
         have HAV : Hid (rav < 65535) := Lib.hid (by omega)
         have HA1 := Lib.hid hav1
         have HX1 := Lib.hid hx1
         have HX4 : Hid (0 < 1000) := Lib.hid (by decide)
         have HHD : Hid (((List.range 4).drop 0).getD 0 0 = 0) := Lib.hid (by decide)
         clear e3 e4 e5 e6 f0 f1 f2 f3 hav1 hx1
         simp only [List.cons_append, List.nil_append] at hv
         rw [hij, show ((0 : Nat) : Int) = 0 from rfl] at hv
         clear hij
         go_wp2_with (first
           | ((with_reducible refine at_load (T := 26) ?_); refine wl_ldv rfl b_4 rfl _ hv.vars.ro 1 _ Tryz.underlying26 rfl infoM (by decide) rfl ?_)
           | ((with_reducible refine at_load (T := 33) ?_); refine wl_ldv rfl b_11 rfl _ hv.vars.ro 21 _ Tryz.underlying33 rfl infoN (by decide) rfl ?_)
           | (go_at_call 28; (with_reducible refine (hand_0 (nf1 := 3) (nc1 := 1) hv HI.out HQ.out HO.out HAV.out HA1.out rfl rfl HHD.out HX1.out HX4.out).mono ?_); rintro e w1 ⟨vb5, vc5, fc5, cc5, fa5, ca5, c5, R5, rfl, hv1, hi5, hq5, ho5, k1, k2, k3, hs5⟩; replace hv := hv1; have HI5 := Lib.hid hi5; have HQ5 := Lib.hid hq5; have HO5 := Lib.hid ho5; have K1 := Lib.hid k1; have K2 := Lib.hid k2; have K3 := Lib.hid k3; have HS5 := Lib.hid hs5; clear hv1 hi5 hq5 ho5 k1 k2 k3 hs5)
           | ((with_reducible refine at_store (T := 26) ?_); refine wl_stv rfl b_4 rfl _ rfl _ hv.vars.ro hv.vars.so 1 infoM rfl rfl (by simp [Value.oneCell']) ?_; intro w2 hw2; replace hv := hv.sets (by repeat first | exact .z | apply SetM.s) hw2; clear hw2)
           | ((with_reducible refine at_store (T := 33) ?_); refine wl_stv rfl b_11 rfl _ rfl _ hv.vars.ro hv.vars.so 21 infoN rfl rfl (by simp [Value.oneCell']) ?_; intro w2 hw2; replace hv := hv.sets (by repeat first | exact .z | apply SetM.s) hw2; clear hw2))
         obtain ⟨e1, e2, e3, e4, e5, e6⟩ := HF.out
         obtain ⟨f0, f1, f2, f3⟩ := HF2.out
         have hav1 := HA1.out
         have hx1 := HX1.out
         go_roundw
         case rel => exact ⟨1, by decide, by go_num, vb5, vc5, 3, fc5, 1, cc5, av1, z1, z2, z3, fc2, x1, i1, i2, i3, o0, o1, o2, o3, fa5, ca5, fa2, chs ++ [c5], R5, hv, Lib.hid (by have h9 := HI5.out; rw [e3] at h9; exact h9), Lib.hid HQ5.out, Lib.hid HO5.out, Lib.hid (HC.out.add K1.out K2.out K3.out), Lib.hid (HT.out.mono HS5.out), Lib.hid (fun x hx => HS5.out x (HSX.out x hx)), Lib.hid ⟨by decide, by decide, by omega, e4, e5, e6⟩, Lib.hid ⟨hx1.symm.trans (by decide), f1.trans (by decide), f2.trans (by decide), f3.trans (by decide)⟩, HF3⟩
         case measure => simp [intOf]
       · clear hj
         simp only [Int.natCast_one]
         obtain ⟨e1, e2, e3, e4, e5, e6⟩ := HF.out
         obtain ⟨f0, f1, f2, f3⟩ := HF2.out
         obtain rfl : rfn = 3 := e1
         obtain rfl : rcn = 1 := e2
         have hij : i1 = 0 := f1.trans (by decide)
         obtain ⟨av1, hav1⟩ : ∃ a, rav + 1 = a := ⟨_, rfl⟩
         obtain ⟨x1, hx1⟩ : ∃ x, 1 + 1 = x := ⟨_, rfl⟩
         have HAV : Hid (rav < 65535) := Lib.hid (by omega)
         have HA1 := Lib.hid hav1
         have HX1 := Lib.hid hx1
         have HX4 : Hid (1 < 1000) := Lib.hid (by decide)
         have HHD : Hid (((List.range 4).drop 1).getD 0 0 = 1) := Lib.hid (by decide)
         clear e3 e4 e5 e6 f0 f1 f2 f3 hav1 hx1
         simp only [List.cons_append, List.nil_append] at hv
         rw [hij, show ((0 : Nat) : Int) = 0 from rfl] at hv
         clear hij
         go_wp2_with (first
           | ((with_reducible refine at_load (T := 26) ?_); refine wl_ldv rfl b_4 rfl _ hv.vars.ro 1 _ Tryz.underlying26 rfl infoM (by decide) rfl ?_)
           | ((with_reducible refine at_load (T := 33) ?_); refine wl_ldv rfl b_11 rfl _ hv.vars.ro 21 _ Tryz.underlying33 rfl infoN (by decide) rfl ?_)
           | (go_at_call 28; (with_reducible refine (hand_1 (nf1 := 2) (nc1 := 2) hv HI.out HQ.out HO.out HAV.out HA1.out rfl rfl HHD.out HX1.out HX4.out).mono ?_); rintro e w1 ⟨vb5, vc5, fc5, cc5, fa5, ca5, c5, R5, rfl, hv1, hi5, hq5, ho5, k1, k2, k3, hs5⟩; replace hv := hv1; have HI5 := Lib.hid hi5; have HQ5 := Lib.hid hq5; have HO5 := Lib.hid ho5; have K1 := Lib.hid k1; have K2 := Lib.hid k2; have K3 := Lib.hid k3; have HS5 := Lib.hid hs5; clear hv1 hi5 hq5 ho5 k1 k2 k3 hs5)
           | ((with_reducible refine at_store (T := 26) ?_); refine wl_stv rfl b_4 rfl _ rfl _ hv.vars.ro hv.vars.so 1 infoM rfl rfl (by simp [Value.oneCell']) ?_; intro w2 hw2; replace hv := hv.sets (by repeat first | exact .z | apply SetM.s) hw2; clear hw2)
           | ((with_reducible refine at_store (T := 33) ?_); refine wl_stv rfl b_11 rfl _ rfl _ hv.vars.ro hv.vars.so 21 infoN rfl rfl (by simp [Value.oneCell']) ?_; intro w2 hw2; replace hv := hv.sets (by repeat first | exact .z | apply SetM.s) hw2; clear hw2))
         obtain ⟨e1, e2, e3, e4, e5, e6⟩ := HF.out
         obtain ⟨f0, f1, f2, f3⟩ := HF2.out
         have hav1 := HA1.out
         have hx1 := HX1.out
         go_roundw
         case rel => exact ⟨2, by decide, by go_num, vb5, vc5, 2, fc5, 2, cc5, av1, z1, z2, z3, fc2, i0, x1, i2, i3, o0, o1, o2, o3, fa5, ca5, fa2, chs ++ [c5], R5, hv, Lib.hid (by have h9 := HI5.out; rw [e3] at h9; exact h9), Lib.hid HQ5.out, Lib.hid HO5.out, Lib.hid (HC.out.add K1.out K2.out K3.out), Lib.hid (HT.out.mono HS5.out), Lib.hid (fun x hx => HS5.out x (HSX.out x hx)), Lib.hid ⟨by decide, by decide, by omega, e4, e5, e6⟩, Lib.hid ⟨f0.trans (by decide), hx1.symm.trans (by decide), f2.trans (by decide), f3.trans (by decide)⟩, HF3⟩
         case measure => simp [intOf]
       · clear hj
         obtain ⟨e1, e2, e3, e4, e5, e6⟩ := HF.out
         obtain ⟨f0, f1, f2, f3⟩ := HF2.out
         obtain rfl : rfn = 2 := e1
         obtain rfl : rcn = 2 := e2
         have hij : i2 = 0 := f2.trans (by decide)
         obtain ⟨av1, hav1⟩ : ∃ a, rav + 1 = a := ⟨_, rfl⟩
         obtain ⟨x1, hx1⟩ : ∃ x, 2 + 1 = x := ⟨_, rfl⟩
         have HAV : Hid (rav < 65535) := Lib.hid (by omega)
         have HA1 := Lib.hid hav1
         have HX1 := Lib.hid hx1
         have HX4 : Hid (2 < 1000) := Lib.hid (by decide)
         have HHD : Hid (((List.range 4).drop 2).getD 0 0 = 2) := Lib.hid (by decide)
         clear e3 e4 e5 e6 f0 f1 f2 f3 hav1 hx1
         simp only [List.cons_append, List.nil_append] at hv
         rw [hij, show ((0 : Nat) : Int) = 0 from rfl] at hv
         clear hij
         go_wp2_with (first
           | ((with_reducible refine at_load (T := 26) ?_); refine wl_ldv rfl b_4 rfl _ hv.vars.ro 1 _ Tryz.underlying26 rfl infoM (by decide) rfl ?_)
           | ((with_reducible refine at_load (T := 33) ?_); refine wl_ldv rfl b_11 rfl _ hv.vars.ro 21 _ Tryz.underlying33 rfl infoN (by decide) rfl ?_)
           | (go_at_call 28; (with_reducible refine (hand_2 (nf1 := 1) (nc1 := 3) hv HI.out HQ.out HO.out HAV.out HA1.out rfl rfl HHD.out HX1.out HX4.out).mono ?_); rintro e w1 ⟨vb5, vc5, fc5, cc5, fa5, ca5, c5, R5, rfl, hv1, hi5, hq5, ho5, k1, k2, k3, hs5⟩; replace hv := hv1; have HI5 := Lib.hid hi5; have HQ5 := Lib.hid hq5; have HO5 := Lib.hid ho5; have K1 := Lib.hid k1; have K2 := Lib.hid k2; have K3 := Lib.hid k3; have HS5 := Lib.hid hs5; clear hv1 hi5 hq5 ho5 k1 k2 k3 hs5)
           | ((with_reducible refine at_store (T := 26) ?_); refine wl_stv rfl b_4 rfl _ rfl _ hv.vars.ro hv.vars.so 1 infoM rfl rfl (by simp [Value.oneCell']) ?_; intro w2 hw2; replace hv := hv.sets (by repeat first | exact .z | apply SetM.s) hw2; clear hw2)
           | ((with_reducible refine at_store (T := 33) ?_); refine wl_stv rfl b_11 rfl _ rfl _ hv.vars.ro hv.vars.so 21 infoN rfl rfl (by simp [Value.oneCell']) ?_; intro w2 hw2; replace hv := hv.sets (by repeat first | exact .z | apply SetM.s) hw2; clear hw2))
         obtain ⟨e1, e2, e3, e4, e5, e6⟩ := HF.out
         obtain ⟨f0, f1, f2, f3⟩ := HF2.out
         have hav1 := HA1.out
         have hx1 := HX1.out
         go_roundw
         case rel => exact ⟨3, by decide, by go_num, vb5, vc5, 1, fc5, 3, cc5, av1, z1, z2, z3, fc2, i0, i1, x1, i3, o0, o1, o2, o3, fa5, ca5, fa2, chs ++ [c5], R5, hv, Lib.hid (by have h9 := HI5.out; rw [e3] at h9; exact h9), Lib.hid HQ5.out, Lib.hid HO5.out, Lib.hid (HC.out.add K1.out K2.out K3.out), Lib.hid (HT.out.mono HS5.out), Lib.hid (fun x hx => HS5.out x (HSX.out x hx)), Lib.hid ⟨by decide, by decide, by omega, e4, e5, e6⟩, Lib.hid ⟨f0.trans (by decide), f1.trans (by decide), hx1.symm.trans (by decide), f3.trans (by decide)⟩, HF3⟩
         case measure => simp [intOf]
       · clear hj
         obtain ⟨e1, e2, e3, e4, e5, e6⟩ := HF.out
         obtain ⟨f0, f1, f2, f3⟩ := HF2.out
         obtain rfl : rfn = 1 := e1
         obtain rfl : rcn = 3 := e2
         have hij : i3 = 0 := f3.trans (by decide)
         obtain ⟨av1, hav1⟩ : ∃ a, rav + 1 = a := ⟨_, rfl⟩
         obtain ⟨x1, hx1⟩ : ∃ x, 3 + 1 = x := ⟨_, rfl⟩
         have HAV : Hid (rav < 65535) := Lib.hid (by omega)
         have HA1 := Lib.hid hav1
         have HX1 := Lib.hid hx1
         have HX4 : Hid (3 < 1000) := Lib.hid (by decide)
         have HHD : Hid (((List.range 4).drop 3).getD 0 0 = 3) := Lib.hid (by decide)
         clear e3 e4 e5 e6 f0 f1 f2 f3 hav1 hx1
         simp only [List.cons_append, List.nil_append] at hv
         rw [hij, show ((0 : Nat) : Int) = 0 from rfl] at hv
         clear hij
         go_wp2_with (first
           | ((with_reducible refine at_load (T := 26) ?_); refine wl_ldv rfl b_4 rfl _ hv.vars.ro 1 _ Tryz.underlying26 rfl infoM (by decide) rfl ?_)
           | ((with_reducible refine at_load (T := 33) ?_); refine wl_ldv rfl b_11 rfl _ hv.vars.ro 21 _ Tryz.underlying33 rfl infoN (by decide) rfl ?_)
           | (go_at_call 28; (with_reducible refine (hand_3 (nf1 := 0) (nc1 := 4) hv HI.out HQ.out HO.out HAV.out HA1.out rfl rfl HHD.out HX1.out HX4.out).mono ?_); rintro e w1 ⟨vb5, vc5, fc5, cc5, fa5, ca5, c5, R5, rfl, hv1, hi5, hq5, ho5, k1, k2, k3, hs5⟩; replace hv := hv1; have HI5 := Lib.hid hi5; have HQ5 := Lib.hid hq5; have HO5 := Lib.hid ho5; have K1 := Lib.hid k1; have K2 := Lib.hid k2; have K3 := Lib.hid k3; have HS5 := Lib.hid hs5; clear hv1 hi5 hq5 ho5 k1 k2 k3 hs5)
           | ((with_reducible refine at_store (T := 26) ?_); refine wl_stv rfl b_4 rfl _ rfl _ hv.vars.ro hv.vars.so 1 infoM rfl rfl (by simp [Value.oneCell']) ?_; intro w2 hw2; replace hv := hv.sets (by repeat first | exact .z | apply SetM.s) hw2; clear hw2)
           | ((with_reducible refine at_store (T := 33) ?_); refine wl_stv rfl b_11 rfl _ rfl _ hv.vars.ro hv.vars.so 21 infoN rfl rfl (by simp [Value.oneCell']) ?_; intro w2 hw2; replace hv := hv.sets (by repeat first | exact .z | apply SetM.s) hw2; clear hw2))
         obtain ⟨e1, e2, e3, e4, e5, e6⟩ := HF.out
         obtain ⟨f0, f1, f2, f3⟩ := HF2.out
         have hav1 := HA1.out
         have hx1 := HX1.out
         go_roundw
         case rel => exact ⟨4, by decide, by go_num, vb5, vc5, 0, fc5, 4, cc5, av1, z1, z2, z3, fc2, i0, i1, i2, x1, o0, o1, o2, o3, fa5, ca5, fa2, chs ++ [c5], R5, hv, Lib.hid (by have h9 := HI5.out; rw [e3] at h9; exact h9), Lib.hid HQ5.out, Lib.hid HO5.out, Lib.hid (HC.out.add K1.out K2.out K3.out), Lib.hid (HT.out.mono HS5.out), Lib.hid (fun x hx => HS5.out x (HSX.out x hx)), Lib.hid ⟨by decide, by decide, by omega, e4, e5, e6⟩, Lib.hid ⟨f0.trans (by decide), f1.trans (by decide), f2.trans (by decide), hx1.symm.trans (by decide)⟩, HF3⟩
         case measure => simp [intOf]
       · clear hj
         obtain ⟨e1, e2, e3, e4, e5, e6⟩ := HF.out
         simp only [List.cons_append, List.nil_append] at hv
         go_wp2_with (first
           | fail)
         replace hv : Mem w0 _ ([(b_12, _), (b_11, _), (b_9, _), (b_8, _), (b_4, _)] ++ L) Rx := hv
         try simp only [Act.put]
         refine Bny.wp_region_walk _ _ [⟨[1004], none⟩, ⟨[1001], none⟩, ⟨[1003], some 1003⟩, ⟨[1002], some 1002⟩, ⟨[], none⟩] [.val, .val, .put, .put, .val] (by kernel_rfl) (by kernel_rfl) hv ?_
         simp only [List.length_cons, List.length_nil, Nat.zero_add, Any.someVals]
         iterate 5 apply Exists.intro
         repeat (first
           | (refine Bny.E_off rfl ?_; simp only [Act.put, sia, scs, scz])
           | ((with_reducible refine Bny.at_estore (T := 26) ?_); refine Bny.E_putv (T := 26) rfl rfl rfl rfl rfl rfl 1 infoM rfl rfl (by simp [Value.oneCell']) ?_; simp only [Act.put, sia, scs, scz])
           | ((with_reducible refine Bny.at_estore (T := 33) ?_); refine Bny.E_putv (T := 33) rfl rfl rfl rfl rfl rfl 21 infoN rfl rfl (by simp [Value.oneCell']) ?_; simp only [Act.put, sia, scs, scz])
           | (apply Bny.E_pureq rfl rfl rfl
              case h => intro K hK; go_big_quiet_op; (refine hK _ ?_; rfl)
              case hr => exact fun _ => rfl
              simp only [Act.put, sia, scs, scz])
           | (apply Bny.E_val rfl rfl rfl rfl
              case h =>
                intro E' hA K hK
                first
                  | ((with_reducible refine Bny.at_qload (T := 26) ?_); refine Bny.q_ldv 1004 hA (by decide) rfl rfl 1 _ Tryz.underlying26 rfl infoM (by decide) rfl ?_; refine hK _ ?_; rfl)
                  | ((with_reducible refine Bny.at_qload (T := 33) ?_); refine Bny.q_ldv 1001 hA (by decide) rfl rfl 21 _ Tryz.underlying33 rfl infoN (by decide) rfl ?_; refine hK _ ?_; rfl)
                  | (go_big_quiet_op; first
                    | (refine hK _ ?_; rfl)
                    | (refine ⟨_, fun _ _ => rfl, ?_⟩; refine hK _ ?_; rfl)
                    | (apply Exists.intro; refine ⟨fun w1 hw1 => ?_, ?_⟩; · (first
                        | fail)
                       refine hK _ ?_; rfl))
              case hD => rfl
              simp only [Act.put, sia, scs, scz]))
         try any_goals exact undef
         refine Bny.E_nil ?_
         intro w9 hE9
         replace hv : Mem w0 w9 ([(b_12, #[.slice (some ⟨mb, 0, none⟩) 1900 mc]), (b_11, #[.int .i64 0, .int .i64 4, .slice fa1 rfn fc1, .int .u16 rav, .int .u16 z1, .slice ca rcn cc, .int .i64 120, .int .i64 4, .slice fa2 4 fc2, .int .u16 z2, .int .u16 z3, .slice none 0 0, .int .i64 300, .int .i64 i0, .int .i64 i1, .int .i64 i2, .int .i64 i3, .int .i64 o0, .int .i64 o1, .int .i64 o2, .int .i64 o3]), (b_9, #[.int .i64 0, .int .i64 4, .slice fa1 rfn fc1, .int .u16 rav, .int .u16 z1, .slice ca rcn cc, .int .i64 120, .int .i64 4, .slice fa2 4 fc2, .int .u16 z2, .int .u16 z3, .slice none 0 0, .int .i64 300, .int .i64 i0, .int .i64 i1, .int .i64 i2, .int .i64 i3, .int .i64 o0, .int .i64 o1, .int .i64 o2, .int .i64 o3]), (b_8, #[.slice (some ⟨vb, 0, none⟩) 1900 vc]), (b_4, #[.slice (some ⟨vb, 0, none⟩) 1900 vc])] ++ L) Rx := hE9.mem0 [1000, 1001, 1002, 1003, 1004] (by decide)
         clear hE9
         simp only [List.cons_append, List.nil_append] at hv
         go_wp2
         try simp only [Exit.inBlock, Exit.then]
         refine ret_cct (v := .agg #[.slice (some ⟨vb, 0, none⟩) 1900 vc]) (v' := .agg #[.int .i64 0, .int .i64 4, .slice fa1 rfn fc1, .int .u16 rav, .int .u16 z1, .slice ca rcn cc, .int .i64 120, .int .i64 4, .slice fa2 4 fc2, .int .u16 z2, .int .u16 z3, .slice none 0 0, .int .i64 300, .int .i64 i0, .int .i64 i1, .int .i64 i2, .int .i64 i3, .int .i64 o0, .int .i64 o1, .int .i64 o2, .int .i64 o3]) (v1 := .int .i64 0) rfl rfl rfl (read_row _ b_8 26 _ (hv.vars.ro (b := b_8)) 1 _ Tryz.underlying26 rfl infoM (by decide) rfl) (read_row _ b_9 33 _ (hv.vars.ro (b := b_9)) 21 _ Tryz.underlying33 rfl infoN (by decide) rfl) rfl rfl ?_
         exact ⟨_, Rx, rfl, ⟨vb, vc, rfn, fc1, rcn, cc, rav, z1, z2, z3, fc2, i0, i1, i2, i3, o0, o1, o2, o3, fa1, ca, fa2, chs, rfl, HI, HQ, HO, HC, HT, HSX, HF, HF2, HF3⟩, hv.keep (by exact List.sublist_append_right [_, _, _, _, _] L)⟩
end Go.Proofs.YtjmibgomkgkhnaaGreat
