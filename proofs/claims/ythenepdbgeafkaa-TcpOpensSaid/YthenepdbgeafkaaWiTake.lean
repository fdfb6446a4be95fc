/-
 window.Take.
-/
import Derived.Test.YthenepdbgeafkaaGAO
import Derived.Test.YthenepdbgeafkaaGAK
set_option maxRecDepth 100000
set_option maxHeartbeats 16000000
set_option linter.unusedVariables false
set_option linter.unusedSimpArgs false
namespace Go.Proofs.Ythenepdbgeafkaa
open Go.Proofs.Wi Go.RowKit
def TakeW (w0 : World) (L : LV) (R : LR) (next : Nat) (bs : List Nat) (A0 : List Sp) (e : Ending) (w' : World) : Prop :=
 ∃ (nx n : Nat) (B : List Nat) (P : List PcV) (ba pa : Option Addr) (bn bc pn pc : Nat) (R' : LR) (srt J : List SpV), e = .returned (.tuple #[.agg #[.int .u32 nx, .slice ba bn bc, .slice pa pn pc], .int .i64 n]) ∧ Mem w0 w' L ((1, .slice ba bn bc, cellsB B) :: (2, .slice pa pn pc, cellsP P) :: (R' ++ R)) ∧ AllP (R' ++ R) P ∧ (spOf srt).Perm A0 ∧ (spOf srt).Pairwise (fun x y => x.1 ≤ y.1) ∧ spOf J = merge [] (spOf srt) ∧ finT next next bs 0 [] J = (nx, B, n, P)
theorem tot_le : ∀ {l : List SpV} {m : Nat}, (∀ p ∈ l, p.2.2.length ≤ m) → tot l ≤ m * l.length := by
 intro l m h
 induction l with
 | nil => simp [tot]
 | cons x r ih =>
   have h1 := h x (List.mem_cons_self ..)
   have h2 := ih fun p hp => h p (List.mem_cons_of_mem _ hp)
   have e : tot (x :: r) = x.2.2.length + tot r := by simp [tot]
   rw [e, List.length_cons, Nat.mul_add]
   omega
theorem spOf_ap (l l' : List SpV) : spOf (l ++ l') = spOf l ++ spOf l' := by simp [spOf]
theorem cellsS_app (l l' : List SpV) : cellsS (l ++ l') = cellsS l ++ cellsS l' := by simp [cellsS]
theorem AllS.one {w0 w : World} {L : LV} {R : LR} {l : List SpV} (hv : Mem w0 w L R) (h : AllS R l) : ∀ p ∈ l, p.2.1.oneCell' = true := fun p hp => by
 obtain ⟨a, n, c, e, _⟩ := id (hv.rd (h p hp))
 rw [e]; rfl
theorem cellsB_app (a b : List Nat) : cellsB (a ++ b) = cellsB a ++ cellsB b := by simp [cellsB]
theorem u32_nat {k : Nat} (h : k < 4294967296) : IntKind.u32.wrap (k : Int) = (k : Int) := by simp [IntKind.wrap, IntKind.bits, IntKind.signed]; omega
theorem u32_add (a b : Nat) : IntKind.u32.wrap ((a : Int) + (b : Int)) = (((a + b) % 4294967296 : Nat) : Int) := by simp [IntKind.wrap, IntKind.bits, IntKind.signed]
theorem info8z : (Try.prog.info? 5).map (fun i => (i.zero, i.size, i.bytes)) = some (some (.int .u8 0), 1, 1) := by kernel_rfl
theorem perm_x9 {α : Type} (a x b c : α) (L : List α) : (a :: x :: b :: c :: L).Perm (a :: b :: c :: x :: L) :=
 ((List.Perm.swap b x (c :: L)).trans ((List.Perm.swap c x L).cons b)).cons a
theorem re4 {w0 w : World} {R : LR} {a b c d : Nat × Array Value} {O U L : LV} (h : Mem w0 w (a :: b :: c :: d :: (O ++ (U ++ L))) R) : Mem w0 w (([a, b, c, d] ++ O) ++ U ++ L) R := by
 simpa only [List.cons_append, List.nil_append, List.append_assoc] using h
theorem take_sr (next : Nat) (ba : Addr) (pa : Option Addr) (bn bc pn pc : Nat) (bs : List Nat) (l : List PcV) (seq : Nat) (da : Option Addr) (dn dc : Nat) (w0 w : World) (L : LV) (R : LR) (hv0 : Mem w0 w L R) (hb : (1, .slice (some ba) bn bc, cellsB bs) ∈ R) (hp : (2, .slice pa pn pc, cellsP l) ∈ R) (hal : AllP R l) (hpn : pn ≤ 1000) (hbn : bs.length ≤ 1000000) (hdl : ∀ p ∈ l, p.2.2.length ≤ 1000000) (hck : chk (stOf next bs l) = true) (hdn : dn ≤ 4096) (hdc : dn ≤ dc) (da2 : Option Addr) (hsl : sliced da 0 dn dc 1 = .slice da2 dn dc) (data : List Nat) (hnx : next < 4294967296) (y : Int) (ya : Option Addr) (m : Nat) (yd : List Nat) (hy : (1, .slice ya m m, cellsB yd) ∈ R) (hyb : -1000000000000 ≤ y ∧ y ≤ 900000000000 ∧ m ≤ 1000000) (hwi : within (Wi.part (stOf next bs l) seq data) 0 (room (stOf next bs l)) = some (y, yd)) (kW : ∀ w', Calls Try.prog 79 #[.agg #[.int .i64 (dif seq next), .slice da2 dn dc], .int .i64 0, .int .i64 (room (stOf next bs l))] w' fun e w2 => e = .returned (.tuple #[.agg #[.int .i64 y, .slice ya m m], .bool true]) ∧ New w' w2) :
   Calls Try.prog 73 #[.agg #[.int .u32 next, .slice (some ba) bn bc, .slice pa pn pc], .int .u32 seq, .slice da dn dc] w (TakeW w0 L R next bs (allL (stOf next bs l) seq data)) := by
 have hv := hv0
 have HBM := Lib.hid hb
 have HP := Lib.hid hp
 have HA := Lib.hid hal
 have HPN := Lib.hid hpn
 have kC : ∀ w' L' R', Mem w0 w' L' R' → (1, .slice (some ba) bn bc, cellsB bs) ∈ R' → (2, .slice pa pn pc, cellsP l) ∈ R' → AllP R' l → Calls Try.prog 41 #[.agg #[.int .u32 next, .slice (some ba) bn bc, .slice pa pn pc]] w' fun e w2 => e = .returned (.bool true) ∧ New w' w2 := fun w' L' R' h1 h2 h3 h4 => by
   have := Check_any next (some ba) pa bn bc pn pc bs l w0 w' L' R' h1 h2 h3 h4 hpn hbn hdl
   rwa [hck] at this
 have kR : ∀ w' R', Mem w' w' [] R' → (1, .slice (some ba) bn bc, cellsB bs) ∈ R' → (2, .slice pa pn pc, cellsP l) ∈ R' → AllP R' l → Calls Try.prog 36 #[.agg #[.int .u32 next, .slice (some ba) bn bc, .slice pa pn pc]] w' fun e w2 => e = .returned (.int .i64 (room (stOf next bs l))) ∧ New w' w2 := fun w' R' h1 h2 h3 h4 => Room_any next (some ba) pa bn bc pn pc bs l w' w' [] R' h1 h2 h3 h4 hpn hbn hdl
 have HHL : Hid ((spV next l).length ≤ 1000) := Lib.hid (by rw [spV, List.length_map, len_rdP (hv0.rd hp)]; exact hpn)
 have HS0 : Hid (∀ x, AllS (x :: R) (spV next l)) := Lib.hid (fun x => (spV_all hal).mono fun _ h => Mem.s h)
 have HSB : Hid (∀ p ∈ spV next l, -1000000000000 ≤ p.1 ∧ p.1 ≤ 900000000000 ∧ p.2.2.length ≤ 1000000) := Lib.hid (fun p hp => by
   obtain ⟨x, hx, rfl⟩ := List.mem_map.1 hp
   have h1 := dif_lo x.1 next
   have h2 := dif_hi x.1 next
   have h3 := hdl x hx
   exact ⟨by simp only; omega, by simp only; omega, h3⟩)
 have HSL := Lib.hid hsl
 have HDC := Lib.hid hdc
 have HCK := Lib.hid hck
 have HNX := Lib.hid hnx
 have HWI := Lib.hid hwi
 have hbl := len_rd1 (hv0.rd hb)
 have HBN6 : Hid (bn ≤ 1000000) := Lib.hid (by omega)
 have HBL := Lib.hid hbl
 have HBR := Lib.hid (show bs.length ≤ 256 from (chk_spans hck).2.2.2)
 have HY := Lib.hid hy
 have HYB := Lib.hid hyb
 have HWC : Hid (∃ u y, AppRow u 1 (cellsB bs) y) := Lib.hid (Any.AppRow.some (c := cellsB bs) (k := 1) (n := bn) (by rw [cellsB_len]; omega) (by unfold maxLen; omega))
 obtain ⟨ro, hro⟩ : ∃ ro, room (stOf next bs l) = ro := ⟨_, rfl⟩
 rw [hro] at kW kR
 obtain ⟨A0, hA0⟩ : ∃ A0, allL (stOf next bs l) seq data = A0 := ⟨_, rfl⟩
 rw [hA0]
 have HA0 := Lib.hid hA0
 have qmn : ¬ (4096 : Int) < (dn : Int) := by omega
 have qmn2 : (dn : Int) ≤ 4096 := by omega
 have qmn3 : min (dn : Int) 4096 = (dn : Int) := by omega
 clear hv0 hb hp hal hpn hbn hdl hck hsl hnx hwi hbl hro hA0 hy hyb
 go_enter Try.func73, Try.ntmps73
 go_wp2_with (first
   | ((with_reducible refine gBx 27 3 ?_); refine nwB hv #[.int .u32 next, .slice (some ba) bn bc, .slice pa pn pc] 27 ?_; clear hv; intro b3 w2 hv)
   | ((with_reducible refine gAl 27 6 ?_); refine nwB hv #[.int .u32 0, .slice none 0 0, .slice none 0 0] 27 ?_; clear hv; intro b6 w2 hv)
   | ((with_reducible refine gLd 27 ?_); refine ldV hv b3 3 Try.underlying27 infoStr ?_)
   | (go_at_call 41; (with_reducible refine (kC _ _ _ hv HBM.out HP.out HA.out).mono ?_); rintro e w1 ⟨rfl, hn1⟩; replace hv := hv.new hn1; clear hn1)
   | (go_at_call 64; (with_reducible refine (spans_any next (some ba) pa bn bc pn pc l _ _ _ _ hv HP.out HA.out HPN.out).mono ?_); rintro e w1 ⟨ha, hn, hc, rfl, hv1⟩; have HHN := Lib.hid (len_rdS (hv1.rd Mem.z)); replace hv := hv1; clear hv1)
   | (go_at_call 78; (with_reducible refine (SClone_own _ _ _ _ _ _ _ _ hv Mem.z (cellsS_one _ (AllS.one hv (HS0.out _))) (by have := HHN.out; have := HHL.out; omega)).mono ?_); rintro e w1 ⟨v, O, rfl, hO, hv1⟩; replace hv := hv1.perm (perm_own O L _ _); clear hv1; obtain ⟨va, vn, vc, rfl, _⟩ := id hO.slice))
 refine Any.wr1 12 [(2, [1000], none), (10, [], some 7), (11, [7], some 7)] [(10, .lay #[.int .i64 0, .slice none 0 0]), (11, .put)] hv ?_
 simp only [Any.someVals]
 iterate 12 apply Exists.intro
 repeat ((first
  | refine Any.E_off rfl ?_
  | ((with_reducible refine Any.gE 22 ?_); refine Any.eC 1000 _ Try.underlying22 ?_)
  | (apply Any.E_val rfl rfl rfl rfl
     case h =>
      intro E' hA K hK
      first
       | ((with_reducible refine Any.at_qslice (T := 23) ?_); refine Any.q_slice rfl Try.underlying23 infoB1 none (some (.int .i64 dn)) none rfl rfl rfl 0 dn dc (fun w => bounds_h HDC.out) HSL.out ?_; refine hK _ ?_; rfl)
       | ((with_reducible refine Any.at_qbuild (T := 92) ?_); refine Any.q_build [(0, .int .i64 (dif seq next)), (1, .slice da2 dn dc)] rfl (built_sp _ _ _ _) ?_; refine hK _ ?_; rfl)
       | (go_big_quiet_op; first
          | (refine hK _ ?_; rfl)
          | (refine ⟨_, fun _ _ => rfl, ?_⟩; refine hK _ ?_; rfl)
          | (apply Exists.intro; refine ⟨fun w1 hw1 => ?_, ?_⟩; · (first
              | (go_at_call 68; exact Any.calls_VEq (Diff_any _ _ _) hw1))
             refine hK _ ?_; rfl))
     case hD => rfl)
  | ((with_reducible refine Any.at_ealloc ?_); refine Any.E_lay rfl rfl rfl (fun _ => rfl) ?_; intro b10)
  | ((with_reducible refine Any.at_estore (T := 92) ?_); refine Any.E_putv (T := 92) rfl rfl rfl rfl rfl rfl 2 infoSp rfl rfl (by simp [Value.oneCell']) ?_)); simp only [Act.put, sia, scs, scz])
 try any_goals exact undef
 refine Any.fin1 hv [7, 1000] ?_; clear hv; intro w9 hv
 go_wp2
 have HMK := Lib.hid (hv.keep (List.sublist_append_left [(b10, #[.int .i64 (dif seq next), .slice da2 dn dc]), (b3, #[.int .u32 next, .slice (some ba) bn bc, .slice pa pn pc])] ((b6, #[.int .u32 0, .slice none 0 0, .slice none 0 0]) :: (O ++ L))))
 have HB2 : Hid ((1, .slice (some ba) bn bc, cellsB bs) ∈ ((2, .slice ha hn hc, cellsS (spV next l)) :: R)) := Lib.hid (Mem.s HBM.out)
 have HP2 : Hid ((2, .slice pa pn pc, cellsP l) ∈ ((2, .slice ha hn hc, cellsS (spV next l)) :: R)) := Lib.hid (Mem.s HP.out)
 have HA2 : Hid (AllP ((2, .slice ha hn hc, cellsS (spV next l)) :: R) l) := Lib.hid (HA.out.mono fun _ h => Mem.s h)
 refine Any.wr2 10 [(0, [1000], none), (1, [1001], none), (7, [], some 7), (8, [7], some 7)] [(7, .lay #[.int .i64 0, .slice none 0 0]), (8, .put)] hv ?_
 simp only [Any.someVals]
 iterate 10 apply Exists.intro
 repeat ((first
  | refine Any.E_off rfl ?_
  | ((with_reducible refine Any.gE 92 ?_); refine Any.eW 1000 2 Try.underlying92 infoSp ?_)
  | ((with_reducible refine Any.gE 27 ?_); refine Any.eW 1001 3 Try.underlying27 infoStr ?_)
  | (apply Any.E_val rfl rfl rfl rfl
     case h =>
      intro E' hA K hK
      first
       | (go_big_quiet_op; first
          | (refine hK _ ?_; rfl)
          | (refine ⟨_, fun _ _ => rfl, ?_⟩; refine hK _ ?_; rfl)
          | (apply Exists.intro; refine ⟨fun w1 hw1 => ?_, ?_⟩; · (first
              | (go_at_call 36; exact Any.calls_VE (kR _ _ (hw1.baseR HMK.out) HB2.out HP2.out HA2.out) hw1)
              | (go_at_call 79; exact Any.calls_VE (kW _) hw1))
             refine hK _ ?_; rfl))
     case hD => rfl)
  | ((with_reducible refine Any.at_ealloc ?_); refine Any.E_lay rfl rfl rfl (fun _ => rfl) ?_; intro b11)
  | ((with_reducible refine Any.at_estore (T := 92) ?_); refine Any.E_putv (T := 92) rfl rfl rfl rfl rfl rfl 2 infoSp rfl rfl (by simp [Value.oneCell']) ?_)); simp only [Act.put, sia, scs, scz])
 try any_goals exact undef
 refine Any.fin2 hv [7, 1000, 1001] ?_; clear hv; intro w9 hv
 clear HMK
 have HO := Lib.hid hO
 have HN31 : Hid (∀ S : List SpV, S.length ≤ hn + 1 → ((cellsS (spV next l)).length + (cellsS S).length) / 2 ≤ maxLen) := Lib.hid (fun S hS => by have := HHN.out; have := HHL.out; rw [cellsS_len, cellsS_len]; unfold maxLen; omega)
 have HN32 : Hid (∀ S : List SpV, S.length ≤ hn + 1 → ((cellsS (spV next l)).length + (cellsS S).length) / 2 * 32 ≤ 140737488355328) := Lib.hid (fun S hS => by have := HHN.out; have := HHL.out; rw [cellsS_len, cellsS_len]; omega)
 clear hO
 go_wp2_with (first
   | ((with_reducible refine gLd 92 ?_); refine ldV hv b11 2 Try.underlying92 infoSp ?_)
   | (go_at_call 80; (with_reducible refine (fresh_any y ya m m yd ha hn hc (spV next l) _ _ _ _ hv (Mem.s HY.out) Mem.z (HS0.out _) (by have := HHN.out; have := HHL.out; omega) HSB.out HYB.out.1 HYB.out.2.1 HYB.out.2.2).mono ?_); rintro e w1 ⟨ua, un, uc, S, RF, rfl, hv1, hS1, hS2, hS3⟩; replace hv := hv1; clear hv1)
   | ((with_reducible refine at_append (t := 89) ?_); refine wl_appO (A := [_, _, _, _]) (B := L) rfl rfl HO.out hv (.agg #[.int .i64 0, .slice none 0 0]) 32 Try.underlying89 infoSpz rfl (by decide) rfl (hv.rd Mem.z) (cellsS_one _ (AllS.one hv (fun p hp => Mem.s (hS2 p hp)))) (HN31.out _ hS3) (HN32.out _ hS3) ?_; intro v2 w7 O2 hO2 hv1; replace hv := hv1; clear hv1; simp only [List.cons_append, List.nil_append] at hv))
 obtain ⟨A, hA⟩ : ∃ A, spV next l ++ S = A := ⟨_, rfl⟩
 have HOA : Hid (OwnL 2 v2 (cellsS A) O2) := Lib.hid (by rw [← hA, cellsS_app]; exact hO2)
 have HSA : Hid (spOf A = A0) := Lib.hid (by
   rw [← HA0.out, ← hA, spOf_ap, hS1]
   unfold allL
   rw [HWI.out, spOf_spV next bs l])
 have HAA : Hid (AllS ((2, .slice ua un uc, cellsS S) :: (RF ++ ((2, .slice ha hn hc, cellsS (spV next l)) :: R))) A) := Lib.hid (by
   rw [← hA]
   intro p hp
   rcases List.mem_append.1 hp with hp | hp
   · exact Mem.s (List.mem_append_right _ (HS0.out _ p hp))
   · exact Mem.s (hS2 p hp))
 have HAL0 : Hid (A.length ≤ 2001) := Lib.hid (by
   have := HHN.out; have := HHL.out
   rw [← hA, List.length_append]; omega)
 clear hO2 hS1 hS2 hS3 hA
 obtain ⟨va2, vn2, vc2, rfl, _⟩ := id HOA.out.slice
 replace hv := hv.drop.drop
 have HXD := Lib.hid (Any.rd_start (hv.keep (List.sublist_append_left [(b3, #[.int .u32 next, .slice (some ba) bn bc, .slice pa pn pc])] ((b6, #[.int .u32 0, .slice none 0 0, .slice none 0 0]) :: (O2 ++ L)))) (show (1, .slice (some ba) bn bc, cellsB bs) ∈ ((2, .slice ua un uc, cellsS S) :: (RF ++ ((2, .slice ha hn hc, cellsS (spV next l)) :: R))) from Mem.s (List.mem_append_right _ HB2.out)))
 go_wp2
 refine Any.wr1 8 [(1, [1000], none), (3, [1000], none), (4, [], some 6), (6, [], some 5), (7, [5], some 5)] [(4, .own (fun u y => AppRow u 1 (cellsB bs) y)), (5, .pure), (6, .lay #[.int .u32 0, .slice none 0 0, .slice none 0 0]), (7, .put)] hv ?_
 simp only [Any.someVals]
 iterate 8 apply Exists.intro
 repeat ((first
  | refine Any.E_off rfl ?_
  | refine Any.ePq ?_
  | ((with_reducible refine Any.gE 22 ?_); refine Any.eC 1000 _ Try.underlying22 ?_)
  | ((with_reducible refine Any.gE 23 ?_); refine Any.eC 1000 _ Try.underlying23 ?_)
  | refine Any.eV ?_
  | ((with_reducible refine Any.at_ealloc ?_); refine Any.E_lay rfl rfl rfl (fun _ => rfl) ?_; intro b13)
  | ((with_reducible refine Any.at_ecall ?_); refine Any.E_callownA (W := fun u y => AppRow u 1 (cellsB bs) y) rfl rfl rfl (Go.Proofs.enters_of Try.func63 (by kernel_rfl) rfl) rfl [.slice (some ba) bn bc] rfl HWC.out (fun E' _ w1 hw1 => BClone_row ba bn bc (cellsB bs) w1 (hw1.rdold HXD.out.1 HXD.out.2) (cellsB_one _) HBN6.out) ?_; intro v9 x9 hW9; obtain ⟨n9, c9, rfl, g9⟩ := id hW9; replace g9 := Lib.hid g9; replace hW9 := Lib.hid hW9)
  | ((with_reducible refine Any.at_ebuild (T := 27) ?_); refine Any.E_build rfl rfl rfl _ rfl (built_str _ _ _ _) ?_)
  | ((with_reducible refine Any.at_estore (T := 27) ?_); refine Any.E_putv (T := 27) rfl rfl rfl rfl rfl rfl 3 infoStr rfl rfl (by simp [Value.oneCell']) ?_)); simp only [Act.put, sia, scs, scz])
 try any_goals exact undef
 refine Any.fin1 hv [5, 6, 1000] ?_; clear hv; intro w9 hv
 replace hv := hv.perm (perm_x9 _ x9 _ _ _)
 have HOB0 : Hid (OwnL 1 (.slice (some ⟨x9.1, 0, none⟩) n9 c9) (cellsB bs) [x9]) := Lib.hid (OwnL.row hW9.out)
 obtain ⟨Ob0, hOb⟩ : ∃ Ob0, [x9] = Ob0 := ⟨_, rfl⟩
 rw [show ∀ (a b c : Nat × Array Value), a :: b :: c :: x9 :: (O2 ++ L) = a :: b :: c :: ([x9] ++ (O2 ++ L)) from fun _ _ _ => rfl, hOb] at hv
 rw [hOb] at HOB0
 clear hOb
 replace hv := hv.perm (perm_swap Ob0 O2 L _ _ _)
 obtain ⟨RN, hRN⟩ : ∃ RN, ((2, .slice ua un uc, cellsS S) :: (RF ++ ((2, .slice ha hn hc, cellsS (spV next l)) :: R))) = RN := ⟨_, rfl⟩
 have HRN := Lib.hid hRN
 rw [hRN] at hv HAA
 have HAC : Hid (∀ x ∈ spOf A, x.2 ≠ [] ∧ 0 ≤ x.1 ∧ x.1 + x.2.length ≤ 256) := Lib.hid (fun x hx => by
   rw [HSA.out, ← HA0.out] at hx
   have h1 := (all_cont HCK.out seq data).2.1 x hx
   have h2 := (chk_spans HCK.out).2.2
   exact ⟨h1.1, h1.2.1, by omega⟩)
 have HAB : Hid (∀ p ∈ A, -1000000000000 ≤ p.1 ∧ p.1 ≤ 1000000000000 ∧ p.2.2 ≠ []) := Lib.hid (fun p hp => by
   have h := HAC.out _ (spOf_mem hp)
   exact ⟨by have := h.2.1; simp only at this; omega, by have := h.2.2; have := h.2.1; simp only at *; omega, h.1⟩)
 have HAT : Hid (tot A ≤ 1000000) := Lib.hid (by
   have h1 := tot_le (l := A) (m := 256) (fun p hp => by have h := HAC.out _ (spOf_mem hp); have := h.2.1; have := h.2.2; simp only at *; omega)
   have := HAL0.out
   omega)
 have HAL : Hid (A.length ≤ 5000) := Lib.hid (by have := HAL0.out; omega)
 clear hRN HAC
 go_wp2_with (first
   | (go_at_call 81; (with_reducible refine (joined_any _ _ A _ _ _ _ hv HOA.out HAA.out HAL.out HAB.out HAT.out).mono ?_); rintro e w1 ⟨ja, jn, jc, J, RF2, srt, rfl, hv1, hJ1, hJ2, hJ3, hJ4, hJ5, hJ6⟩; replace hv := hv1; clear hv1))
 have HPE : Hid ((spOf srt).Perm A0) := Lib.hid (by rw [← HSA.out]; exact hJ2.map _)
 have HPW : Hid ((spOf srt).Pairwise fun x y => x.1 ≤ y.1) := Lib.hid (List.pairwise_map.2 hJ3)
 have HME := Lib.hid hJ4
 have HJO : Hid (∀ p ∈ J, 0 ≤ p.1 ∧ p.1 + p.2.2.length ≤ 256 ∧ p.2.2 ≠ []) := Lib.hid (fun p hp => by
   have := merge_ok HCK.out (seq := seq) (data := data) (by rw [HA0.out]; exact HPE.out) HPW.out (p.1, p.2.2) (by rw [← hJ4]; exact spOf_mem hp)
   exact this)
 have HJN := Lib.hid (len_rdS (hv.rd Mem.z))
 have hjn : jn ≤ 2001 := by have := HJN.out; have := HAL0.out; omega
 have HJA : Hid (AllS ((2, .slice ja jn jc, cellsS J) :: (RF2 ++ RN)) J) := Lib.hid (fun p hp => Mem.s (hJ1 p hp))
 obtain ⟨c, hc0⟩ : ∃ c, finT next next bs 0 [] J = c := ⟨_, rfl⟩
 have HC := Lib.hid hc0
 clear hJ1 hJ2 hJ3 hJ4 hJ5 hJ6 hc0
 go_loopw [14, 57] (fun nv i wr => ∃ (k n nx : Nat) (B : List Nat) (P : List PcV) (bv pv : Value) (Ob Op : LV), k ≤ jn ∧ i = .int .i64 k ∧ nv = .int .i64 n ∧ Hid (OwnL 1 bv (cellsB B) Ob) ∧ Hid (OwnL 2 pv (cellsP P) Op) ∧ Mem w0 wr ((b13, #[.int .u32 nx, bv, pv]) :: (b3, #[.int .u32 next, .slice (some ba) bn bc, .slice pa pn pc]) :: (b6, #[.int .u32 0, .slice none 0 0, .slice none 0 0]) :: (Ob ++ (Op ++ L))) ((2, .slice ja jn jc, cellsS J) :: (RF2 ++ RN)) ∧ Hid (AllP ((2, .slice ja jn jc, cellsS J) :: (RF2 ++ RN)) P) ∧ Hid (finT next nx B n P (J.drop k) = c) ∧ Hid (P.length ≤ k) ∧ Hid (B.length ≤ 256 + 256 * k) ∧ Hid (nx < 4294967296)) (fun _ i _ => jn - (intOf i).toNat)
 case atStart => exact ⟨0, 0, next, bs, [], _, _, Ob0, [], Nat.zero_le _, rfl, rfl, HOB0, Lib.hid (OwnL.nil 2), hv, Lib.hid (fun p hp => (List.not_mem_nil hp).elim), Lib.hid HC.out, Lib.hid (Nat.zero_le _), Lib.hid (by have := HBR.out; omega), HNX⟩
 case round =>
   clear hv
   obtain ⟨k, n, nx, B, P, bv, pv, Ob, Op, hk, rfl, rfl, HOB, HOP, hv, HAP, HEQ, HPK, HBK, HNN⟩ := hrel
   obtain ⟨bva, bvn, bvc, rfl, _⟩ := id HOB.out.slice
   obtain ⟨pva, pvn, pvc, rfl, _⟩ := id HOP.out.slice
   by_cases hk2 : k < jn
   · have hki : (k : Int) < (jn : Int) := by omega
     have hkb : (k : Int) ≤ 5000 := by omega
     have hkl : k < J.length := by rw [HJN.out]; exact hk2
     obtain ⟨⟨x, xv, xd⟩, hx⟩ : ∃ z, J[k] = z := ⟨_, rfl⟩
     have hdm := HJA.out J[k] (List.getElem_mem hkl)
     have hbm := HJO.out J[k] (List.getElem_mem hkl)
     rw [hx] at hdm hbm
     simp only at hdm hbm
     obtain ⟨xp, rfl⟩ : ∃ xp : Nat, x = (xp : Int) := ⟨x.toNat, by omega⟩
     obtain ⟨xa, xn, xc, rfl, _⟩ := id (hv.rd hdm)
     have hxn : xd.length = xn := len_rd1 (hv.rd hdm)
     have HXM := Lib.hid hdm
     have HXL := Lib.hid hxn
     have HK : Hid (((cellsS J).drop (k * 2)).take 2 = [.int .i64 (xp : Int), .slice xa xn xc]) := Lib.hid (by rw [cellsS_part J k hkl, hx])
     have HDK : Hid (J.drop k = ((xp : Int), .slice xa xn xc, xd) :: J.drop (k + 1)) := Lib.hid (by rw [List.drop_eq_getElem_cons hkl, hx])
     obtain ⟨jb, jo, _, _, e, _⟩ := (hv.rd Mem.z).some (by rw [cellsS_len]; omega)
     cases e
     have HKV : Hid (k < jn) := Lib.hid hk2
     have HJB : Hid (jn ≤ 2001) := Lib.hid hjn
     have hxp : xp ≤ 256 := by omega
     have hxn2 : xn ≤ 256 := by omega
     have q1 : IntKind.u32.wrap (xp : Int) = (xp : Int) := u32_nat (by omega)
     have q2 : IntKind.u32.wrap (xn : Int) = (xn : Int) := u32_nat (by omega)
     have q3 := u32_add next xp
     have q4 := u32_add nx xn
     clear hx hdm hkl hk2 hk hxn hbm
     by_cases hz : xp = 0
     · have y1 : ((xp : Int) == 0) = true := by rw [beq_iff_eq]; omega
       have HZ := Lib.hid hz
       have HB1 : Hid (((cellsB B).length + (cellsB xd).length) / 1 ≤ maxLen) := Lib.hid (by rw [cellsB_len, cellsB_len]; have := HBK.out; have := HXL.out; unfold maxLen; omega)
       have HB2 : Hid (((cellsB B).length + (cellsB xd).length) / 1 * 1 ≤ 140737488355328) := Lib.hid (by rw [cellsB_len, cellsB_len]; have := HBK.out; have := HXL.out; omega)
       clear hz
       go_wp2_with (first
         | ((with_reducible refine at_load (T := 92) ?_); refine wl_rdv rfl (hv.rd Mem.z) (k * 2) rfl 2 _ Try.underlying92 rfl infoSp (by decide) #[.int .i64 (xp : Int), .slice xa xn xc] HK.out rfl ?_)
         | ((with_reducible refine gAl 92 16 ?_); refine nwB hv #[.int .i64 0, .slice none 0 0] 92 ?_; clear hv; intro b16 w2 hv)
         | ((with_reducible refine gSt 92 ?_); refine stV hv b16 2 infoSp ?_; clear hv; intro w2 hv)
         | ((with_reducible refine gLd 3 ?_); refine ldC hv b16 0 _ Try.underlying3 ?_)
         | ((with_reducible refine gLd 23 ?_); refine ldC hv b16 1 _ Try.underlying23 ?_)
         | ((with_reducible refine gLd 23 ?_); refine ldC hv b13 1 _ Try.underlying23 ?_)
         | ((with_reducible refine gLd 22 ?_); refine ldC hv b13 0 _ Try.underlying22 ?_)
         | ((with_reducible refine at_append (t := 23) ?_); refine wl_appO (A := [_, _, _, _]) (B := Op ++ L) rfl rfl HOB.out hv (.int .u8 0) 1 Try.underlying23 info8z rfl (by decide) rfl (hv.rd HXM.out) (cellsB_one _) HB1.out HB2.out ?_; intro v2 w7 Ob2 hOb2 hv1; replace hv := hv1; clear hv1; obtain ⟨ua, un, uc, rfl, _⟩ := id hOb2.slice; replace hOb2 := Lib.hid hOb2; simp only [List.cons_append, List.nil_append] at hv)
         | ((with_reducible refine gSt 23 ?_); refine stC hv b13 1 (.slice ua un uc) ?_; clear hv; intro w2 hv)
         | ((with_reducible refine gSt 22 ?_); refine stC hv b13 0 (.int .u32 (((nx + xn) % 4294967296 : Nat) : Int)) ?_; clear hv; intro w2 hv))
       try rw [Exit.noGoto_ret]
       have hkv := HKV.out
       go_roundw
       case rel => exact ⟨k + 1, xn, (nx + xn) % 4294967296, B ++ xd, P, _, _, Ob2, Op, by omega, by go_num, rfl, Lib.hid (by rw [cellsB_app]; exact hOb2.out), HOP, hv.drop, HAP, Lib.hid (by
         have := HEQ.out
         rw [HDK.out, finT_zero (by show (xp : Int) = 0; have := HZ.out; omega)] at this
         simp only [HXL.out] at this
         exact this), Lib.hid (by have := HPK.out; omega), Lib.hid (by rw [List.length_append]; have := HBK.out; have := HXL.out; omega), Lib.hid (Nat.mod_lt _ (by decide))⟩
       case measure => simp [intOf]; omega
     · have y1 : ((xp : Int) == 0) = false := by rw [beq_eq_false_iff_ne]; omega
       have HZ := Lib.hid hz
       have HN1 : Hid (∀ z ∈ ([.int .u32 (((next + xp) % 4294967296 : Nat) : Int), .slice xa xn xc] : List Value), z.oneCell' = true) := Lib.hid (fun z hz => by
         rcases List.mem_cons.1 hz with rfl | hz
         · rfl
         · rw [List.mem_singleton.1 hz]; rfl)
       have HP1 : Hid (((cellsP P).length + ([.int .u32 (((next + xp) % 4294967296 : Nat) : Int), .slice xa xn xc] : List Value).length) / 2 ≤ maxLen) := Lib.hid (by rw [cellsP_len]; have := HPK.out; simp only [List.length_cons, List.length_nil]; unfold maxLen; omega)
       have HP2 : Hid (((cellsP P).length + ([.int .u32 (((next + xp) % 4294967296 : Nat) : Int), .slice xa xn xc] : List Value).length) / 2 * 32 ≤ 140737488355328) := Lib.hid (by rw [cellsP_len]; have := HPK.out; simp only [List.length_cons, List.length_nil]; omega)
       clear hz
       go_wp2_with (first
         | ((with_reducible refine at_load (T := 92) ?_); refine wl_rdv rfl (hv.rd Mem.z) (k * 2) rfl 2 _ Try.underlying92 rfl infoSp (by decide) #[.int .i64 (xp : Int), .slice xa xn xc] HK.out rfl ?_)
         | ((with_reducible refine gAl 92 16 ?_); refine nwB hv #[.int .i64 0, .slice none 0 0] 92 ?_; clear hv; intro b16 w2 hv)
         | ((with_reducible refine gSt 92 ?_); refine stV hv b16 2 infoSp ?_; clear hv; intro w2 hv)
         | ((with_reducible refine gLd 3 ?_); refine ldC hv b16 0 _ Try.underlying3 ?_)
         | ((with_reducible refine gLd 23 ?_); refine ldC hv b16 1 _ Try.underlying23 ?_)
         | ((with_reducible refine gLd 25 ?_); refine ldC hv b13 2 _ Try.underlying25 ?_)
         | ((with_reducible refine gLd 22 ?_); refine ldC hv b3 0 _ Try.underlying22 ?_)
         | ((with_reducible refine at_build (T := 95) ?_); refine wl_build rfl _ rfl (built_pc _ _ _ _) ?_)
         | ((with_reducible refine at_append (t := 25) ?_); replace hv := hv.bsl' (k := 2) (n := 1) (c := [.int .u32 (((next + xp) % 4294967296 : Nat) : Int), .slice xa xn xc]) ⟨rfl, made_alloc _ #[.int .u32 (((next + xp) % 4294967296 : Nat) : Int), .slice xa xn xc] 95⟩ rfl rfl (by unfold maxLen; omega); refine wl_appO rfl rfl HOP.out (re4 hv) (.agg #[.int .u32 0, .slice none 0 0]) 32 Try.underlying25 infoPcz rfl (by decide) rfl (hv.rd Mem.z) HN1.out HP1.out HP2.out ?_; intro v2 w7 Op2 hOp2 hv1; replace hv := hv1.dropR; clear hv1; obtain ⟨ua, un, uc, rfl, _⟩ := id hOp2.slice; replace hOp2 := Lib.hid hOp2; simp only [List.cons_append, List.nil_append, List.append_assoc] at hv)
         | ((with_reducible refine gSt 25 ?_); refine stC hv b13 2 (.slice ua un uc) ?_; clear hv; intro w2 hv))
       have hkv := HKV.out
       go_roundw
       case rel => exact ⟨k + 1, n, nx, B, P ++ [pcOf next ((xp : Int), .slice xa xn xc, xd)], _, _, Ob, Op2, by omega, by go_num, rfl, HOB, Lib.hid (by rw [cellsP_snoc]; exact hOp2.out), hv.drop, Lib.hid (fun p hp => by
         rcases List.mem_append.1 hp with hp | hp
         · exact HAP.out p hp
         · rw [List.mem_singleton.1 hp]; exact HXM.out), Lib.hid (by
         have := HEQ.out
         rw [HDK.out, finT_else (by show ¬ (xp : Int) = 0; have := HZ.out; omega)] at this
         exact this), Lib.hid (by rw [List.length_append, List.length_singleton]; have := HPK.out; omega), Lib.hid (by have := HBK.out; omega), HNN⟩
       case measure => simp [intOf]; omega
   · have hki : ¬ (k : Int) < (jn : Int) := by omega
     have HDE : Hid (J.drop k = []) := Lib.hid (List.drop_eq_nil_of_le (by rw [HJN.out]; omega))
     clear hk hk2
     go_wp2_with (first
       | ((with_reducible refine gLd 27 ?_); refine ldV hv b13 3 Try.underlying27 infoStr ?_)
       | ((with_reducible refine gSt 27 ?_); refine stV hv b6 3 infoStr ?_; clear hv; intro w2 hv))
     refine ret_cell2 Try.results73 rfl (read_row _ b6 27 _ hv.vars.ro 3 _ Try.underlying27 rfl infoStr (by decide) rfl) rfl rfl ?_
     refine ⟨nx, n, B, P, bva, pva, bvn, bvc, pvn, pvc, ?_⟩
     have hy1 := HOB.out.yield (A := []) (B := Op ++ L) hv.drop.drop.drop
     have hy2 := HOP.out.yield (A := []) (B := L) hy1
     rw [List.nil_append] at hy2
     have hfin : finT next next bs 0 [] J = (nx, B, n, P) := by
       have := HEQ.out
       rw [HDE.out] at this
       rw [HC.out, ← this]
       rfl
     rw [← HRN.out] at hy2 HAP
     refine ⟨(2, .slice ja jn jc, cellsS J) :: (RF2 ++ ((2, .slice ua un uc, cellsS S) :: (RF ++ [(2, .slice ha hn hc, cellsS (spV next l))]))), srt, J, rfl, hy2.keepR (fun z hz => ?_), HAP.out.mono (fun z hz => ?_), HPE.out, HPW.out, HME.out, hfin⟩
     · rcases List.mem_cons.1 hz with rfl | hz
       · exact Mem.s Mem.z
       rcases List.mem_cons.1 hz with rfl | hz
       · exact Mem.z
       · exact Mem.s (Mem.s (by simpa using hz))
     · simpa using hz
theorem take_sn (next : Nat) (pa : Option Addr) (pn pc : Nat) (bs : List Nat) (l : List PcV) (seq : Nat) (da : Option Addr) (dn dc : Nat) (w0 w : World) (L : LV) (R : LR) (hv0 : Mem w0 w L R) (hb : (1, .slice none 0 0, cellsB bs) ∈ R) (hp : (2, .slice pa pn pc, cellsP l) ∈ R) (hal : AllP R l) (hpn : pn ≤ 1000) (hbn : bs.length ≤ 1000000) (hdl : ∀ p ∈ l, p.2.2.length ≤ 1000000) (hck : chk (stOf next bs l) = true) (hdn : dn ≤ 4096) (hdc : dn ≤ dc) (da2 : Option Addr) (hsl : sliced da 0 dn dc 1 = .slice da2 dn dc) (data : List Nat) (hnx : next < 4294967296) (y : Int) (ya : Option Addr) (m : Nat) (yd : List Nat) (hy : (1, .slice ya m m, cellsB yd) ∈ R) (hyb : -1000000000000 ≤ y ∧ y ≤ 900000000000 ∧ m ≤ 1000000) (hwi : within (Wi.part (stOf next bs l) seq data) 0 (room (stOf next bs l)) = some (y, yd)) (kW : ∀ w', Calls Try.prog 79 #[.agg #[.int .i64 (dif seq next), .slice da2 dn dc], .int .i64 0, .int .i64 (room (stOf next bs l))] w' fun e w2 => e = .returned (.tuple #[.agg #[.int .i64 y, .slice ya m m], .bool true]) ∧ New w' w2) :
   Calls Try.prog 73 #[.agg #[.int .u32 next, .slice none 0 0, .slice pa pn pc], .int .u32 seq, .slice da dn dc] w (TakeW w0 L R next bs (allL (stOf next bs l) seq data)) := by
 have hv := hv0
 have HBM := Lib.hid hb
 have HP := Lib.hid hp
 have HA := Lib.hid hal
 have HPN := Lib.hid hpn
 have kC : ∀ w' L' R', Mem w0 w' L' R' → (1, .slice none 0 0, cellsB bs) ∈ R' → (2, .slice pa pn pc, cellsP l) ∈ R' → AllP R' l → Calls Try.prog 41 #[.agg #[.int .u32 next, .slice none 0 0, .slice pa pn pc]] w' fun e w2 => e = .returned (.bool true) ∧ New w' w2 := fun w' L' R' h1 h2 h3 h4 => by
   have := Check_any next none pa 0 0 pn pc bs l w0 w' L' R' h1 h2 h3 h4 hpn hbn hdl
   rwa [hck] at this
 have kR : ∀ w' R', Mem w' w' [] R' → (1, .slice none 0 0, cellsB bs) ∈ R' → (2, .slice pa pn pc, cellsP l) ∈ R' → AllP R' l → Calls Try.prog 36 #[.agg #[.int .u32 next, .slice none 0 0, .slice pa pn pc]] w' fun e w2 => e = .returned (.int .i64 (room (stOf next bs l))) ∧ New w' w2 := fun w' R' h1 h2 h3 h4 => Room_any next none pa 0 0 pn pc bs l w' w' [] R' h1 h2 h3 h4 hpn hbn hdl
 have HHL : Hid ((spV next l).length ≤ 1000) := Lib.hid (by rw [spV, List.length_map, len_rdP (hv0.rd hp)]; exact hpn)
 have HS0 : Hid (∀ x, AllS (x :: R) (spV next l)) := Lib.hid (fun x => (spV_all hal).mono fun _ h => Mem.s h)
 have HSB : Hid (∀ p ∈ spV next l, -1000000000000 ≤ p.1 ∧ p.1 ≤ 900000000000 ∧ p.2.2.length ≤ 1000000) := Lib.hid (fun p hp => by
   obtain ⟨x, hx, rfl⟩ := List.mem_map.1 hp
   have h1 := dif_lo x.1 next
   have h2 := dif_hi x.1 next
   have h3 := hdl x hx
   exact ⟨by simp only; omega, by simp only; omega, h3⟩)
 have HSL := Lib.hid hsl
 have HDC := Lib.hid hdc
 have HCK := Lib.hid hck
 have HNX := Lib.hid hnx
 have HWI := Lib.hid hwi
 have hbl := len_rd1 (hv0.rd hb)
 have HBN6 : Hid (0 ≤ 1000000) := Lib.hid (by omega)
 have HBL := Lib.hid hbl
 have HBR := Lib.hid (show bs.length ≤ 256 from (chk_spans hck).2.2.2)
 have HY := Lib.hid hy
 have HYB := Lib.hid hyb
 have HB0 : Hid (bs = []) := Lib.hid (List.length_eq_zero_iff.1 hbl)
 obtain ⟨ro, hro⟩ : ∃ ro, room (stOf next bs l) = ro := ⟨_, rfl⟩
 rw [hro] at kW kR
 obtain ⟨A0, hA0⟩ : ∃ A0, allL (stOf next bs l) seq data = A0 := ⟨_, rfl⟩
 rw [hA0]
 have HA0 := Lib.hid hA0
 have qmn : ¬ (4096 : Int) < (dn : Int) := by omega
 have qmn2 : (dn : Int) ≤ 4096 := by omega
 have qmn3 : min (dn : Int) 4096 = (dn : Int) := by omega
 clear hv0 hb hp hal hpn hbn hdl hck hsl hnx hwi hbl hro hA0 hy hyb
 go_enter Try.func73, Try.ntmps73
 go_wp2_with (first
   | ((with_reducible refine gBx 27 3 ?_); refine nwB hv #[.int .u32 next, .slice none 0 0, .slice pa pn pc] 27 ?_; clear hv; intro b3 w2 hv)
   | ((with_reducible refine gAl 27 6 ?_); refine nwB hv #[.int .u32 0, .slice none 0 0, .slice none 0 0] 27 ?_; clear hv; intro b6 w2 hv)
   | ((with_reducible refine gLd 27 ?_); refine ldV hv b3 3 Try.underlying27 infoStr ?_)
   | (go_at_call 41; (with_reducible refine (kC _ _ _ hv HBM.out HP.out HA.out).mono ?_); rintro e w1 ⟨rfl, hn1⟩; replace hv := hv.new hn1; clear hn1)
   | (go_at_call 64; (with_reducible refine (spans_any next none pa 0 0 pn pc l _ _ _ _ hv HP.out HA.out HPN.out).mono ?_); rintro e w1 ⟨ha, hn, hc, rfl, hv1⟩; have HHN := Lib.hid (len_rdS (hv1.rd Mem.z)); replace hv := hv1; clear hv1)
   | (go_at_call 78; (with_reducible refine (SClone_own _ _ _ _ _ _ _ _ hv Mem.z (cellsS_one _ (AllS.one hv (HS0.out _))) (by have := HHN.out; have := HHL.out; omega)).mono ?_); rintro e w1 ⟨v, O, rfl, hO, hv1⟩; replace hv := hv1.perm (perm_own O L _ _); clear hv1; obtain ⟨va, vn, vc, rfl, _⟩ := id hO.slice))
 refine Any.wr1 12 [(2, [1000], none), (10, [], some 7), (11, [7], some 7)] [(10, .lay #[.int .i64 0, .slice none 0 0]), (11, .put)] hv ?_
 simp only [Any.someVals]
 iterate 12 apply Exists.intro
 repeat ((first
  | refine Any.E_off rfl ?_
  | ((with_reducible refine Any.gE 22 ?_); refine Any.eC 1000 _ Try.underlying22 ?_)
  | (apply Any.E_val rfl rfl rfl rfl
     case h =>
      intro E' hA K hK
      first
       | ((with_reducible refine Any.at_qslice (T := 23) ?_); refine Any.q_slice rfl Try.underlying23 infoB1 none (some (.int .i64 dn)) none rfl rfl rfl 0 dn dc (fun w => bounds_h HDC.out) HSL.out ?_; refine hK _ ?_; rfl)
       | ((with_reducible refine Any.at_qbuild (T := 92) ?_); refine Any.q_build [(0, .int .i64 (dif seq next)), (1, .slice da2 dn dc)] rfl (built_sp _ _ _ _) ?_; refine hK _ ?_; rfl)
       | (go_big_quiet_op; first
          | (refine hK _ ?_; rfl)
          | (refine ⟨_, fun _ _ => rfl, ?_⟩; refine hK _ ?_; rfl)
          | (apply Exists.intro; refine ⟨fun w1 hw1 => ?_, ?_⟩; · (first
              | (go_at_call 68; exact Any.calls_VEq (Diff_any _ _ _) hw1))
             refine hK _ ?_; rfl))
     case hD => rfl)
  | ((with_reducible refine Any.at_ealloc ?_); refine Any.E_lay rfl rfl rfl (fun _ => rfl) ?_; intro b10)
  | ((with_reducible refine Any.at_estore (T := 92) ?_); refine Any.E_putv (T := 92) rfl rfl rfl rfl rfl rfl 2 infoSp rfl rfl (by simp [Value.oneCell']) ?_)); simp only [Act.put, sia, scs, scz])
 try any_goals exact undef
 refine Any.fin1 hv [7, 1000] ?_; clear hv; intro w9 hv
 go_wp2
 have HMK := Lib.hid (hv.keep (List.sublist_append_left [(b10, #[.int .i64 (dif seq next), .slice da2 dn dc]), (b3, #[.int .u32 next, .slice none 0 0, .slice pa pn pc])] ((b6, #[.int .u32 0, .slice none 0 0, .slice none 0 0]) :: (O ++ L))))
 have HB2 : Hid ((1, .slice none 0 0, cellsB bs) ∈ ((2, .slice ha hn hc, cellsS (spV next l)) :: R)) := Lib.hid (Mem.s HBM.out)
 have HP2 : Hid ((2, .slice pa pn pc, cellsP l) ∈ ((2, .slice ha hn hc, cellsS (spV next l)) :: R)) := Lib.hid (Mem.s HP.out)
 have HA2 : Hid (AllP ((2, .slice ha hn hc, cellsS (spV next l)) :: R) l) := Lib.hid (HA.out.mono fun _ h => Mem.s h)
 refine Any.wr2 10 [(0, [1000], none), (1, [1001], none), (7, [], some 7), (8, [7], some 7)] [(7, .lay #[.int .i64 0, .slice none 0 0]), (8, .put)] hv ?_
 simp only [Any.someVals]
 iterate 10 apply Exists.intro
 repeat ((first
  | refine Any.E_off rfl ?_
  | ((with_reducible refine Any.gE 92 ?_); refine Any.eW 1000 2 Try.underlying92 infoSp ?_)
  | ((with_reducible refine Any.gE 27 ?_); refine Any.eW 1001 3 Try.underlying27 infoStr ?_)
  | (apply Any.E_val rfl rfl rfl rfl
     case h =>
      intro E' hA K hK
      first
       | (go_big_quiet_op; first
          | (refine hK _ ?_; rfl)
          | (refine ⟨_, fun _ _ => rfl, ?_⟩; refine hK _ ?_; rfl)
          | (apply Exists.intro; refine ⟨fun w1 hw1 => ?_, ?_⟩; · (first
              | (go_at_call 36; exact Any.calls_VE (kR _ _ (hw1.baseR HMK.out) HB2.out HP2.out HA2.out) hw1)
              | (go_at_call 79; exact Any.calls_VE (kW _) hw1))
             refine hK _ ?_; rfl))
     case hD => rfl)
  | ((with_reducible refine Any.at_ealloc ?_); refine Any.E_lay rfl rfl rfl (fun _ => rfl) ?_; intro b11)
  | ((with_reducible refine Any.at_estore (T := 92) ?_); refine Any.E_putv (T := 92) rfl rfl rfl rfl rfl rfl 2 infoSp rfl rfl (by simp [Value.oneCell']) ?_)); simp only [Act.put, sia, scs, scz])
 try any_goals exact undef
 refine Any.fin2 hv [7, 1000, 1001] ?_; clear hv; intro w9 hv
 clear HMK
 have HO := Lib.hid hO
 have HN31 : Hid (∀ S : List SpV, S.length ≤ hn + 1 → ((cellsS (spV next l)).length + (cellsS S).length) / 2 ≤ maxLen) := Lib.hid (fun S hS => by have := HHN.out; have := HHL.out; rw [cellsS_len, cellsS_len]; unfold maxLen; omega)
 have HN32 : Hid (∀ S : List SpV, S.length ≤ hn + 1 → ((cellsS (spV next l)).length + (cellsS S).length) / 2 * 32 ≤ 140737488355328) := Lib.hid (fun S hS => by have := HHN.out; have := HHL.out; rw [cellsS_len, cellsS_len]; omega)
 clear hO
 go_wp2_with (first
   | ((with_reducible refine gLd 92 ?_); refine ldV hv b11 2 Try.underlying92 infoSp ?_)
   | (go_at_call 80; (with_reducible refine (fresh_any y ya m m yd ha hn hc (spV next l) _ _ _ _ hv (Mem.s HY.out) Mem.z (HS0.out _) (by have := HHN.out; have := HHL.out; omega) HSB.out HYB.out.1 HYB.out.2.1 HYB.out.2.2).mono ?_); rintro e w1 ⟨ua, un, uc, S, RF, rfl, hv1, hS1, hS2, hS3⟩; replace hv := hv1; clear hv1)
   | ((with_reducible refine at_append (t := 89) ?_); refine wl_appO (A := [_, _, _, _]) (B := L) rfl rfl HO.out hv (.agg #[.int .i64 0, .slice none 0 0]) 32 Try.underlying89 infoSpz rfl (by decide) rfl (hv.rd Mem.z) (cellsS_one _ (AllS.one hv (fun p hp => Mem.s (hS2 p hp)))) (HN31.out _ hS3) (HN32.out _ hS3) ?_; intro v2 w7 O2 hO2 hv1; replace hv := hv1; clear hv1; simp only [List.cons_append, List.nil_append] at hv))
 obtain ⟨A, hA⟩ : ∃ A, spV next l ++ S = A := ⟨_, rfl⟩
 have HOA : Hid (OwnL 2 v2 (cellsS A) O2) := Lib.hid (by rw [← hA, cellsS_app]; exact hO2)
 have HSA : Hid (spOf A = A0) := Lib.hid (by
   rw [← HA0.out, ← hA, spOf_ap, hS1]
   unfold allL
   rw [HWI.out, spOf_spV next bs l])
 have HAA : Hid (AllS ((2, .slice ua un uc, cellsS S) :: (RF ++ ((2, .slice ha hn hc, cellsS (spV next l)) :: R))) A) := Lib.hid (by
   rw [← hA]
   intro p hp
   rcases List.mem_append.1 hp with hp | hp
   · exact Mem.s (List.mem_append_right _ (HS0.out _ p hp))
   · exact Mem.s (hS2 p hp))
 have HAL0 : Hid (A.length ≤ 2001) := Lib.hid (by
   have := HHN.out; have := HHL.out
   rw [← hA, List.length_append]; omega)
 clear hO2 hS1 hS2 hS3 hA
 obtain ⟨va2, vn2, vc2, rfl, _⟩ := id HOA.out.slice
 replace hv := hv.drop.drop
 go_wp2
 refine Any.wr1 8 [(1, [1000], none), (3, [1000], none), (6, [], some 5), (7, [5], some 5)] [(6, .lay #[.int .u32 0, .slice none 0 0, .slice none 0 0]), (7, .put)] hv ?_
 simp only [Any.someVals]
 iterate 8 apply Exists.intro
 repeat ((first
  | refine Any.E_off rfl ?_
  | ((with_reducible refine Any.gE 22 ?_); refine Any.eC 1000 _ Try.underlying22 ?_)
  | ((with_reducible refine Any.gE 23 ?_); refine Any.eC 1000 _ Try.underlying23 ?_)
  | (apply Any.E_val rfl rfl rfl rfl
     case h =>
      intro E' hA K hK
      first
       | ((with_reducible refine Any.at_qbuild (T := 27) ?_); refine Any.q_build [(0, .int .u32 next), (1, .slice none 0 0)] rfl (built_str _ _ _ _) ?_; refine hK _ ?_; rfl)
       | (go_big_quiet_op; first
          | (refine hK _ ?_; rfl)
          | (refine ⟨_, fun _ _ => rfl, ?_⟩; refine hK _ ?_; rfl)
          | (apply Exists.intro; refine ⟨fun w1 hw1 => ?_, ?_⟩; · (first
              | (go_at_call 63; exact Any.calls_VEq (BClone_nil _) hw1))
             refine hK _ ?_; rfl))
     case hD => rfl)
  | ((with_reducible refine Any.at_ealloc ?_); refine Any.E_lay rfl rfl rfl (fun _ => rfl) ?_; intro b13)
  | ((with_reducible refine Any.at_estore (T := 27) ?_); refine Any.E_putv (T := 27) rfl rfl rfl rfl rfl rfl 3 infoStr rfl rfl (by simp [Value.oneCell']) ?_)); simp only [Act.put, sia, scs, scz])
 try any_goals exact undef
 refine Any.fin1 hv [5, 1000] ?_; clear hv; intro w9 hv
 have HOB0 : Hid (OwnL 1 (.slice none 0 0) (cellsB bs) []) := Lib.hid (by rw [HB0.out]; exact OwnL.nil 1)
 obtain ⟨Ob0, hOb⟩ : ∃ Ob0 : LV, [] = Ob0 := ⟨_, rfl⟩
 rw [show ∀ (a b c : Nat × Array Value), a :: b :: c :: (O2 ++ L) = a :: b :: c :: ([] ++ (O2 ++ L)) from fun _ _ _ => rfl, hOb] at hv
 rw [hOb] at HOB0
 clear hOb
 replace hv := hv.perm (perm_swap Ob0 O2 L _ _ _)
 obtain ⟨RN, hRN⟩ : ∃ RN, ((2, .slice ua un uc, cellsS S) :: (RF ++ ((2, .slice ha hn hc, cellsS (spV next l)) :: R))) = RN := ⟨_, rfl⟩
 have HRN := Lib.hid hRN
 rw [hRN] at hv HAA
 have HAC : Hid (∀ x ∈ spOf A, x.2 ≠ [] ∧ 0 ≤ x.1 ∧ x.1 + x.2.length ≤ 256) := Lib.hid (fun x hx => by
   rw [HSA.out, ← HA0.out] at hx
   have h1 := (all_cont HCK.out seq data).2.1 x hx
   have h2 := (chk_spans HCK.out).2.2
   exact ⟨h1.1, h1.2.1, by omega⟩)
 have HAB : Hid (∀ p ∈ A, -1000000000000 ≤ p.1 ∧ p.1 ≤ 1000000000000 ∧ p.2.2 ≠ []) := Lib.hid (fun p hp => by
   have h := HAC.out _ (spOf_mem hp)
   exact ⟨by have := h.2.1; simp only at this; omega, by have := h.2.2; have := h.2.1; simp only at *; omega, h.1⟩)
 have HAT : Hid (tot A ≤ 1000000) := Lib.hid (by
   have h1 := tot_le (l := A) (m := 256) (fun p hp => by have h := HAC.out _ (spOf_mem hp); have := h.2.1; have := h.2.2; simp only at *; omega)
   have := HAL0.out
   omega)
 have HAL : Hid (A.length ≤ 5000) := Lib.hid (by have := HAL0.out; omega)
 clear hRN HAC
 go_wp2_with (first
   | (go_at_call 81; (with_reducible refine (joined_any _ _ A _ _ _ _ hv HOA.out HAA.out HAL.out HAB.out HAT.out).mono ?_); rintro e w1 ⟨ja, jn, jc, J, RF2, srt, rfl, hv1, hJ1, hJ2, hJ3, hJ4, hJ5, hJ6⟩; replace hv := hv1; clear hv1))
 have HPE : Hid ((spOf srt).Perm A0) := Lib.hid (by rw [← HSA.out]; exact hJ2.map _)
 have HPW : Hid ((spOf srt).Pairwise fun x y => x.1 ≤ y.1) := Lib.hid (List.pairwise_map.2 hJ3)
 have HME := Lib.hid hJ4
 have HJO : Hid (∀ p ∈ J, 0 ≤ p.1 ∧ p.1 + p.2.2.length ≤ 256 ∧ p.2.2 ≠ []) := Lib.hid (fun p hp => by
   have := merge_ok HCK.out (seq := seq) (data := data) (by rw [HA0.out]; exact HPE.out) HPW.out (p.1, p.2.2) (by rw [← hJ4]; exact spOf_mem hp)
   exact this)
 have HJN := Lib.hid (len_rdS (hv.rd Mem.z))
 have hjn : jn ≤ 2001 := by have := HJN.out; have := HAL0.out; omega
 have HJA : Hid (AllS ((2, .slice ja jn jc, cellsS J) :: (RF2 ++ RN)) J) := Lib.hid (fun p hp => Mem.s (hJ1 p hp))
 obtain ⟨c, hc0⟩ : ∃ c, finT next next bs 0 [] J = c := ⟨_, rfl⟩
 have HC := Lib.hid hc0
 clear hJ1 hJ2 hJ3 hJ4 hJ5 hJ6 hc0
 go_loopw [14, 57] (fun nv i wr => ∃ (k n nx : Nat) (B : List Nat) (P : List PcV) (bv pv : Value) (Ob Op : LV), k ≤ jn ∧ i = .int .i64 k ∧ nv = .int .i64 n ∧ Hid (OwnL 1 bv (cellsB B) Ob) ∧ Hid (OwnL 2 pv (cellsP P) Op) ∧ Mem w0 wr ((b13, #[.int .u32 nx, bv, pv]) :: (b3, #[.int .u32 next, .slice none 0 0, .slice pa pn pc]) :: (b6, #[.int .u32 0, .slice none 0 0, .slice none 0 0]) :: (Ob ++ (Op ++ L))) ((2, .slice ja jn jc, cellsS J) :: (RF2 ++ RN)) ∧ Hid (AllP ((2, .slice ja jn jc, cellsS J) :: (RF2 ++ RN)) P) ∧ Hid (finT next nx B n P (J.drop k) = c) ∧ Hid (P.length ≤ k) ∧ Hid (B.length ≤ 256 + 256 * k) ∧ Hid (nx < 4294967296)) (fun _ i _ => jn - (intOf i).toNat)
 case atStart => exact ⟨0, 0, next, bs, [], _, _, Ob0, [], Nat.zero_le _, rfl, rfl, HOB0, Lib.hid (OwnL.nil 2), hv, Lib.hid (fun p hp => (List.not_mem_nil hp).elim), Lib.hid HC.out, Lib.hid (Nat.zero_le _), Lib.hid (by have := HBR.out; omega), HNX⟩
 case round =>
   clear hv
   obtain ⟨k, n, nx, B, P, bv, pv, Ob, Op, hk, rfl, rfl, HOB, HOP, hv, HAP, HEQ, HPK, HBK, HNN⟩ := hrel
   obtain ⟨bva, bvn, bvc, rfl, _⟩ := id HOB.out.slice
   obtain ⟨pva, pvn, pvc, rfl, _⟩ := id HOP.out.slice
   by_cases hk2 : k < jn
   · have hki : (k : Int) < (jn : Int) := by omega
     have hkb : (k : Int) ≤ 5000 := by omega
     have hkl : k < J.length := by rw [HJN.out]; exact hk2
     obtain ⟨⟨x, xv, xd⟩, hx⟩ : ∃ z, J[k] = z := ⟨_, rfl⟩
     have hdm := HJA.out J[k] (List.getElem_mem hkl)
     have hbm := HJO.out J[k] (List.getElem_mem hkl)
     rw [hx] at hdm hbm
     simp only at hdm hbm
     obtain ⟨xp, rfl⟩ : ∃ xp : Nat, x = (xp : Int) := ⟨x.toNat, by omega⟩
     obtain ⟨xa, xn, xc, rfl, _⟩ := id (hv.rd hdm)
     have hxn : xd.length = xn := len_rd1 (hv.rd hdm)
     have HXM := Lib.hid hdm
     have HXL := Lib.hid hxn
     have HK : Hid (((cellsS J).drop (k * 2)).take 2 = [.int .i64 (xp : Int), .slice xa xn xc]) := Lib.hid (by rw [cellsS_part J k hkl, hx])
     have HDK : Hid (J.drop k = ((xp : Int), .slice xa xn xc, xd) :: J.drop (k + 1)) := Lib.hid (by rw [List.drop_eq_getElem_cons hkl, hx])
     obtain ⟨jb, jo, _, _, e, _⟩ := (hv.rd Mem.z).some (by rw [cellsS_len]; omega)
     cases e
     have HKV : Hid (k < jn) := Lib.hid hk2
     have HJB : Hid (jn ≤ 2001) := Lib.hid hjn
     have hxp : xp ≤ 256 := by omega
     have hxn2 : xn ≤ 256 := by omega
     have q1 : IntKind.u32.wrap (xp : Int) = (xp : Int) := u32_nat (by omega)
     have q2 : IntKind.u32.wrap (xn : Int) = (xn : Int) := u32_nat (by omega)
     have q3 := u32_add next xp
     have q4 := u32_add nx xn
     clear hx hdm hkl hk2 hk hxn hbm
     by_cases hz : xp = 0
     · have y1 : ((xp : Int) == 0) = true := by rw [beq_iff_eq]; omega
       have HZ := Lib.hid hz
       have HB1 : Hid (((cellsB B).length + (cellsB xd).length) / 1 ≤ maxLen) := Lib.hid (by rw [cellsB_len, cellsB_len]; have := HBK.out; have := HXL.out; unfold maxLen; omega)
       have HB2 : Hid (((cellsB B).length + (cellsB xd).length) / 1 * 1 ≤ 140737488355328) := Lib.hid (by rw [cellsB_len, cellsB_len]; have := HBK.out; have := HXL.out; omega)
       clear hz
       go_wp2_with (first
         | ((with_reducible refine at_load (T := 92) ?_); refine wl_rdv rfl (hv.rd Mem.z) (k * 2) rfl 2 _ Try.underlying92 rfl infoSp (by decide) #[.int .i64 (xp : Int), .slice xa xn xc] HK.out rfl ?_)
         | ((with_reducible refine gAl 92 16 ?_); refine nwB hv #[.int .i64 0, .slice none 0 0] 92 ?_; clear hv; intro b16 w2 hv)
         | ((with_reducible refine gSt 92 ?_); refine stV hv b16 2 infoSp ?_; clear hv; intro w2 hv)
         | ((with_reducible refine gLd 3 ?_); refine ldC hv b16 0 _ Try.underlying3 ?_)
         | ((with_reducible refine gLd 23 ?_); refine ldC hv b16 1 _ Try.underlying23 ?_)
         | ((with_reducible refine gLd 23 ?_); refine ldC hv b13 1 _ Try.underlying23 ?_)
         | ((with_reducible refine gLd 22 ?_); refine ldC hv b13 0 _ Try.underlying22 ?_)
         | ((with_reducible refine at_append (t := 23) ?_); refine wl_appO (A := [_, _, _, _]) (B := Op ++ L) rfl rfl HOB.out hv (.int .u8 0) 1 Try.underlying23 info8z rfl (by decide) rfl (hv.rd HXM.out) (cellsB_one _) HB1.out HB2.out ?_; intro v2 w7 Ob2 hOb2 hv1; replace hv := hv1; clear hv1; obtain ⟨ua, un, uc, rfl, _⟩ := id hOb2.slice; replace hOb2 := Lib.hid hOb2; simp only [List.cons_append, List.nil_append] at hv)
         | ((with_reducible refine gSt 23 ?_); refine stC hv b13 1 (.slice ua un uc) ?_; clear hv; intro w2 hv)
         | ((with_reducible refine gSt 22 ?_); refine stC hv b13 0 (.int .u32 (((nx + xn) % 4294967296 : Nat) : Int)) ?_; clear hv; intro w2 hv))
       try rw [Exit.noGoto_ret]
       have hkv := HKV.out
       go_roundw
       case rel => exact ⟨k + 1, xn, (nx + xn) % 4294967296, B ++ xd, P, _, _, Ob2, Op, by omega, by go_num, rfl, Lib.hid (by rw [cellsB_app]; exact hOb2.out), HOP, hv.drop, HAP, Lib.hid (by
         have := HEQ.out
         rw [HDK.out, finT_zero (by show (xp : Int) = 0; have := HZ.out; omega)] at this
         simp only [HXL.out] at this
         exact this), Lib.hid (by have := HPK.out; omega), Lib.hid (by rw [List.length_append]; have := HBK.out; have := HXL.out; omega), Lib.hid (Nat.mod_lt _ (by decide))⟩
       case measure => simp [intOf]; omega
     · have y1 : ((xp : Int) == 0) = false := by rw [beq_eq_false_iff_ne]; omega
       have HZ := Lib.hid hz
       have HN1 : Hid (∀ z ∈ ([.int .u32 (((next + xp) % 4294967296 : Nat) : Int), .slice xa xn xc] : List Value), z.oneCell' = true) := Lib.hid (fun z hz => by
         rcases List.mem_cons.1 hz with rfl | hz
         · rfl
         · rw [List.mem_singleton.1 hz]; rfl)
       have HP1 : Hid (((cellsP P).length + ([.int .u32 (((next + xp) % 4294967296 : Nat) : Int), .slice xa xn xc] : List Value).length) / 2 ≤ maxLen) := Lib.hid (by rw [cellsP_len]; have := HPK.out; simp only [List.length_cons, List.length_nil]; unfold maxLen; omega)
       have HP2 : Hid (((cellsP P).length + ([.int .u32 (((next + xp) % 4294967296 : Nat) : Int), .slice xa xn xc] : List Value).length) / 2 * 32 ≤ 140737488355328) := Lib.hid (by rw [cellsP_len]; have := HPK.out; simp only [List.length_cons, List.length_nil]; omega)
       clear hz
       go_wp2_with (first
         | ((with_reducible refine at_load (T := 92) ?_); refine wl_rdv rfl (hv.rd Mem.z) (k * 2) rfl 2 _ Try.underlying92 rfl infoSp (by decide) #[.int .i64 (xp : Int), .slice xa xn xc] HK.out rfl ?_)
         | ((with_reducible refine gAl 92 16 ?_); refine nwB hv #[.int .i64 0, .slice none 0 0] 92 ?_; clear hv; intro b16 w2 hv)
         | ((with_reducible refine gSt 92 ?_); refine stV hv b16 2 infoSp ?_; clear hv; intro w2 hv)
         | ((with_reducible refine gLd 3 ?_); refine ldC hv b16 0 _ Try.underlying3 ?_)
         | ((with_reducible refine gLd 23 ?_); refine ldC hv b16 1 _ Try.underlying23 ?_)
         | ((with_reducible refine gLd 25 ?_); refine ldC hv b13 2 _ Try.underlying25 ?_)
         | ((with_reducible refine gLd 22 ?_); refine ldC hv b3 0 _ Try.underlying22 ?_)
         | ((with_reducible refine at_build (T := 95) ?_); refine wl_build rfl _ rfl (built_pc _ _ _ _) ?_)
         | ((with_reducible refine at_append (t := 25) ?_); replace hv := hv.bsl' (k := 2) (n := 1) (c := [.int .u32 (((next + xp) % 4294967296 : Nat) : Int), .slice xa xn xc]) ⟨rfl, made_alloc _ #[.int .u32 (((next + xp) % 4294967296 : Nat) : Int), .slice xa xn xc] 95⟩ rfl rfl (by unfold maxLen; omega); refine wl_appO rfl rfl HOP.out (re4 hv) (.agg #[.int .u32 0, .slice none 0 0]) 32 Try.underlying25 infoPcz rfl (by decide) rfl (hv.rd Mem.z) HN1.out HP1.out HP2.out ?_; intro v2 w7 Op2 hOp2 hv1; replace hv := hv1.dropR; clear hv1; obtain ⟨ua, un, uc, rfl, _⟩ := id hOp2.slice; replace hOp2 := Lib.hid hOp2; simp only [List.cons_append, List.nil_append, List.append_assoc] at hv)
         | ((with_reducible refine gSt 25 ?_); refine stC hv b13 2 (.slice ua un uc) ?_; clear hv; intro w2 hv))
       have hkv := HKV.out
       go_roundw
       case rel => exact ⟨k + 1, n, nx, B, P ++ [pcOf next ((xp : Int), .slice xa xn xc, xd)], _, _, Ob, Op2, by omega, by go_num, rfl, HOB, Lib.hid (by rw [cellsP_snoc]; exact hOp2.out), hv.drop, Lib.hid (fun p hp => by
         rcases List.mem_append.1 hp with hp | hp
         · exact HAP.out p hp
         · rw [List.mem_singleton.1 hp]; exact HXM.out), Lib.hid (by
         have := HEQ.out
         rw [HDK.out, finT_else (by show ¬ (xp : Int) = 0; have := HZ.out; omega)] at this
         exact this), Lib.hid (by rw [List.length_append, List.length_singleton]; have := HPK.out; omega), Lib.hid (by have := HBK.out; omega), HNN⟩
       case measure => simp [intOf]; omega
   · have hki : ¬ (k : Int) < (jn : Int) := by omega
     have HDE : Hid (J.drop k = []) := Lib.hid (List.drop_eq_nil_of_le (by rw [HJN.out]; omega))
     clear hk hk2
     go_wp2_with (first
       | ((with_reducible refine gLd 27 ?_); refine ldV hv b13 3 Try.underlying27 infoStr ?_)
       | ((with_reducible refine gSt 27 ?_); refine stV hv b6 3 infoStr ?_; clear hv; intro w2 hv))
     refine ret_cell2 Try.results73 rfl (read_row _ b6 27 _ hv.vars.ro 3 _ Try.underlying27 rfl infoStr (by decide) rfl) rfl rfl ?_
     refine ⟨nx, n, B, P, bva, pva, bvn, bvc, pvn, pvc, ?_⟩
     have hy1 := HOB.out.yield (A := []) (B := Op ++ L) hv.drop.drop.drop
     have hy2 := HOP.out.yield (A := []) (B := L) hy1
     rw [List.nil_append] at hy2
     have hfin : finT next next bs 0 [] J = (nx, B, n, P) := by
       have := HEQ.out
       rw [HDE.out] at this
       rw [HC.out, ← this]
       rfl
     rw [← HRN.out] at hy2 HAP
     refine ⟨(2, .slice ja jn jc, cellsS J) :: (RF2 ++ ((2, .slice ua un uc, cellsS S) :: (RF ++ [(2, .slice ha hn hc, cellsS (spV next l))]))), srt, J, rfl, hy2.keepR (fun z hz => ?_), HAP.out.mono (fun z hz => ?_), HPE.out, HPW.out, HME.out, hfin⟩
     · rcases List.mem_cons.1 hz with rfl | hz
       · exact Mem.s Mem.z
       rcases List.mem_cons.1 hz with rfl | hz
       · exact Mem.z
       · exact Mem.s (Mem.s (by simpa using hz))
     · simpa using hz
theorem take_nr (next : Nat) (ba : Addr) (pa : Option Addr) (bn bc pn pc : Nat) (bs : List Nat) (l : List PcV) (seq : Nat) (da : Option Addr) (dn dc : Nat) (w0 w : World) (L : LV) (R : LR) (hv0 : Mem w0 w L R) (hb : (1, .slice (some ba) bn bc, cellsB bs) ∈ R) (hp : (2, .slice pa pn pc, cellsP l) ∈ R) (hal : AllP R l) (hpn : pn ≤ 1000) (hbn : bs.length ≤ 1000000) (hdl : ∀ p ∈ l, p.2.2.length ≤ 1000000) (hck : chk (stOf next bs l) = true) (hdn : dn ≤ 4096) (hdc : dn ≤ dc) (da2 : Option Addr) (hsl : sliced da 0 dn dc 1 = .slice da2 dn dc) (data : List Nat) (hnx : next < 4294967296) (hwi : within (Wi.part (stOf next bs l) seq data) 0 (room (stOf next bs l)) = none) (kW : ∀ w', Calls Try.prog 79 #[.agg #[.int .i64 (dif seq next), .slice da2 dn dc], .int .i64 0, .int .i64 (room (stOf next bs l))] w' fun e w2 => e = .returned (.tuple #[.agg #[.int .i64 0, .slice none 0 0], .bool false]) ∧ New w' w2) :
   Calls Try.prog 73 #[.agg #[.int .u32 next, .slice (some ba) bn bc, .slice pa pn pc], .int .u32 seq, .slice da dn dc] w (TakeW w0 L R next bs (allL (stOf next bs l) seq data)) := by
 have hv := hv0
 have HBM := Lib.hid hb
 have HP := Lib.hid hp
 have HA := Lib.hid hal
 have HPN := Lib.hid hpn
 have kC : ∀ w' L' R', Mem w0 w' L' R' → (1, .slice (some ba) bn bc, cellsB bs) ∈ R' → (2, .slice pa pn pc, cellsP l) ∈ R' → AllP R' l → Calls Try.prog 41 #[.agg #[.int .u32 next, .slice (some ba) bn bc, .slice pa pn pc]] w' fun e w2 => e = .returned (.bool true) ∧ New w' w2 := fun w' L' R' h1 h2 h3 h4 => by
   have := Check_any next (some ba) pa bn bc pn pc bs l w0 w' L' R' h1 h2 h3 h4 hpn hbn hdl
   rwa [hck] at this
 have kR : ∀ w' R', Mem w' w' [] R' → (1, .slice (some ba) bn bc, cellsB bs) ∈ R' → (2, .slice pa pn pc, cellsP l) ∈ R' → AllP R' l → Calls Try.prog 36 #[.agg #[.int .u32 next, .slice (some ba) bn bc, .slice pa pn pc]] w' fun e w2 => e = .returned (.int .i64 (room (stOf next bs l))) ∧ New w' w2 := fun w' R' h1 h2 h3 h4 => Room_any next (some ba) pa bn bc pn pc bs l w' w' [] R' h1 h2 h3 h4 hpn hbn hdl
 have HHL : Hid ((spV next l).length ≤ 1000) := Lib.hid (by rw [spV, List.length_map, len_rdP (hv0.rd hp)]; exact hpn)
 have HS0 : Hid (∀ x, AllS (x :: R) (spV next l)) := Lib.hid (fun x => (spV_all hal).mono fun _ h => Mem.s h)
 have HSB : Hid (∀ p ∈ spV next l, -1000000000000 ≤ p.1 ∧ p.1 ≤ 900000000000 ∧ p.2.2.length ≤ 1000000) := Lib.hid (fun p hp => by
   obtain ⟨x, hx, rfl⟩ := List.mem_map.1 hp
   have h1 := dif_lo x.1 next
   have h2 := dif_hi x.1 next
   have h3 := hdl x hx
   exact ⟨by simp only; omega, by simp only; omega, h3⟩)
 have HSL := Lib.hid hsl
 have HDC := Lib.hid hdc
 have HCK := Lib.hid hck
 have HNX := Lib.hid hnx
 have HWI := Lib.hid hwi
 have hbl := len_rd1 (hv0.rd hb)
 have HBN6 : Hid (bn ≤ 1000000) := Lib.hid (by omega)
 have HBL := Lib.hid hbl
 have HBR := Lib.hid (show bs.length ≤ 256 from (chk_spans hck).2.2.2)
 have HWC : Hid (∃ u y, AppRow u 1 (cellsB bs) y) := Lib.hid (Any.AppRow.some (c := cellsB bs) (k := 1) (n := bn) (by rw [cellsB_len]; omega) (by unfold maxLen; omega))
 obtain ⟨ro, hro⟩ : ∃ ro, room (stOf next bs l) = ro := ⟨_, rfl⟩
 rw [hro] at kW kR
 obtain ⟨A0, hA0⟩ : ∃ A0, allL (stOf next bs l) seq data = A0 := ⟨_, rfl⟩
 rw [hA0]
 have HA0 := Lib.hid hA0
 have qmn : ¬ (4096 : Int) < (dn : Int) := by omega
 have qmn2 : (dn : Int) ≤ 4096 := by omega
 have qmn3 : min (dn : Int) 4096 = (dn : Int) := by omega
 clear hv0 hb hp hal hpn hbn hdl hck hsl hnx hwi hbl hro hA0
 go_enter Try.func73, Try.ntmps73
 go_wp2_with (first
   | ((with_reducible refine gBx 27 3 ?_); refine nwB hv #[.int .u32 next, .slice (some ba) bn bc, .slice pa pn pc] 27 ?_; clear hv; intro b3 w2 hv)
   | ((with_reducible refine gAl 27 6 ?_); refine nwB hv #[.int .u32 0, .slice none 0 0, .slice none 0 0] 27 ?_; clear hv; intro b6 w2 hv)
   | ((with_reducible refine gLd 27 ?_); refine ldV hv b3 3 Try.underlying27 infoStr ?_)
   | (go_at_call 41; (with_reducible refine (kC _ _ _ hv HBM.out HP.out HA.out).mono ?_); rintro e w1 ⟨rfl, hn1⟩; replace hv := hv.new hn1; clear hn1)
   | (go_at_call 64; (with_reducible refine (spans_any next (some ba) pa bn bc pn pc l _ _ _ _ hv HP.out HA.out HPN.out).mono ?_); rintro e w1 ⟨ha, hn, hc, rfl, hv1⟩; have HHN := Lib.hid (len_rdS (hv1.rd Mem.z)); replace hv := hv1; clear hv1)
   | (go_at_call 78; (with_reducible refine (SClone_own _ _ _ _ _ _ _ _ hv Mem.z (cellsS_one _ (AllS.one hv (HS0.out _))) (by have := HHN.out; have := HHL.out; omega)).mono ?_); rintro e w1 ⟨v, O, rfl, hO, hv1⟩; replace hv := hv1.perm (perm_own O L _ _); clear hv1; obtain ⟨va, vn, vc, rfl, _⟩ := id hO.slice))
 refine Any.wr1 12 [(2, [1000], none), (10, [], some 7), (11, [7], some 7)] [(10, .lay #[.int .i64 0, .slice none 0 0]), (11, .put)] hv ?_
 simp only [Any.someVals]
 iterate 12 apply Exists.intro
 repeat ((first
  | refine Any.E_off rfl ?_
  | ((with_reducible refine Any.gE 22 ?_); refine Any.eC 1000 _ Try.underlying22 ?_)
  | (apply Any.E_val rfl rfl rfl rfl
     case h =>
      intro E' hA K hK
      first
       | ((with_reducible refine Any.at_qslice (T := 23) ?_); refine Any.q_slice rfl Try.underlying23 infoB1 none (some (.int .i64 dn)) none rfl rfl rfl 0 dn dc (fun w => bounds_h HDC.out) HSL.out ?_; refine hK _ ?_; rfl)
       | ((with_reducible refine Any.at_qbuild (T := 92) ?_); refine Any.q_build [(0, .int .i64 (dif seq next)), (1, .slice da2 dn dc)] rfl (built_sp _ _ _ _) ?_; refine hK _ ?_; rfl)
       | (go_big_quiet_op; first
          | (refine hK _ ?_; rfl)
          | (refine ⟨_, fun _ _ => rfl, ?_⟩; refine hK _ ?_; rfl)
          | (apply Exists.intro; refine ⟨fun w1 hw1 => ?_, ?_⟩; · (first
              | (go_at_call 68; exact Any.calls_VEq (Diff_any _ _ _) hw1))
             refine hK _ ?_; rfl))
     case hD => rfl)
  | ((with_reducible refine Any.at_ealloc ?_); refine Any.E_lay rfl rfl rfl (fun _ => rfl) ?_; intro b10)
  | ((with_reducible refine Any.at_estore (T := 92) ?_); refine Any.E_putv (T := 92) rfl rfl rfl rfl rfl rfl 2 infoSp rfl rfl (by simp [Value.oneCell']) ?_)); simp only [Act.put, sia, scs, scz])
 try any_goals exact undef
 refine Any.fin1 hv [7, 1000] ?_; clear hv; intro w9 hv
 go_wp2
 have HMK := Lib.hid (hv.keep (List.sublist_append_left [(b10, #[.int .i64 (dif seq next), .slice da2 dn dc]), (b3, #[.int .u32 next, .slice (some ba) bn bc, .slice pa pn pc])] ((b6, #[.int .u32 0, .slice none 0 0, .slice none 0 0]) :: (O ++ L))))
 have HB2 : Hid ((1, .slice (some ba) bn bc, cellsB bs) ∈ ((2, .slice ha hn hc, cellsS (spV next l)) :: R)) := Lib.hid (Mem.s HBM.out)
 have HP2 : Hid ((2, .slice pa pn pc, cellsP l) ∈ ((2, .slice ha hn hc, cellsS (spV next l)) :: R)) := Lib.hid (Mem.s HP.out)
 have HA2 : Hid (AllP ((2, .slice ha hn hc, cellsS (spV next l)) :: R) l) := Lib.hid (HA.out.mono fun _ h => Mem.s h)
 refine Any.wr2 10 [(0, [1000], none), (1, [1001], none), (7, [], some 7), (8, [7], some 7)] [(7, .lay #[.int .i64 0, .slice none 0 0]), (8, .put)] hv ?_
 simp only [Any.someVals]
 iterate 10 apply Exists.intro
 repeat ((first
  | refine Any.E_off rfl ?_
  | ((with_reducible refine Any.gE 92 ?_); refine Any.eW 1000 2 Try.underlying92 infoSp ?_)
  | ((with_reducible refine Any.gE 27 ?_); refine Any.eW 1001 3 Try.underlying27 infoStr ?_)
  | (apply Any.E_val rfl rfl rfl rfl
     case h =>
      intro E' hA K hK
      first
       | (go_big_quiet_op; first
          | (refine hK _ ?_; rfl)
          | (refine ⟨_, fun _ _ => rfl, ?_⟩; refine hK _ ?_; rfl)
          | (apply Exists.intro; refine ⟨fun w1 hw1 => ?_, ?_⟩; · (first
              | (go_at_call 36; exact Any.calls_VE (kR _ _ (hw1.baseR HMK.out) HB2.out HP2.out HA2.out) hw1)
              | (go_at_call 79; exact Any.calls_VE (kW _) hw1))
             refine hK _ ?_; rfl))
     case hD => rfl)
  | ((with_reducible refine Any.at_ealloc ?_); refine Any.E_lay rfl rfl rfl (fun _ => rfl) ?_; intro b11)
  | ((with_reducible refine Any.at_estore (T := 92) ?_); refine Any.E_putv (T := 92) rfl rfl rfl rfl rfl rfl 2 infoSp rfl rfl (by simp [Value.oneCell']) ?_)); simp only [Act.put, sia, scs, scz])
 try any_goals exact undef
 refine Any.fin2 hv [7, 1000, 1001] ?_; clear hv; intro w9 hv
 clear HMK
 obtain ⟨A, hA⟩ : ∃ A, spV next l = A := ⟨_, rfl⟩
 obtain ⟨O2, hO2⟩ : ∃ O2, O = O2 := ⟨_, rfl⟩
 subst hO2
 have HOA : Hid (OwnL 2 (.slice va vn vc) (cellsS A) O) := Lib.hid (by rw [← hA]; exact hO)
 have HSA : Hid (spOf A = A0) := Lib.hid (by
   rw [← HA0.out, ← hA]
   unfold allL
   rw [HWI.out, spOf_spV next bs l, List.append_nil])
 have HAA : Hid (AllS ((2, .slice ha hn hc, cellsS (spV next l)) :: R) A) := Lib.hid (by
   rw [← hA]
   exact HS0.out _)
 have HAL0 : Hid (A.length ≤ 2001) := Lib.hid (by
   have := HHL.out
   rw [← hA]; omega)
 clear hO hA
 replace hv := hv.drop.drop
 have HXD := Lib.hid (Any.rd_start (hv.keep (List.sublist_append_left [(b3, #[.int .u32 next, .slice (some ba) bn bc, .slice pa pn pc])] ((b6, #[.int .u32 0, .slice none 0 0, .slice none 0 0]) :: (O ++ L)))) (show (1, .slice (some ba) bn bc, cellsB bs) ∈ ((2, .slice ha hn hc, cellsS (spV next l)) :: R) from HB2.out))
 go_wp2
 refine Any.wr1 8 [(1, [1000], none), (3, [1000], none), (4, [], some 6), (6, [], some 5), (7, [5], some 5)] [(4, .own (fun u y => AppRow u 1 (cellsB bs) y)), (5, .pure), (6, .lay #[.int .u32 0, .slice none 0 0, .slice none 0 0]), (7, .put)] hv ?_
 simp only [Any.someVals]
 iterate 8 apply Exists.intro
 repeat ((first
  | refine Any.E_off rfl ?_
  | refine Any.ePq ?_
  | ((with_reducible refine Any.gE 22 ?_); refine Any.eC 1000 _ Try.underlying22 ?_)
  | ((with_reducible refine Any.gE 23 ?_); refine Any.eC 1000 _ Try.underlying23 ?_)
  | refine Any.eV ?_
  | ((with_reducible refine Any.at_ealloc ?_); refine Any.E_lay rfl rfl rfl (fun _ => rfl) ?_; intro b13)
  | ((with_reducible refine Any.at_ecall ?_); refine Any.E_callownA (W := fun u y => AppRow u 1 (cellsB bs) y) rfl rfl rfl (Go.Proofs.enters_of Try.func63 (by kernel_rfl) rfl) rfl [.slice (some ba) bn bc] rfl HWC.out (fun E' _ w1 hw1 => BClone_row ba bn bc (cellsB bs) w1 (hw1.rdold HXD.out.1 HXD.out.2) (cellsB_one _) HBN6.out) ?_; intro v9 x9 hW9; obtain ⟨n9, c9, rfl, g9⟩ := id hW9; replace g9 := Lib.hid g9; replace hW9 := Lib.hid hW9)
  | ((with_reducible refine Any.at_ebuild (T := 27) ?_); refine Any.E_build rfl rfl rfl _ rfl (built_str _ _ _ _) ?_)
  | ((with_reducible refine Any.at_estore (T := 27) ?_); refine Any.E_putv (T := 27) rfl rfl rfl rfl rfl rfl 3 infoStr rfl rfl (by simp [Value.oneCell']) ?_)); simp only [Act.put, sia, scs, scz])
 try any_goals exact undef
 refine Any.fin1 hv [5, 6, 1000] ?_; clear hv; intro w9 hv
 replace hv := hv.perm (perm_x9 _ x9 _ _ _)
 have HOB0 : Hid (OwnL 1 (.slice (some ⟨x9.1, 0, none⟩) n9 c9) (cellsB bs) [x9]) := Lib.hid (OwnL.row hW9.out)
 obtain ⟨Ob0, hOb⟩ : ∃ Ob0, [x9] = Ob0 := ⟨_, rfl⟩
 rw [show ∀ (a b c : Nat × Array Value), a :: b :: c :: x9 :: (O ++ L) = a :: b :: c :: ([x9] ++ (O ++ L)) from fun _ _ _ => rfl, hOb] at hv
 rw [hOb] at HOB0
 clear hOb
 replace hv := hv.perm (perm_swap Ob0 O L _ _ _)
 obtain ⟨RN, hRN⟩ : ∃ RN, ((2, .slice ha hn hc, cellsS (spV next l)) :: R) = RN := ⟨_, rfl⟩
 have HRN := Lib.hid hRN
 rw [hRN] at hv HAA
 have HAC : Hid (∀ x ∈ spOf A, x.2 ≠ [] ∧ 0 ≤ x.1 ∧ x.1 + x.2.length ≤ 256) := Lib.hid (fun x hx => by
   rw [HSA.out, ← HA0.out] at hx
   have h1 := (all_cont HCK.out seq data).2.1 x hx
   have h2 := (chk_spans HCK.out).2.2
   exact ⟨h1.1, h1.2.1, by omega⟩)
 have HAB : Hid (∀ p ∈ A, -1000000000000 ≤ p.1 ∧ p.1 ≤ 1000000000000 ∧ p.2.2 ≠ []) := Lib.hid (fun p hp => by
   have h := HAC.out _ (spOf_mem hp)
   exact ⟨by have := h.2.1; simp only at this; omega, by have := h.2.2; have := h.2.1; simp only at *; omega, h.1⟩)
 have HAT : Hid (tot A ≤ 1000000) := Lib.hid (by
   have h1 := tot_le (l := A) (m := 256) (fun p hp => by have h := HAC.out _ (spOf_mem hp); have := h.2.1; have := h.2.2; simp only at *; omega)
   have := HAL0.out
   omega)
 have HAL : Hid (A.length ≤ 5000) := Lib.hid (by have := HAL0.out; omega)
 clear hRN HAC
 go_wp2_with (first
   | (go_at_call 81; (with_reducible refine (joined_any _ _ A _ _ _ _ hv HOA.out HAA.out HAL.out HAB.out HAT.out).mono ?_); rintro e w1 ⟨ja, jn, jc, J, RF2, srt, rfl, hv1, hJ1, hJ2, hJ3, hJ4, hJ5, hJ6⟩; replace hv := hv1; clear hv1))
 have HPE : Hid ((spOf srt).Perm A0) := Lib.hid (by rw [← HSA.out]; exact hJ2.map _)
 have HPW : Hid ((spOf srt).Pairwise fun x y => x.1 ≤ y.1) := Lib.hid (List.pairwise_map.2 hJ3)
 have HME := Lib.hid hJ4
 have HJO : Hid (∀ p ∈ J, 0 ≤ p.1 ∧ p.1 + p.2.2.length ≤ 256 ∧ p.2.2 ≠ []) := Lib.hid (fun p hp => by
   have := merge_ok HCK.out (seq := seq) (data := data) (by rw [HA0.out]; exact HPE.out) HPW.out (p.1, p.2.2) (by rw [← hJ4]; exact spOf_mem hp)
   exact this)
 have HJN := Lib.hid (len_rdS (hv.rd Mem.z))
 have hjn : jn ≤ 2001 := by have := HJN.out; have := HAL0.out; omega
 have HJA : Hid (AllS ((2, .slice ja jn jc, cellsS J) :: (RF2 ++ RN)) J) := Lib.hid (fun p hp => Mem.s (hJ1 p hp))
 obtain ⟨c, hc0⟩ : ∃ c, finT next next bs 0 [] J = c := ⟨_, rfl⟩
 have HC := Lib.hid hc0
 clear hJ1 hJ2 hJ3 hJ4 hJ5 hJ6 hc0
 go_loopw [14, 57] (fun nv i wr => ∃ (k n nx : Nat) (B : List Nat) (P : List PcV) (bv pv : Value) (Ob Op : LV), k ≤ jn ∧ i = .int .i64 k ∧ nv = .int .i64 n ∧ Hid (OwnL 1 bv (cellsB B) Ob) ∧ Hid (OwnL 2 pv (cellsP P) Op) ∧ Mem w0 wr ((b13, #[.int .u32 nx, bv, pv]) :: (b3, #[.int .u32 next, .slice (some ba) bn bc, .slice pa pn pc]) :: (b6, #[.int .u32 0, .slice none 0 0, .slice none 0 0]) :: (Ob ++ (Op ++ L))) ((2, .slice ja jn jc, cellsS J) :: (RF2 ++ RN)) ∧ Hid (AllP ((2, .slice ja jn jc, cellsS J) :: (RF2 ++ RN)) P) ∧ Hid (finT next nx B n P (J.drop k) = c) ∧ Hid (P.length ≤ k) ∧ Hid (B.length ≤ 256 + 256 * k) ∧ Hid (nx < 4294967296)) (fun _ i _ => jn - (intOf i).toNat)
 case atStart => exact ⟨0, 0, next, bs, [], _, _, Ob0, [], Nat.zero_le _, rfl, rfl, HOB0, Lib.hid (OwnL.nil 2), hv, Lib.hid (fun p hp => (List.not_mem_nil hp).elim), Lib.hid HC.out, Lib.hid (Nat.zero_le _), Lib.hid (by have := HBR.out; omega), HNX⟩
 case round =>
   clear hv
   obtain ⟨k, n, nx, B, P, bv, pv, Ob, Op, hk, rfl, rfl, HOB, HOP, hv, HAP, HEQ, HPK, HBK, HNN⟩ := hrel
   obtain ⟨bva, bvn, bvc, rfl, _⟩ := id HOB.out.slice
   obtain ⟨pva, pvn, pvc, rfl, _⟩ := id HOP.out.slice
   by_cases hk2 : k < jn
   · have hki : (k : Int) < (jn : Int) := by omega
     have hkb : (k : Int) ≤ 5000 := by omega
     have hkl : k < J.length := by rw [HJN.out]; exact hk2
     obtain ⟨⟨x, xv, xd⟩, hx⟩ : ∃ z, J[k] = z := ⟨_, rfl⟩
     have hdm := HJA.out J[k] (List.getElem_mem hkl)
     have hbm := HJO.out J[k] (List.getElem_mem hkl)
     rw [hx] at hdm hbm
     simp only at hdm hbm
     obtain ⟨xp, rfl⟩ : ∃ xp : Nat, x = (xp : Int) := ⟨x.toNat, by omega⟩
     obtain ⟨xa, xn, xc, rfl, _⟩ := id (hv.rd hdm)
     have hxn : xd.length = xn := len_rd1 (hv.rd hdm)
     have HXM := Lib.hid hdm
     have HXL := Lib.hid hxn
     have HK : Hid (((cellsS J).drop (k * 2)).take 2 = [.int .i64 (xp : Int), .slice xa xn xc]) := Lib.hid (by rw [cellsS_part J k hkl, hx])
     have HDK : Hid (J.drop k = ((xp : Int), .slice xa xn xc, xd) :: J.drop (k + 1)) := Lib.hid (by rw [List.drop_eq_getElem_cons hkl, hx])
     obtain ⟨jb, jo, _, _, e, _⟩ := (hv.rd Mem.z).some (by rw [cellsS_len]; omega)
     cases e
     have HKV : Hid (k < jn) := Lib.hid hk2
     have HJB : Hid (jn ≤ 2001) := Lib.hid hjn
     have hxp : xp ≤ 256 := by omega
     have hxn2 : xn ≤ 256 := by omega
     have q1 : IntKind.u32.wrap (xp : Int) = (xp : Int) := u32_nat (by omega)
     have q2 : IntKind.u32.wrap (xn : Int) = (xn : Int) := u32_nat (by omega)
     have q3 := u32_add next xp
     have q4 := u32_add nx xn
     clear hx hdm hkl hk2 hk hxn hbm
     by_cases hz : xp = 0
     · have y1 : ((xp : Int) == 0) = true := by rw [beq_iff_eq]; omega
       have HZ := Lib.hid hz
       have HB1 : Hid (((cellsB B).length + (cellsB xd).length) / 1 ≤ maxLen) := Lib.hid (by rw [cellsB_len, cellsB_len]; have := HBK.out; have := HXL.out; unfold maxLen; omega)
       have HB2 : Hid (((cellsB B).length + (cellsB xd).length) / 1 * 1 ≤ 140737488355328) := Lib.hid (by rw [cellsB_len, cellsB_len]; have := HBK.out; have := HXL.out; omega)
       clear hz
       go_wp2_with (first
         | ((with_reducible refine at_load (T := 92) ?_); refine wl_rdv rfl (hv.rd Mem.z) (k * 2) rfl 2 _ Try.underlying92 rfl infoSp (by decide) #[.int .i64 (xp : Int), .slice xa xn xc] HK.out rfl ?_)
         | ((with_reducible refine gAl 92 16 ?_); refine nwB hv #[.int .i64 0, .slice none 0 0] 92 ?_; clear hv; intro b16 w2 hv)
         | ((with_reducible refine gSt 92 ?_); refine stV hv b16 2 infoSp ?_; clear hv; intro w2 hv)
         | ((with_reducible refine gLd 3 ?_); refine ldC hv b16 0 _ Try.underlying3 ?_)
         | ((with_reducible refine gLd 23 ?_); refine ldC hv b16 1 _ Try.underlying23 ?_)
         | ((with_reducible refine gLd 23 ?_); refine ldC hv b13 1 _ Try.underlying23 ?_)
         | ((with_reducible refine gLd 22 ?_); refine ldC hv b13 0 _ Try.underlying22 ?_)
         | ((with_reducible refine at_append (t := 23) ?_); refine wl_appO (A := [_, _, _, _]) (B := Op ++ L) rfl rfl HOB.out hv (.int .u8 0) 1 Try.underlying23 info8z rfl (by decide) rfl (hv.rd HXM.out) (cellsB_one _) HB1.out HB2.out ?_; intro v2 w7 Ob2 hOb2 hv1; replace hv := hv1; clear hv1; obtain ⟨ua, un, uc, rfl, _⟩ := id hOb2.slice; replace hOb2 := Lib.hid hOb2; simp only [List.cons_append, List.nil_append] at hv)
         | ((with_reducible refine gSt 23 ?_); refine stC hv b13 1 (.slice ua un uc) ?_; clear hv; intro w2 hv)
         | ((with_reducible refine gSt 22 ?_); refine stC hv b13 0 (.int .u32 (((nx + xn) % 4294967296 : Nat) : Int)) ?_; clear hv; intro w2 hv))
       try rw [Exit.noGoto_ret]
       have hkv := HKV.out
       go_roundw
       case rel => exact ⟨k + 1, xn, (nx + xn) % 4294967296, B ++ xd, P, _, _, Ob2, Op, by omega, by go_num, rfl, Lib.hid (by rw [cellsB_app]; exact hOb2.out), HOP, hv.drop, HAP, Lib.hid (by
         have := HEQ.out
         rw [HDK.out, finT_zero (by show (xp : Int) = 0; have := HZ.out; omega)] at this
         simp only [HXL.out] at this
         exact this), Lib.hid (by have := HPK.out; omega), Lib.hid (by rw [List.length_append]; have := HBK.out; have := HXL.out; omega), Lib.hid (Nat.mod_lt _ (by decide))⟩
       case measure => simp [intOf]; omega
     · have y1 : ((xp : Int) == 0) = false := by rw [beq_eq_false_iff_ne]; omega
       have HZ := Lib.hid hz
       have HN1 : Hid (∀ z ∈ ([.int .u32 (((next + xp) % 4294967296 : Nat) : Int), .slice xa xn xc] : List Value), z.oneCell' = true) := Lib.hid (fun z hz => by
         rcases List.mem_cons.1 hz with rfl | hz
         · rfl
         · rw [List.mem_singleton.1 hz]; rfl)
       have HP1 : Hid (((cellsP P).length + ([.int .u32 (((next + xp) % 4294967296 : Nat) : Int), .slice xa xn xc] : List Value).length) / 2 ≤ maxLen) := Lib.hid (by rw [cellsP_len]; have := HPK.out; simp only [List.length_cons, List.length_nil]; unfold maxLen; omega)
       have HP2 : Hid (((cellsP P).length + ([.int .u32 (((next + xp) % 4294967296 : Nat) : Int), .slice xa xn xc] : List Value).length) / 2 * 32 ≤ 140737488355328) := Lib.hid (by rw [cellsP_len]; have := HPK.out; simp only [List.length_cons, List.length_nil]; omega)
       clear hz
       go_wp2_with (first
         | ((with_reducible refine at_load (T := 92) ?_); refine wl_rdv rfl (hv.rd Mem.z) (k * 2) rfl 2 _ Try.underlying92 rfl infoSp (by decide) #[.int .i64 (xp : Int), .slice xa xn xc] HK.out rfl ?_)
         | ((with_reducible refine gAl 92 16 ?_); refine nwB hv #[.int .i64 0, .slice none 0 0] 92 ?_; clear hv; intro b16 w2 hv)
         | ((with_reducible refine gSt 92 ?_); refine stV hv b16 2 infoSp ?_; clear hv; intro w2 hv)
         | ((with_reducible refine gLd 3 ?_); refine ldC hv b16 0 _ Try.underlying3 ?_)
         | ((with_reducible refine gLd 23 ?_); refine ldC hv b16 1 _ Try.underlying23 ?_)
         | ((with_reducible refine gLd 25 ?_); refine ldC hv b13 2 _ Try.underlying25 ?_)
         | ((with_reducible refine gLd 22 ?_); refine ldC hv b3 0 _ Try.underlying22 ?_)
         | ((with_reducible refine at_build (T := 95) ?_); refine wl_build rfl _ rfl (built_pc _ _ _ _) ?_)
         | ((with_reducible refine at_append (t := 25) ?_); replace hv := hv.bsl' (k := 2) (n := 1) (c := [.int .u32 (((next + xp) % 4294967296 : Nat) : Int), .slice xa xn xc]) ⟨rfl, made_alloc _ #[.int .u32 (((next + xp) % 4294967296 : Nat) : Int), .slice xa xn xc] 95⟩ rfl rfl (by unfold maxLen; omega); refine wl_appO rfl rfl HOP.out (re4 hv) (.agg #[.int .u32 0, .slice none 0 0]) 32 Try.underlying25 infoPcz rfl (by decide) rfl (hv.rd Mem.z) HN1.out HP1.out HP2.out ?_; intro v2 w7 Op2 hOp2 hv1; replace hv := hv1.dropR; clear hv1; obtain ⟨ua, un, uc, rfl, _⟩ := id hOp2.slice; replace hOp2 := Lib.hid hOp2; simp only [List.cons_append, List.nil_append, List.append_assoc] at hv)
         | ((with_reducible refine gSt 25 ?_); refine stC hv b13 2 (.slice ua un uc) ?_; clear hv; intro w2 hv))
       have hkv := HKV.out
       go_roundw
       case rel => exact ⟨k + 1, n, nx, B, P ++ [pcOf next ((xp : Int), .slice xa xn xc, xd)], _, _, Ob, Op2, by omega, by go_num, rfl, HOB, Lib.hid (by rw [cellsP_snoc]; exact hOp2.out), hv.drop, Lib.hid (fun p hp => by
         rcases List.mem_append.1 hp with hp | hp
         · exact HAP.out p hp
         · rw [List.mem_singleton.1 hp]; exact HXM.out), Lib.hid (by
         have := HEQ.out
         rw [HDK.out, finT_else (by show ¬ (xp : Int) = 0; have := HZ.out; omega)] at this
         exact this), Lib.hid (by rw [List.length_append, List.length_singleton]; have := HPK.out; omega), Lib.hid (by have := HBK.out; omega), HNN⟩
       case measure => simp [intOf]; omega
   · have hki : ¬ (k : Int) < (jn : Int) := by omega
     have HDE : Hid (J.drop k = []) := Lib.hid (List.drop_eq_nil_of_le (by rw [HJN.out]; omega))
     clear hk hk2
     go_wp2_with (first
       | ((with_reducible refine gLd 27 ?_); refine ldV hv b13 3 Try.underlying27 infoStr ?_)
       | ((with_reducible refine gSt 27 ?_); refine stV hv b6 3 infoStr ?_; clear hv; intro w2 hv))
     refine ret_cell2 Try.results73 rfl (read_row _ b6 27 _ hv.vars.ro 3 _ Try.underlying27 rfl infoStr (by decide) rfl) rfl rfl ?_
     refine ⟨nx, n, B, P, bva, pva, bvn, bvc, pvn, pvc, ?_⟩
     have hy1 := HOB.out.yield (A := []) (B := Op ++ L) hv.drop.drop.drop
     have hy2 := HOP.out.yield (A := []) (B := L) hy1
     rw [List.nil_append] at hy2
     have hfin : finT next next bs 0 [] J = (nx, B, n, P) := by
       have := HEQ.out
       rw [HDE.out] at this
       rw [HC.out, ← this]
       rfl
     rw [← HRN.out] at hy2 HAP
     refine ⟨(2, .slice ja jn jc, cellsS J) :: (RF2 ++ [(2, .slice ha hn hc, cellsS (spV next l))]), srt, J, rfl, hy2.keepR (fun z hz => ?_), HAP.out.mono (fun z hz => ?_), HPE.out, HPW.out, HME.out, hfin⟩
     · rcases List.mem_cons.1 hz with rfl | hz
       · exact Mem.s Mem.z
       rcases List.mem_cons.1 hz with rfl | hz
       · exact Mem.z
       · exact Mem.s (Mem.s (by simpa using hz))
     · simpa using hz
theorem take_nn (next : Nat) (pa : Option Addr) (pn pc : Nat) (bs : List Nat) (l : List PcV) (seq : Nat) (da : Option Addr) (dn dc : Nat) (w0 w : World) (L : LV) (R : LR) (hv0 : Mem w0 w L R) (hb : (1, .slice none 0 0, cellsB bs) ∈ R) (hp : (2, .slice pa pn pc, cellsP l) ∈ R) (hal : AllP R l) (hpn : pn ≤ 1000) (hbn : bs.length ≤ 1000000) (hdl : ∀ p ∈ l, p.2.2.length ≤ 1000000) (hck : chk (stOf next bs l) = true) (hdn : dn ≤ 4096) (hdc : dn ≤ dc) (da2 : Option Addr) (hsl : sliced da 0 dn dc 1 = .slice da2 dn dc) (data : List Nat) (hnx : next < 4294967296) (hwi : within (Wi.part (stOf next bs l) seq data) 0 (room (stOf next bs l)) = none) (kW : ∀ w', Calls Try.prog 79 #[.agg #[.int .i64 (dif seq next), .slice da2 dn dc], .int .i64 0, .int .i64 (room (stOf next bs l))] w' fun e w2 => e = .returned (.tuple #[.agg #[.int .i64 0, .slice none 0 0], .bool false]) ∧ New w' w2) :
   Calls Try.prog 73 #[.agg #[.int .u32 next, .slice none 0 0, .slice pa pn pc], .int .u32 seq, .slice da dn dc] w (TakeW w0 L R next bs (allL (stOf next bs l) seq data)) := by
 have hv := hv0
 have HBM := Lib.hid hb
 have HP := Lib.hid hp
 have HA := Lib.hid hal
 have HPN := Lib.hid hpn
 have kC : ∀ w' L' R', Mem w0 w' L' R' → (1, .slice none 0 0, cellsB bs) ∈ R' → (2, .slice pa pn pc, cellsP l) ∈ R' → AllP R' l → Calls Try.prog 41 #[.agg #[.int .u32 next, .slice none 0 0, .slice pa pn pc]] w' fun e w2 => e = .returned (.bool true) ∧ New w' w2 := fun w' L' R' h1 h2 h3 h4 => by
   have := Check_any next none pa 0 0 pn pc bs l w0 w' L' R' h1 h2 h3 h4 hpn hbn hdl
   rwa [hck] at this
 have kR : ∀ w' R', Mem w' w' [] R' → (1, .slice none 0 0, cellsB bs) ∈ R' → (2, .slice pa pn pc, cellsP l) ∈ R' → AllP R' l → Calls Try.prog 36 #[.agg #[.int .u32 next, .slice none 0 0, .slice pa pn pc]] w' fun e w2 => e = .returned (.int .i64 (room (stOf next bs l))) ∧ New w' w2 := fun w' R' h1 h2 h3 h4 => Room_any next none pa 0 0 pn pc bs l w' w' [] R' h1 h2 h3 h4 hpn hbn hdl
 have HHL : Hid ((spV next l).length ≤ 1000) := Lib.hid (by rw [spV, List.length_map, len_rdP (hv0.rd hp)]; exact hpn)
 have HS0 : Hid (∀ x, AllS (x :: R) (spV next l)) := Lib.hid (fun x => (spV_all hal).mono fun _ h => Mem.s h)
 have HSB : Hid (∀ p ∈ spV next l, -1000000000000 ≤ p.1 ∧ p.1 ≤ 900000000000 ∧ p.2.2.length ≤ 1000000) := Lib.hid (fun p hp => by
   obtain ⟨x, hx, rfl⟩ := List.mem_map.1 hp
   have h1 := dif_lo x.1 next
   have h2 := dif_hi x.1 next
   have h3 := hdl x hx
   exact ⟨by simp only; omega, by simp only; omega, h3⟩)
 have HSL := Lib.hid hsl
 have HDC := Lib.hid hdc
 have HCK := Lib.hid hck
 have HNX := Lib.hid hnx
 have HWI := Lib.hid hwi
 have hbl := len_rd1 (hv0.rd hb)
 have HBN6 : Hid (0 ≤ 1000000) := Lib.hid (by omega)
 have HBL := Lib.hid hbl
 have HBR := Lib.hid (show bs.length ≤ 256 from (chk_spans hck).2.2.2)
 have HB0 : Hid (bs = []) := Lib.hid (List.length_eq_zero_iff.1 hbl)
 obtain ⟨ro, hro⟩ : ∃ ro, room (stOf next bs l) = ro := ⟨_, rfl⟩
 rw [hro] at kW kR
 obtain ⟨A0, hA0⟩ : ∃ A0, allL (stOf next bs l) seq data = A0 := ⟨_, rfl⟩
 rw [hA0]
 have HA0 := Lib.hid hA0
 have qmn : ¬ (4096 : Int) < (dn : Int) := by omega
 have qmn2 : (dn : Int) ≤ 4096 := by omega
 have qmn3 : min (dn : Int) 4096 = (dn : Int) := by omega
 clear hv0 hb hp hal hpn hbn hdl hck hsl hnx hwi hbl hro hA0
 go_enter Try.func73, Try.ntmps73
 go_wp2_with (first
   | ((with_reducible refine gBx 27 3 ?_); refine nwB hv #[.int .u32 next, .slice none 0 0, .slice pa pn pc] 27 ?_; clear hv; intro b3 w2 hv)
   | ((with_reducible refine gAl 27 6 ?_); refine nwB hv #[.int .u32 0, .slice none 0 0, .slice none 0 0] 27 ?_; clear hv; intro b6 w2 hv)
   | ((with_reducible refine gLd 27 ?_); refine ldV hv b3 3 Try.underlying27 infoStr ?_)
   | (go_at_call 41; (with_reducible refine (kC _ _ _ hv HBM.out HP.out HA.out).mono ?_); rintro e w1 ⟨rfl, hn1⟩; replace hv := hv.new hn1; clear hn1)
   | (go_at_call 64; (with_reducible refine (spans_any next none pa 0 0 pn pc l _ _ _ _ hv HP.out HA.out HPN.out).mono ?_); rintro e w1 ⟨ha, hn, hc, rfl, hv1⟩; have HHN := Lib.hid (len_rdS (hv1.rd Mem.z)); replace hv := hv1; clear hv1)
   | (go_at_call 78; (with_reducible refine (SClone_own _ _ _ _ _ _ _ _ hv Mem.z (cellsS_one _ (AllS.one hv (HS0.out _))) (by have := HHN.out; have := HHL.out; omega)).mono ?_); rintro e w1 ⟨v, O, rfl, hO, hv1⟩; replace hv := hv1.perm (perm_own O L _ _); clear hv1; obtain ⟨va, vn, vc, rfl, _⟩ := id hO.slice))
 refine Any.wr1 12 [(2, [1000], none), (10, [], some 7), (11, [7], some 7)] [(10, .lay #[.int .i64 0, .slice none 0 0]), (11, .put)] hv ?_
 simp only [Any.someVals]
 iterate 12 apply Exists.intro
 repeat ((first
  | refine Any.E_off rfl ?_
  | ((with_reducible refine Any.gE 22 ?_); refine Any.eC 1000 _ Try.underlying22 ?_)
  | (apply Any.E_val rfl rfl rfl rfl
     case h =>
      intro E' hA K hK
      first
       | ((with_reducible refine Any.at_qslice (T := 23) ?_); refine Any.q_slice rfl Try.underlying23 infoB1 none (some (.int .i64 dn)) none rfl rfl rfl 0 dn dc (fun w => bounds_h HDC.out) HSL.out ?_; refine hK _ ?_; rfl)
       | ((with_reducible refine Any.at_qbuild (T := 92) ?_); refine Any.q_build [(0, .int .i64 (dif seq next)), (1, .slice da2 dn dc)] rfl (built_sp _ _ _ _) ?_; refine hK _ ?_; rfl)
       | (go_big_quiet_op; first
          | (refine hK _ ?_; rfl)
          | (refine ⟨_, fun _ _ => rfl, ?_⟩; refine hK _ ?_; rfl)
          | (apply Exists.intro; refine ⟨fun w1 hw1 => ?_, ?_⟩; · (first
              | (go_at_call 68; exact Any.calls_VEq (Diff_any _ _ _) hw1))
             refine hK _ ?_; rfl))
     case hD => rfl)
  | ((with_reducible refine Any.at_ealloc ?_); refine Any.E_lay rfl rfl rfl (fun _ => rfl) ?_; intro b10)
  | ((with_reducible refine Any.at_estore (T := 92) ?_); refine Any.E_putv (T := 92) rfl rfl rfl rfl rfl rfl 2 infoSp rfl rfl (by simp [Value.oneCell']) ?_)); simp only [Act.put, sia, scs, scz])
 try any_goals exact undef
 refine Any.fin1 hv [7, 1000] ?_; clear hv; intro w9 hv
 go_wp2
 have HMK := Lib.hid (hv.keep (List.sublist_append_left [(b10, #[.int .i64 (dif seq next), .slice da2 dn dc]), (b3, #[.int .u32 next, .slice none 0 0, .slice pa pn pc])] ((b6, #[.int .u32 0, .slice none 0 0, .slice none 0 0]) :: (O ++ L))))
 have HB2 : Hid ((1, .slice none 0 0, cellsB bs) ∈ ((2, .slice ha hn hc, cellsS (spV next l)) :: R)) := Lib.hid (Mem.s HBM.out)
 have HP2 : Hid ((2, .slice pa pn pc, cellsP l) ∈ ((2, .slice ha hn hc, cellsS (spV next l)) :: R)) := Lib.hid (Mem.s HP.out)
 have HA2 : Hid (AllP ((2, .slice ha hn hc, cellsS (spV next l)) :: R) l) := Lib.hid (HA.out.mono fun _ h => Mem.s h)
 refine Any.wr2 10 [(0, [1000], none), (1, [1001], none), (7, [], some 7), (8, [7], some 7)] [(7, .lay #[.int .i64 0, .slice none 0 0]), (8, .put)] hv ?_
 simp only [Any.someVals]
 iterate 10 apply Exists.intro
 repeat ((first
  | refine Any.E_off rfl ?_
  | ((with_reducible refine Any.gE 92 ?_); refine Any.eW 1000 2 Try.underlying92 infoSp ?_)
  | ((with_reducible refine Any.gE 27 ?_); refine Any.eW 1001 3 Try.underlying27 infoStr ?_)
  | (apply Any.E_val rfl rfl rfl rfl
     case h =>
      intro E' hA K hK
      first
       | (go_big_quiet_op; first
          | (refine hK _ ?_; rfl)
          | (refine ⟨_, fun _ _ => rfl, ?_⟩; refine hK _ ?_; rfl)
          | (apply Exists.intro; refine ⟨fun w1 hw1 => ?_, ?_⟩; · (first
              | (go_at_call 36; exact Any.calls_VE (kR _ _ (hw1.baseR HMK.out) HB2.out HP2.out HA2.out) hw1)
              | (go_at_call 79; exact Any.calls_VE (kW _) hw1))
             refine hK _ ?_; rfl))
     case hD => rfl)
  | ((with_reducible refine Any.at_ealloc ?_); refine Any.E_lay rfl rfl rfl (fun _ => rfl) ?_; intro b11)
  | ((with_reducible refine Any.at_estore (T := 92) ?_); refine Any.E_putv (T := 92) rfl rfl rfl rfl rfl rfl 2 infoSp rfl rfl (by simp [Value.oneCell']) ?_)); simp only [Act.put, sia, scs, scz])
 try any_goals exact undef
 refine Any.fin2 hv [7, 1000, 1001] ?_; clear hv; intro w9 hv
 clear HMK
 obtain ⟨A, hA⟩ : ∃ A, spV next l = A := ⟨_, rfl⟩
 obtain ⟨O2, hO2⟩ : ∃ O2, O = O2 := ⟨_, rfl⟩
 subst hO2
 have HOA : Hid (OwnL 2 (.slice va vn vc) (cellsS A) O) := Lib.hid (by rw [← hA]; exact hO)
 have HSA : Hid (spOf A = A0) := Lib.hid (by
   rw [← HA0.out, ← hA]
   unfold allL
   rw [HWI.out, spOf_spV next bs l, List.append_nil])
 have HAA : Hid (AllS ((2, .slice ha hn hc, cellsS (spV next l)) :: R) A) := Lib.hid (by
   rw [← hA]
   exact HS0.out _)
 have HAL0 : Hid (A.length ≤ 2001) := Lib.hid (by
   have := HHL.out
   rw [← hA]; omega)
 clear hO hA
 replace hv := hv.drop.drop
 go_wp2
 refine Any.wr1 8 [(1, [1000], none), (3, [1000], none), (6, [], some 5), (7, [5], some 5)] [(6, .lay #[.int .u32 0, .slice none 0 0, .slice none 0 0]), (7, .put)] hv ?_
 simp only [Any.someVals]
 iterate 8 apply Exists.intro
 repeat ((first
  | refine Any.E_off rfl ?_
  | ((with_reducible refine Any.gE 22 ?_); refine Any.eC 1000 _ Try.underlying22 ?_)
  | ((with_reducible refine Any.gE 23 ?_); refine Any.eC 1000 _ Try.underlying23 ?_)
  | (apply Any.E_val rfl rfl rfl rfl
     case h =>
      intro E' hA K hK
      first
       | ((with_reducible refine Any.at_qbuild (T := 27) ?_); refine Any.q_build [(0, .int .u32 next), (1, .slice none 0 0)] rfl (built_str _ _ _ _) ?_; refine hK _ ?_; rfl)
       | (go_big_quiet_op; first
          | (refine hK _ ?_; rfl)
          | (refine ⟨_, fun _ _ => rfl, ?_⟩; refine hK _ ?_; rfl)
          | (apply Exists.intro; refine ⟨fun w1 hw1 => ?_, ?_⟩; · (first
              | (go_at_call 63; exact Any.calls_VEq (BClone_nil _) hw1))
             refine hK _ ?_; rfl))
     case hD => rfl)
  | ((with_reducible refine Any.at_ealloc ?_); refine Any.E_lay rfl rfl rfl (fun _ => rfl) ?_; intro b13)
  | ((with_reducible refine Any.at_estore (T := 27) ?_); refine Any.E_putv (T := 27) rfl rfl rfl rfl rfl rfl 3 infoStr rfl rfl (by simp [Value.oneCell']) ?_)); simp only [Act.put, sia, scs, scz])
 try any_goals exact undef
 refine Any.fin1 hv [5, 1000] ?_; clear hv; intro w9 hv
 have HOB0 : Hid (OwnL 1 (.slice none 0 0) (cellsB bs) []) := Lib.hid (by rw [HB0.out]; exact OwnL.nil 1)
 obtain ⟨Ob0, hOb⟩ : ∃ Ob0 : LV, [] = Ob0 := ⟨_, rfl⟩
 rw [show ∀ (a b c : Nat × Array Value), a :: b :: c :: (O ++ L) = a :: b :: c :: ([] ++ (O ++ L)) from fun _ _ _ => rfl, hOb] at hv
 rw [hOb] at HOB0
 clear hOb
 replace hv := hv.perm (perm_swap Ob0 O L _ _ _)
 obtain ⟨RN, hRN⟩ : ∃ RN, ((2, .slice ha hn hc, cellsS (spV next l)) :: R) = RN := ⟨_, rfl⟩
 have HRN := Lib.hid hRN
 rw [hRN] at hv HAA
 have HAC : Hid (∀ x ∈ spOf A, x.2 ≠ [] ∧ 0 ≤ x.1 ∧ x.1 + x.2.length ≤ 256) := Lib.hid (fun x hx => by
   rw [HSA.out, ← HA0.out] at hx
   have h1 := (all_cont HCK.out seq data).2.1 x hx
   have h2 := (chk_spans HCK.out).2.2
   exact ⟨h1.1, h1.2.1, by omega⟩)
 have HAB : Hid (∀ p ∈ A, -1000000000000 ≤ p.1 ∧ p.1 ≤ 1000000000000 ∧ p.2.2 ≠ []) := Lib.hid (fun p hp => by
   have h := HAC.out _ (spOf_mem hp)
   exact ⟨by have := h.2.1; simp only at this; omega, by have := h.2.2; have := h.2.1; simp only at *; omega, h.1⟩)
 have HAT : Hid (tot A ≤ 1000000) := Lib.hid (by
   have h1 := tot_le (l := A) (m := 256) (fun p hp => by have h := HAC.out _ (spOf_mem hp); have := h.2.1; have := h.2.2; simp only at *; omega)
   have := HAL0.out
   omega)
 have HAL : Hid (A.length ≤ 5000) := Lib.hid (by have := HAL0.out; omega)
 clear hRN HAC
 go_wp2_with (first
   | (go_at_call 81; (with_reducible refine (joined_any _ _ A _ _ _ _ hv HOA.out HAA.out HAL.out HAB.out HAT.out).mono ?_); rintro e w1 ⟨ja, jn, jc, J, RF2, srt, rfl, hv1, hJ1, hJ2, hJ3, hJ4, hJ5, hJ6⟩; replace hv := hv1; clear hv1))
 have HPE : Hid ((spOf srt).Perm A0) := Lib.hid (by rw [← HSA.out]; exact hJ2.map _)
 have HPW : Hid ((spOf srt).Pairwise fun x y => x.1 ≤ y.1) := Lib.hid (List.pairwise_map.2 hJ3)
 have HME := Lib.hid hJ4
 have HJO : Hid (∀ p ∈ J, 0 ≤ p.1 ∧ p.1 + p.2.2.length ≤ 256 ∧ p.2.2 ≠ []) := Lib.hid (fun p hp => by
   have := merge_ok HCK.out (seq := seq) (data := data) (by rw [HA0.out]; exact HPE.out) HPW.out (p.1, p.2.2) (by rw [← hJ4]; exact spOf_mem hp)
   exact this)
 have HJN := Lib.hid (len_rdS (hv.rd Mem.z))
 have hjn : jn ≤ 2001 := by have := HJN.out; have := HAL0.out; omega
 have HJA : Hid (AllS ((2, .slice ja jn jc, cellsS J) :: (RF2 ++ RN)) J) := Lib.hid (fun p hp => Mem.s (hJ1 p hp))
 obtain ⟨c, hc0⟩ : ∃ c, finT next next bs 0 [] J = c := ⟨_, rfl⟩
 have HC := Lib.hid hc0
 clear hJ1 hJ2 hJ3 hJ4 hJ5 hJ6 hc0
 go_loopw [14, 57] (fun nv i wr => ∃ (k n nx : Nat) (B : List Nat) (P : List PcV) (bv pv : Value) (Ob Op : LV), k ≤ jn ∧ i = .int .i64 k ∧ nv = .int .i64 n ∧ Hid (OwnL 1 bv (cellsB B) Ob) ∧ Hid (OwnL 2 pv (cellsP P) Op) ∧ Mem w0 wr ((b13, #[.int .u32 nx, bv, pv]) :: (b3, #[.int .u32 next, .slice none 0 0, .slice pa pn pc]) :: (b6, #[.int .u32 0, .slice none 0 0, .slice none 0 0]) :: (Ob ++ (Op ++ L))) ((2, .slice ja jn jc, cellsS J) :: (RF2 ++ RN)) ∧ Hid (AllP ((2, .slice ja jn jc, cellsS J) :: (RF2 ++ RN)) P) ∧ Hid (finT next nx B n P (J.drop k) = c) ∧ Hid (P.length ≤ k) ∧ Hid (B.length ≤ 256 + 256 * k) ∧ Hid (nx < 4294967296)) (fun _ i _ => jn - (intOf i).toNat)
 case atStart => exact ⟨0, 0, next, bs, [], _, _, Ob0, [], Nat.zero_le _, rfl, rfl, HOB0, Lib.hid (OwnL.nil 2), hv, Lib.hid (fun p hp => (List.not_mem_nil hp).elim), Lib.hid HC.out, Lib.hid (Nat.zero_le _), Lib.hid (by have := HBR.out; omega), HNX⟩
 case round =>
   clear hv
   obtain ⟨k, n, nx, B, P, bv, pv, Ob, Op, hk, rfl, rfl, HOB, HOP, hv, HAP, HEQ, HPK, HBK, HNN⟩ := hrel
   obtain ⟨bva, bvn, bvc, rfl, _⟩ := id HOB.out.slice
   obtain ⟨pva, pvn, pvc, rfl, _⟩ := id HOP.out.slice
   by_cases hk2 : k < jn
   · have hki : (k : Int) < (jn : Int) := by omega
     have hkb : (k : Int) ≤ 5000 := by omega
     have hkl : k < J.length := by rw [HJN.out]; exact hk2
     obtain ⟨⟨x, xv, xd⟩, hx⟩ : ∃ z, J[k] = z := ⟨_, rfl⟩
     have hdm := HJA.out J[k] (List.getElem_mem hkl)
     have hbm := HJO.out J[k] (List.getElem_mem hkl)
     rw [hx] at hdm hbm
     simp only at hdm hbm
     obtain ⟨xp, rfl⟩ : ∃ xp : Nat, x = (xp : Int) := ⟨x.toNat, by omega⟩
     obtain ⟨xa, xn, xc, rfl, _⟩ := id (hv.rd hdm)
     have hxn : xd.length = xn := len_rd1 (hv.rd hdm)
     have HXM := Lib.hid hdm
     have HXL := Lib.hid hxn
     have HK : Hid (((cellsS J).drop (k * 2)).take 2 = [.int .i64 (xp : Int), .slice xa xn xc]) := Lib.hid (by rw [cellsS_part J k hkl, hx])
     have HDK : Hid (J.drop k = ((xp : Int), .slice xa xn xc, xd) :: J.drop (k + 1)) := Lib.hid (by rw [List.drop_eq_getElem_cons hkl, hx])
     obtain ⟨jb, jo, _, _, e, _⟩ := (hv.rd Mem.z).some (by rw [cellsS_len]; omega)
     cases e
     have HKV : Hid (k < jn) := Lib.hid hk2
     have HJB : Hid (jn ≤ 2001) := Lib.hid hjn
     have hxp : xp ≤ 256 := by omega
     have hxn2 : xn ≤ 256 := by omega
     have q1 : IntKind.u32.wrap (xp : Int) = (xp : Int) := u32_nat (by omega)
     have q2 : IntKind.u32.wrap (xn : Int) = (xn : Int) := u32_nat (by omega)
     have q3 := u32_add next xp
     have q4 := u32_add nx xn
     clear hx hdm hkl hk2 hk hxn hbm
     by_cases hz : xp = 0
     · have y1 : ((xp : Int) == 0) = true := by rw [beq_iff_eq]; omega
       have HZ := Lib.hid hz
       have HB1 : Hid (((cellsB B).length + (cellsB xd).length) / 1 ≤ maxLen) := Lib.hid (by rw [cellsB_len, cellsB_len]; have := HBK.out; have := HXL.out; unfold maxLen; omega)
       have HB2 : Hid (((cellsB B).length + (cellsB xd).length) / 1 * 1 ≤ 140737488355328) := Lib.hid (by rw [cellsB_len, cellsB_len]; have := HBK.out; have := HXL.out; omega)
       clear hz
       go_wp2_with (first
         | ((with_reducible refine at_load (T := 92) ?_); refine wl_rdv rfl (hv.rd Mem.z) (k * 2) rfl 2 _ Try.underlying92 rfl infoSp (by decide) #[.int .i64 (xp : Int), .slice xa xn xc] HK.out rfl ?_)
         | ((with_reducible refine gAl 92 16 ?_); refine nwB hv #[.int .i64 0, .slice none 0 0] 92 ?_; clear hv; intro b16 w2 hv)
         | ((with_reducible refine gSt 92 ?_); refine stV hv b16 2 infoSp ?_; clear hv; intro w2 hv)
         | ((with_reducible refine gLd 3 ?_); refine ldC hv b16 0 _ Try.underlying3 ?_)
         | ((with_reducible refine gLd 23 ?_); refine ldC hv b16 1 _ Try.underlying23 ?_)
         | ((with_reducible refine gLd 23 ?_); refine ldC hv b13 1 _ Try.underlying23 ?_)
         | ((with_reducible refine gLd 22 ?_); refine ldC hv b13 0 _ Try.underlying22 ?_)
         | ((with_reducible refine at_append (t := 23) ?_); refine wl_appO (A := [_, _, _, _]) (B := Op ++ L) rfl rfl HOB.out hv (.int .u8 0) 1 Try.underlying23 info8z rfl (by decide) rfl (hv.rd HXM.out) (cellsB_one _) HB1.out HB2.out ?_; intro v2 w7 Ob2 hOb2 hv1; replace hv := hv1; clear hv1; obtain ⟨ua, un, uc, rfl, _⟩ := id hOb2.slice; replace hOb2 := Lib.hid hOb2; simp only [List.cons_append, List.nil_append] at hv)
         | ((with_reducible refine gSt 23 ?_); refine stC hv b13 1 (.slice ua un uc) ?_; clear hv; intro w2 hv)
         | ((with_reducible refine gSt 22 ?_); refine stC hv b13 0 (.int .u32 (((nx + xn) % 4294967296 : Nat) : Int)) ?_; clear hv; intro w2 hv))
       try rw [Exit.noGoto_ret]
       have hkv := HKV.out
       go_roundw
       case rel => exact ⟨k + 1, xn, (nx + xn) % 4294967296, B ++ xd, P, _, _, Ob2, Op, by omega, by go_num, rfl, Lib.hid (by rw [cellsB_app]; exact hOb2.out), HOP, hv.drop, HAP, Lib.hid (by
         have := HEQ.out
         rw [HDK.out, finT_zero (by show (xp : Int) = 0; have := HZ.out; omega)] at this
         simp only [HXL.out] at this
         exact this), Lib.hid (by have := HPK.out; omega), Lib.hid (by rw [List.length_append]; have := HBK.out; have := HXL.out; omega), Lib.hid (Nat.mod_lt _ (by decide))⟩
       case measure => simp [intOf]; omega
     · have y1 : ((xp : Int) == 0) = false := by rw [beq_eq_false_iff_ne]; omega
       have HZ := Lib.hid hz
       have HN1 : Hid (∀ z ∈ ([.int .u32 (((next + xp) % 4294967296 : Nat) : Int), .slice xa xn xc] : List Value), z.oneCell' = true) := Lib.hid (fun z hz => by
         rcases List.mem_cons.1 hz with rfl | hz
         · rfl
         · rw [List.mem_singleton.1 hz]; rfl)
       have HP1 : Hid (((cellsP P).length + ([.int .u32 (((next + xp) % 4294967296 : Nat) : Int), .slice xa xn xc] : List Value).length) / 2 ≤ maxLen) := Lib.hid (by rw [cellsP_len]; have := HPK.out; simp only [List.length_cons, List.length_nil]; unfold maxLen; omega)
       have HP2 : Hid (((cellsP P).length + ([.int .u32 (((next + xp) % 4294967296 : Nat) : Int), .slice xa xn xc] : List Value).length) / 2 * 32 ≤ 140737488355328) := Lib.hid (by rw [cellsP_len]; have := HPK.out; simp only [List.length_cons, List.length_nil]; omega)
       clear hz
       go_wp2_with (first
         | ((with_reducible refine at_load (T := 92) ?_); refine wl_rdv rfl (hv.rd Mem.z) (k * 2) rfl 2 _ Try.underlying92 rfl infoSp (by decide) #[.int .i64 (xp : Int), .slice xa xn xc] HK.out rfl ?_)
         | ((with_reducible refine gAl 92 16 ?_); refine nwB hv #[.int .i64 0, .slice none 0 0] 92 ?_; clear hv; intro b16 w2 hv)
         | ((with_reducible refine gSt 92 ?_); refine stV hv b16 2 infoSp ?_; clear hv; intro w2 hv)
         | ((with_reducible refine gLd 3 ?_); refine ldC hv b16 0 _ Try.underlying3 ?_)
         | ((with_reducible refine gLd 23 ?_); refine ldC hv b16 1 _ Try.underlying23 ?_)
         | ((with_reducible refine gLd 25 ?_); refine ldC hv b13 2 _ Try.underlying25 ?_)
         | ((with_reducible refine gLd 22 ?_); refine ldC hv b3 0 _ Try.underlying22 ?_)
         | ((with_reducible refine at_build (T := 95) ?_); refine wl_build rfl _ rfl (built_pc _ _ _ _) ?_)
         | ((with_reducible refine at_append (t := 25) ?_); replace hv := hv.bsl' (k := 2) (n := 1) (c := [.int .u32 (((next + xp) % 4294967296 : Nat) : Int), .slice xa xn xc]) ⟨rfl, made_alloc _ #[.int .u32 (((next + xp) % 4294967296 : Nat) : Int), .slice xa xn xc] 95⟩ rfl rfl (by unfold maxLen; omega); refine wl_appO rfl rfl HOP.out (re4 hv) (.agg #[.int .u32 0, .slice none 0 0]) 32 Try.underlying25 infoPcz rfl (by decide) rfl (hv.rd Mem.z) HN1.out HP1.out HP2.out ?_; intro v2 w7 Op2 hOp2 hv1; replace hv := hv1.dropR; clear hv1; obtain ⟨ua, un, uc, rfl, _⟩ := id hOp2.slice; replace hOp2 := Lib.hid hOp2; simp only [List.cons_append, List.nil_append, List.append_assoc] at hv)
         | ((with_reducible refine gSt 25 ?_); refine stC hv b13 2 (.slice ua un uc) ?_; clear hv; intro w2 hv))
       have hkv := HKV.out
       go_roundw
       case rel => exact ⟨k + 1, n, nx, B, P ++ [pcOf next ((xp : Int), .slice xa xn xc, xd)], _, _, Ob, Op2, by omega, by go_num, rfl, HOB, Lib.hid (by rw [cellsP_snoc]; exact hOp2.out), hv.drop, Lib.hid (fun p hp => by
         rcases List.mem_append.1 hp with hp | hp
         · exact HAP.out p hp
         · rw [List.mem_singleton.1 hp]; exact HXM.out), Lib.hid (by
         have := HEQ.out
         rw [HDK.out, finT_else (by show ¬ (xp : Int) = 0; have := HZ.out; omega)] at this
         exact this), Lib.hid (by rw [List.length_append, List.length_singleton]; have := HPK.out; omega), Lib.hid (by have := HBK.out; omega), HNN⟩
       case measure => simp [intOf]; omega
   · have hki : ¬ (k : Int) < (jn : Int) := by omega
     have HDE : Hid (J.drop k = []) := Lib.hid (List.drop_eq_nil_of_le (by rw [HJN.out]; omega))
     clear hk hk2
     go_wp2_with (first
       | ((with_reducible refine gLd 27 ?_); refine ldV hv b13 3 Try.underlying27 infoStr ?_)
       | ((with_reducible refine gSt 27 ?_); refine stV hv b6 3 infoStr ?_; clear hv; intro w2 hv))
     refine ret_cell2 Try.results73 rfl (read_row _ b6 27 _ hv.vars.ro 3 _ Try.underlying27 rfl infoStr (by decide) rfl) rfl rfl ?_
     refine ⟨nx, n, B, P, bva, pva, bvn, bvc, pvn, pvc, ?_⟩
     have hy1 := HOB.out.yield (A := []) (B := Op ++ L) hv.drop.drop.drop
     have hy2 := HOP.out.yield (A := []) (B := L) hy1
     rw [List.nil_append] at hy2
     have hfin : finT next next bs 0 [] J = (nx, B, n, P) := by
       have := HEQ.out
       rw [HDE.out] at this
       rw [HC.out, ← this]
       rfl
     rw [← HRN.out] at hy2 HAP
     refine ⟨(2, .slice ja jn jc, cellsS J) :: (RF2 ++ [(2, .slice ha hn hc, cellsS (spV next l))]), srt, J, rfl, hy2.keepR (fun z hz => ?_), HAP.out.mono (fun z hz => ?_), HPE.out, HPW.out, HME.out, hfin⟩
     · rcases List.mem_cons.1 hz with rfl | hz
       · exact Mem.s Mem.z
       rcases List.mem_cons.1 hz with rfl | hz
       · exact Mem.z
       · exact Mem.s (Mem.s (by simpa using hz))
     · simpa using hz
end Go.Proofs.Ythenepdbgeafkaa
