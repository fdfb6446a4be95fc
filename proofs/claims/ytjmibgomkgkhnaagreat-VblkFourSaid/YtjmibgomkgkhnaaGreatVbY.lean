import Derived.Test.YtjmibgomkgkhnaaGreatVbA
import Derived.Test.YtjmibgomkgkhnaaGreatVbU
import Derived.Test.YtjmibgomkgkhnaaGreatAnyB
import Derived.Test.YtjmibgomkgkhnaaGreatVbX
import Derived.Test.YtjmibgomkgkhnaaGreatVnP
set_option linter.unusedSimpArgs false
set_option linter.unusedVariables false
set_option maxRecDepth 100000
set_option maxHeartbeats 16000000
section
/-
 A disk, the document's answer (layer 5): a new one.
-/
namespace Go.Proofs.Qu
open Go Go.RowKit Go.Proofs.Nm
def SecsR (R : List (Nat × Value × List Value)) (ss : List (Value × List Nat)) : Prop := ∀ x ∈ ss, (1, x.1, cellsB x.2) ∈ R ∧ x.2.length = 256 ∧ goodB x.2
def RDNewP (w0 : World) (L : List (Nat × Array Value)) (R : List (Nat × Value × List Value)) (n : Nat) (e : Ending) (w' : World) : Prop :=
 ∃ sa sc ss R', e = .returned (.tuple #[.agg #[.slice sa n sc, .slice none 0 0], .int .i64 0]) ∧ Mem w0 w' L R' ∧ DiskQ R' (.slice sa n sc) (.slice none 0 0) ss [] ∧ ss.length = n ∧ ∀ x ∈ R, x ∈ R'
end Go.Proofs.Qu
namespace Go
namespace Any
open Go.Proofs.Qu
section
variable {ops : Array Oper} {β : Base} {S : Nat → Stat} {D : Nat → Kind} {Q : Act → Env → Prop} {k : Nat} {rest : List Oper} {a : Act} {E : Env}
variable {dst : Option Tmp} {ty t : TypeId} {pos : String} {after : Array Edge} {g : Option (Nat × Bool)} {x y : Operand}
theorem E_mkz {i : Nat} (n : Nat) (hw : Region.wanted (⟨dst, .makeSlice 24 x y, ty, pos, after, g⟩ : Oper) (yielded ops a.tmps) = true) (hD : D k = .laidBy (fun B => .slice (some ⟨B, 0, none⟩) n n)) (hS : (S k).write = some i) (hx : a.eval x = .int .i64 n) (hy : a.eval y = .int .i64 n) (hn : n ≤ 100000)
   (hk : ∀ B, wpE Go.Proofs.Tryz.prog ops β S D Q (k + 1) rest (a.put dst (.slice (some ⟨B, 0, none⟩) n n)) (E.put i (B, zerosR n))) : wpE Go.Proofs.Tryz.prog ops β S D Q k (⟨dst, .makeSlice 24 x y, ty, pos, after, g⟩ :: rest) a E :=
 E_laidA (t := 5) hw hD hS (fun w => by
   have h := Go.Proofs.YtjmibgomkgkhnaaGreat.run_mkz w n hn
   simp [execOp, hx, hy, h, Result.andThen]) hk
end
end Any
end Go
namespace Go.Proofs.YtjmibgomkgkhnaaGreat
open Go.Proofs.Qu Go.Proofs.Nm Go.RowKit Go.Proofs
theorem infoBSz : (Tryz.prog.info? 24).map (fun i => (i.zero, i.size, i.bytes)) = some (some (.slice none 0 0), 1, 24) := by kernel_rfl
theorem SecsR.snoc {R : List (Nat × Value × List Value)} {ss : List (Value × List Nat)} {v : Value} (h : SecsR R ss) : SecsR ((1, v, cellsB (List.replicate 256 0)) :: R) (ss ++ [(v, List.replicate 256 0)]) := fun x hx => by
 rcases List.mem_append.1 hx with hx | hx
 · exact ⟨Mem.s (h x hx).1, (h x hx).2⟩
 · rw [List.mem_singleton.1 hx]; exact ⟨Mem.z, List.length_replicate, zeros_good 256⟩
theorem RDNew_ok {w0 w : World} {L : List (Nat × Array Value)} {R : List (Nat × Value × List Value)} (hv : Mem w0 w L R) (n : Nat) (h0 : 0 < n) (hn : n ≤ 8) :
   Calls Tryz.prog 18 #[.int .i64 n] w (RDNewP w0 L R n) := by
 have hn0 : (0 : Int) < (n : Int) := by omega
 have hn8 : (n : Int) ≤ 8 := by omega
 have HN8 := Lib.hid hn
 have HN0 := Lib.hid h0
 have hB3 : 1 ≤ maxLen := by unfold maxLen; omega
 have hB0 : Hid (∀ (xx : Nat), ∀ z ∈ ([.slice (some ⟨xx, 0, none⟩) 256 256] : List Value), z.oneCell' = true) := Lib.hid (fun xx z hz => by rw [List.mem_singleton.1 hz]; rfl)
 have hC1 : Hid ((0 + 1) / 1 ≤ maxLen) := Lib.hid (by unfold maxLen; omega)
 have hC2 : Hid ((0 + 1) / 1 * 24 ≤ 140737488355328) := Lib.hid (by omega)
 clear h0 hn
 go_enter Tryz.func18, Tryz.ntmps18
 go_wp2_with (first
   | ((with_reducible refine at_alloc (T := 63) (dst := some 2) ?_); refine wl_newb rfl #[.slice none 0 0, .slice none 0 0] 63 (fun _ => rfl) ?_; intro b_2 w2 hm2; replace hv := hv.madeAt hm2; clear hm2)
   | ((with_reducible refine at_alloc (T := 63) (dst := some 4) ?_); refine wl_newb rfl #[.slice none 0 0, .slice none 0 0] 63 (fun _ => rfl) ?_; intro b_4 w2 hm2; replace hv := hv.madeAt hm2; clear hm2))
 go_loopw [5] (fun iv wr => ∃ (k : Nat) (O : List (Nat × Array Value)) (ov : Value) (ss : List (Value × List Nat)) (Rk : List (Nat × Value × List Value)), k ≤ n ∧ iv = .int .i64 k ∧ Mem w0 wr ((b_4, #[ov, .slice none 0 0]) :: (O ++ ((b_2, #[.slice none 0 0, .slice none 0 0]) :: L))) Rk ∧ Hid (OwnL 1 ov (ss.map (·.1)) O) ∧ Hid (SecsR Rk ss) ∧ Hid (ss.length = k) ∧ Hid (∀ x ∈ R, x ∈ Rk)) (fun iv _ => n - (intOf iv).toNat)
 case atStart => exact ⟨0, [], .slice none 0 0, [], R, Nat.zero_le _, rfl, hv, Lib.hid (OwnL.nil 1), Lib.hid (fun x hx => (List.not_mem_nil hx).elim), Lib.hid rfl, Lib.hid (fun x hx => hx)⟩
 case round =>
   clear hv
   obtain ⟨k, O, ov, ss, Rk, hk, rfl, hv, HO, HSS, HLS, HRS⟩ := hrel
   rcases HO.out with ⟨rfl, hz, rfl⟩ | ⟨x0, hrow, rfl⟩
   · obtain rfl : ss = [] := List.map_eq_nil_iff.1 hz
     obtain rfl : 0 = k := HLS.out
     simp only [Int.natCast_zero, List.nil_append] at hv ⊢
     have HKN : Hid (0 < n) := HN0
     have k := 0
     clear hz HO hk
     · 
       go_wp2
       refine Any.wp_region_walk [⟨[], none⟩, ⟨[1000], none⟩, ⟨[], some 5⟩, ⟨[], some 6⟩, ⟨[6], some 8⟩, ⟨[], none⟩, ⟨[1000], some 1000⟩] [.val, .val, .laidBy (fun B => .slice (some ⟨B, 0, none⟩) 256 256), .laidBy (fun B => .slice (some ⟨B, 0, none⟩) 1 1), .env 6 (fun zs v x => AppRow v 1 zs.toList x), .val, .put] (by kernel_rfl) (by kernel_rfl) (hv.vars.keep (List.sublist_append_left [(b_4, #[.slice none 0 0, .slice none 0 0]), (b_2, #[.slice none 0 0, .slice none 0 0])] L)) ?_
       simp only [List.length_cons, List.length_nil, Nat.zero_add, Any.someVals]
       iterate 7 apply Exists.intro
       repeat (first
         | (refine Any.E_off rfl ?_; simp only [Act.put, sia, scs, scz])
         | (apply Any.E_pureq rfl rfl rfl
            case h => intro K hK; go_big_quiet_op; (refine hK _ ?_; rfl)
            case hr => exact fun _ => rfl
            simp only [Act.put, sia, scs, scz])
         | (apply Any.E_val rfl rfl rfl rfl
            case h =>
              intro E' hA K hK
              first
                | ((with_reducible refine Any.at_qload (T := 46) ?_); refine Any.q_ldc 1000 hA (by decide) rfl rfl _ Tryz.underlying46 rfl (.slice none 0 0) rfl ?_; refine hK _ ?_; rfl)
                | (go_big_quiet_op; first
                  | (refine hK _ ?_; rfl)
                  | (refine ⟨_, fun _ _ => rfl, ?_⟩; refine hK _ ?_; rfl)
                  | (apply Exists.intro; refine ⟨fun w1 hw1 => ?_, ?_⟩; · (first
                      | fail)
                     refine hK _ ?_; rfl))
            case hD => rfl
            simp only [Act.put, sia, scs, scz])
         | ((with_reducible refine Any.at_ealloc ?_); refine Any.E_lay rfl rfl rfl (fun _ => rfl) ?_; intro B; simp only [Act.put, sia, scs, scz])
         | ((with_reducible refine Any.at_emk (T := 24) ?_); refine Any.E_mkz 256 rfl rfl rfl rfl rfl (by decide) ?_; intro B5; simp only [Act.put, sia, scs, scz])
         | ((with_reducible refine Any.at_ebsl ?_); refine Any.E_bslA (z := #[.slice (some ⟨B5, 0, none⟩) 256 256]) (t := 24) rfl rfl rfl (fun w' => (by unfold execOp; go_simp)) ?_; intro B6; simp only [Act.put, sia, scs, scz])
         | ((with_reducible refine Any.at_eapp (t := 46) ?_); refine Any.E_appnilE (j := 6) rfl rfl rfl rfl rfl (by decide) rfl rfl rfl hB3 (List.cons_ne_nil _ _) (.slice none 0 0) 24 Tryz.underlying46 infoBSz rfl (by decide) (hB0.out _) hC1.out hC2.out ?_; intro v8 x8 ha8; obtain ⟨n8, c8, rfl, g8⟩ := id ha8; replace g8 := Lib.hid g8; replace ha8 := Lib.hid ha8; simp only [Act.put, sia, scs, scz])
         | ((with_reducible refine Any.at_estore (T := 46) ?_); refine Any.E_putc (T := 46) (v := .slice (some ⟨x8.1, 0, none⟩) n8 c8) rfl rfl rfl rfl rfl rfl (by kernel_rfl) rfl (by show 0 < 2; decide) ?_; simp only [Act.put, sia, scs, scz]))
       try any_goals exact undef
       refine Any.E_nil ?_
       intro w9 hE9
       replace hv : Mem w0 w9 ([x8, (B5, zerosR 256), (b_4, #[.slice (some ⟨x8.1, 0, none⟩) n8 c8, .slice none 0 0]), (b_2, #[.slice none 0 0, .slice none 0 0])] ++ L) Rk := hE9.memr hv [8, 5, 1000, 1001] (by decide)
       clear hE9
       simp only [List.cons_append, List.nil_append] at hv
       have hv1 := Mem.yield (L1 := [x8]) hv (zeros_row B5 256 (by decide))
       replace hv := hv1
       clear hv1
       go_wp2
       have hkn := HKN.out
       go_roundw
       case rel => exact ⟨0 + 1, [x8], _, [] ++ [(.slice (some ⟨B5, 0, none⟩) 256 256, List.replicate 256 0)], _, HN0.out, rfl, hv.perm (by first | exact (List.Perm.swap _ _ _)), Lib.hid (by rw [List.map_append]; exact OwnL.row ha8.out), Lib.hid (SecsR.snoc HSS.out), Lib.hid (by rw [List.length_append, HLS.out]; rfl), Lib.hid (fun x hx => Mem.s (HRS.out x hx))⟩
       case measure => simp [intOf]; omega
   · replace hrow := Lib.hid hrow
     obtain ⟨on, oc, rfl, g0⟩ := id hrow.out
     simp only [List.cons_append, List.nil_append] at hv
     have hon : on = k := by
       have h9 := g0.1
       rw [List.length_map, HLS.out] at h9; omega
     subst hon
     clear g0 HO
     by_cases hk2 : on < n
     · have hki : (on : Int) < (n : Int) := by omega
       have HKN := Lib.hid hk2
       have hD1 : Hid (((ss.map (·.1)).length + (0 + 1)) / 1 ≤ maxLen) := Lib.hid (by rw [List.length_map, HLS.out]; have := HN8.out; unfold maxLen; omega)
       have hD2 : Hid (((ss.map (·.1)).length + (0 + 1)) / 1 * 24 ≤ 140737488355328) := Lib.hid (by rw [List.length_map, HLS.out]; have := HN8.out; omega)
       clear hk hk2
       go_wp2
       refine Any.wp_region_walk [⟨[], none⟩, ⟨[1000], none⟩, ⟨[], some 5⟩, ⟨[], some 6⟩, ⟨[6], some 1001⟩, ⟨[], none⟩, ⟨[1000], some 1000⟩] [.val, .val, .laidBy (fun B => .slice (some ⟨B, 0, none⟩) 256 256), .laidBy (fun B => .slice (some ⟨B, 0, none⟩) 1 1), .env 6 (fun zs v x => AppRow v 1 (ss.map (·.1) ++ zs.toList) x), .val, .put] (by kernel_rfl) (by kernel_rfl) (hv.vars.keep (List.sublist_append_left [(b_4, #[.slice (some ⟨x0.1, 0, none⟩) on oc, .slice none 0 0]), x0, (b_2, #[.slice none 0 0, .slice none 0 0])] L)) ?_
       simp only [List.length_cons, List.length_nil, Nat.zero_add, Any.someVals]
       iterate 7 apply Exists.intro
       repeat (first
         | (refine Any.E_off rfl ?_; simp only [Act.put, sia, scs, scz])
         | (apply Any.E_pureq rfl rfl rfl
            case h => intro K hK; go_big_quiet_op; (refine hK _ ?_; rfl)
            case hr => exact fun _ => rfl
            simp only [Act.put, sia, scs, scz])
         | (apply Any.E_val rfl rfl rfl rfl
            case h =>
              intro E' hA K hK
              first
                | ((with_reducible refine Any.at_qload (T := 46) ?_); refine Any.q_ldc 1000 hA (by decide) rfl rfl _ Tryz.underlying46 rfl (.slice (some ⟨x0.1, 0, none⟩) on oc) rfl ?_; refine hK _ ?_; rfl)
                | (go_big_quiet_op; first
                  | (refine hK _ ?_; rfl)
                  | (refine ⟨_, fun _ _ => rfl, ?_⟩; refine hK _ ?_; rfl)
                  | (apply Exists.intro; refine ⟨fun w1 hw1 => ?_, ?_⟩; · (first
                      | fail)
                     refine hK _ ?_; rfl))
            case hD => rfl
            simp only [Act.put, sia, scs, scz])
         | ((with_reducible refine Any.at_ealloc ?_); refine Any.E_lay rfl rfl rfl (fun _ => rfl) ?_; intro B; simp only [Act.put, sia, scs, scz])
         | ((with_reducible refine Any.at_emk (T := 24) ?_); refine Any.E_mkz 256 rfl rfl rfl rfl rfl (by decide) ?_; intro B5; simp only [Act.put, sia, scs, scz])
         | ((with_reducible refine Any.at_ebsl ?_); refine Any.E_bslA (z := #[.slice (some ⟨B5, 0, none⟩) 256 256]) (t := 24) rfl rfl rfl (fun w' => (by unfold execOp; go_simp)) ?_; intro B6; simp only [Act.put, sia, scs, scz])
         | ((with_reducible refine Any.at_eapp (t := 46) ?_); refine Any.E_appE (j := 6) rfl rfl rfl rfl rfl hrow.out rfl (by decide) rfl rfl rfl hB3 (.slice none 0 0) 24 Tryz.underlying46 infoBSz rfl (by decide) (hB0.out _) hD1.out hD2.out ?_; intro v8 x8 ha8; obtain ⟨n8, c8, rfl, g8⟩ := id ha8; replace g8 := Lib.hid g8; replace ha8 := Lib.hid ha8; simp only [Act.put, sia, scs, scz])
         | ((with_reducible refine Any.at_estore (T := 46) ?_); refine Any.E_putc (T := 46) (v := .slice (some ⟨x8.1, 0, none⟩) n8 c8) rfl rfl rfl rfl rfl rfl (by kernel_rfl) rfl (by show 0 < 2; decide) ?_; simp only [Act.put, sia, scs, scz]))
       try any_goals exact undef
       refine Any.E_nil ?_
       intro w9 hE9
       replace hv : Mem w0 w9 ([x8, (B5, zerosR 256), (b_4, #[.slice (some ⟨x8.1, 0, none⟩) n8 c8, .slice none 0 0]), (b_2, #[.slice none 0 0, .slice none 0 0])] ++ L) Rk := hE9.memr hv [1001, 5, 1000, 1002] (by decide)
       clear hE9
       simp only [List.cons_append, List.nil_append] at hv
       have hv1 := Mem.yield (L1 := [x8]) hv (zeros_row B5 256 (by decide))
       replace hv := hv1
       clear hv1
       go_wp2
       have hkn := HKN.out
       go_roundw
       case rel => exact ⟨on + 1, [x8], _, ss ++ [(.slice (some ⟨B5, 0, none⟩) 256 256, List.replicate 256 0)], _, by omega, by go_num, hv.perm (by first | exact (List.Perm.swap _ _ _)), Lib.hid (by rw [List.map_append]; exact OwnL.row ha8.out), Lib.hid (SecsR.snoc HSS.out), Lib.hid (by rw [List.length_append, HLS.out]; rfl), Lib.hid (fun x hx => Mem.s (HRS.out x hx))⟩
       case measure => simp [intOf]; omega
     · have hki : ¬ (on : Int) < (n : Int) := by omega
       obtain rfl : on = n := by omega
       clear hk hk2
       go_wp2_with (first
         | ((with_reducible refine at_load (T := 63) ?_); refine wl_ldv rfl b_4 rfl _ hv.vars.ro 2 _ Tryz.underlying63 rfl infoD2 (by decide) rfl ?_)
         | ((with_reducible refine at_store (T := 63) ?_); refine wl_stv rfl b_2 rfl _ rfl _ hv.vars.ro hv.vars.so 2 infoD2 rfl rfl (by simp [Value.oneCell']) ?_; intro w2 hw2; replace hv := hv.sets (by repeat first | exact .z | apply SetM.s) hw2; clear hw2))
       try simp only [Exit.inBlock, Exit.then]
       refine ret_cell2 (v := .agg #[.slice (some ⟨x0.1, 0, none⟩) on oc, .slice none 0 0]) (v1 := .int .i64 0) rfl rfl (read_row _ b_2 63 _ (hv.vars.ro (b := b_2)) 2 _ Tryz.underlying63 rfl infoD2 (by decide) rfl) rfl rfl ?_
       have hv1 := Mem.yield (L1 := []) hv.drop hrow.out
       simp only [List.nil_append] at hv1
       have hv2 := hv1.drop.fresh (Below.refl _ _) (FR.nil _ _ 2)
       exact ⟨some ⟨x0.1, 0, none⟩, oc, ss, _, rfl, hv2, ⟨Mem.s Mem.z, Mem.z, fun x hx => ⟨Mem.s (Mem.s (HSS.out x hx).1), (HSS.out x hx).2⟩, fun x hx => (List.not_mem_nil hx).elim, by have := HN8.out; have := HLS.out; omega, by decide⟩, HLS.out, fun x hx => Mem.s (Mem.s (HRS.out x hx))⟩
end Go.Proofs.YtjmibgomkgkhnaaGreat
end

section
/-
 A disk's driver (layer 9): what stands in memory while requests wait. No program in sight.
-/
namespace Go.Proofs.Qu
open Go Go.RowKit Go.Proofs.Nm
theorem Frame.desc {M M' : List Nat} {lo hi i a l f x : Nat} (h : Frame M M' lo hi) (hq : 16 * i + 16 ≤ lo ∨ hi ≤ 16 * i) (hd : DescAt M 0 i a l f x) : DescAt M' 0 i a l f x := by
 unfold DescAt at *
 rw [h.getN (by omega), h.getN (by omega), h.getN (by omega), h.getN (by omega)]
 exact hd
theorem layM_other {M : List Nat} {base n : Nat} {ds : List Nat} {l : List Pt} (h : LayOk M base n ds l) {i a b f x : Nat} (hi : i ∉ ds) (hd : DescAt M base i a b f x) : ∀ k, k ≤ ds.length → DescAt (layM M base ds l k) base i a b f x := by
 intro k
 induction k with
 | zero => intro _; exact hd
 | succ k ih =>
   intro hk
   have h1 := layM_len h k (by omega)
   have h2 := h.dk (k := k) (by omega)
   have h3 := h.room
   show DescAt (setD _ _ _ _ _ _) base _ _ _ _ _
   refine setD_other (by omega) (fun e => hi ?_) (ih (by omega))
   rw [← e, List.getD_eq_getElem?_getD, List.getElem?_eq_getElem (by omega)]
   exact List.getElem_mem _
theorem layM_frame {M : List Nat} {n : Nat} {ds : List Nat} {l : List Pt} (h : LayOk M 0 n ds l) : ∀ k, k ≤ ds.length → Frame M (layM M 0 ds l k) 0 (16 * n) := by
 intro k
 induction k with
 | zero => intro _ p m _; rfl
 | succ k ih =>
   intro hk
   have h1 := layM_len h k (by omega)
   have h2 := h.dk (k := k) (by omega)
   have h3 := h.room
   show Frame M (setD (layM M 0 ds l k) _ _ _ _ _) 0 (16 * n)
   exact (ih (by omega)).trans (frame_setD (p := 0 + 16 * ds.getD k 0) (by omega)) (Nat.le_refl _) (by omega) (Nat.le_refl _) (by omega)
theorem offer16_frame {M : List Nat} {i first : Nat} (h : 424 ≤ M.length) : Frame M (offerM M 0 16 i first) 256 292 := by
 have h2 := Nat.mod_lt i (show 0 < 16 by decide)
 unfold offerM
 generalize i % 16 = r at *
 have e1 := putN_len (M := M) (p := 0 + (16 * 16 + (4 + 2 * r))) (k := 2) (a := first) (by omega)
 exact (frame_putN (q := 0 + (16 * 16 + (4 + 2 * r))) (by omega)).trans (frame_putN (q := 0 + 16 * 16 + 2) (by omega)) (by omega) (by omega) (by omega) (by omega)
theorem offer16_slot {M : List Nat} {i first s : Nat} (h : 424 ≤ M.length) (hs : s < 16) (hne : i % 16 ≠ s) : getN (offerM M 0 16 i first) (0 + (16 * 16 + (4 + 2 * s))) 2 = getN M (0 + (16 * 16 + (4 + 2 * s))) 2 := by
 have h2 := Nat.mod_lt i (show 0 < 16 by decide)
 unfold offerM
 generalize i % 16 = r at *
 have e1 := putN_len (M := M) (p := 0 + (16 * 16 + (4 + 2 * r))) (k := 2) (a := first) (by omega)
 rw [getN_put_apart (by omega) (by omega), getN_put_apart (by omega) (by omega)]
section
variable {M : List Nat} {av : Nat} {free : List Nat} {l : List Pt} (h : AddOk 1700 M 0 16 free l)
include h
theorem AddOk.r16 : 424 ≤ M.length := by have := h.room; rw [sizeN16] at this; omega
theorem add16_frame : Frame M (addM M 0 16 av free l) 0 292 := by
 have h1 := h.r16
 have h2 := layM_len h.lay l.length (by rw [h.tl]; exact Nat.le_refl _)
 unfold addM
 exact (layM_frame h.lay l.length (by rw [h.tl]; exact Nat.le_refl _)).trans (offer16_frame (by omega)) (by omega) (by omega) (by omega) (by omega)
theorem add16_other {i a b f x : Nat} (hi : i ∉ free.take l.length) (h16 : i < 16) (hd : DescAt M 0 i a b f x) : DescAt (addM M 0 16 av free l) 0 i a b f x := by
 unfold addM
 exact offerM_desc h.ok h.room2 h16 (layM_other h.lay hi hd l.length (by rw [h.tl]; exact Nat.le_refl _))
theorem add16_new {j : Nat} (hj : j < l.length) : DescAt (addM M 0 16 av free l) 0 ((free.take l.length).getD j 0) (ptD l j).1 (ptD l j).2.1 (flP l.length j (ptD l j).2.2) (nxP (free.take l.length) j) := by
 have := layM_desc h.lay l.length (by rw [h.tl]; exact Nat.le_refl _) j hj
 rw [h.tl] at this
 unfold addM
 exact offerM_desc h.ok h.room2 (h.lay.dk (by rw [h.tl]; exact hj)) this
theorem add16_slot {s : Nat} (hs : s < 16) (hne : av % 16 ≠ s) : getN (addM M 0 16 av free l) (0 + (16 * 16 + (4 + 2 * s))) 2 = getN M (0 + (16 * 16 + (4 + 2 * s))) 2 := by
 have h1 := h.r16
 have h2 := layM_len h.lay l.length (by rw [h.tl]; exact Nat.le_refl _)
 unfold addM
 rw [offer16_slot (by omega) hs hne, layM_apart h.lay (by omega) _ (by rw [h.tl]; exact Nat.le_refl _)]
end
theorem ret16_frame {M : List Nat} {i id len : Nat} (h : 424 ≤ M.length) : Frame M (returnM M 0 16 i id len) 292 424 := by
 have h2 := Nat.mod_lt i (show 0 < 16 by decide)
 unfold returnM
 rw [backN16]
 generalize i % 16 = r at *
 obtain ⟨p, hp⟩ : ∃ p, 0 + (292 + (4 + 8 * r)) = p := ⟨_, rfl⟩
 rw [hp]
 have e1 := putN_len (M := M) (p := p) (k := 4) (a := id) (by omega)
 have e2 := putN_len (M := putB M p (leB id 4)) (p := p + 4) (k := 4) (a := len) (by omega)
 exact ((frame_putN (q := p) (by omega)).trans (frame_putN (q := p + 4) (by omega)) (l := 292) (u := 424) (by omega) (by omega) (by omega) (by omega)).trans (frame_putN (q := 0 + 292 + 2) (by omega)) (by omega) (by omega) (by omega) (by omega)
theorem ret16_other {M : List Nat} {i id len s : Nat} (h : 424 ≤ M.length) (hs : s < 16) (hne : i % 16 ≠ s) {k : Nat} (hk : k = 0 ∨ k = 4) : getN (returnM M 0 16 i id len) (0 + (backN 16 + (4 + 8 * s)) + k) 4 = getN M (0 + (backN 16 + (4 + 8 * s)) + k) 4 := by
 have h2 := Nat.mod_lt i (show 0 < 16 by decide)
 unfold returnM
 rw [backN16]
 generalize i % 16 = r at *
 have e1 := putN_len (M := M) (p := 0 + (292 + (4 + 8 * r))) (k := 4) (a := id) (by omega)
 have e2 := putN_len (M := putB M (0 + (292 + (4 + 8 * r))) (leB id 4)) (p := 0 + (292 + (4 + 8 * r)) + 4) (k := 4) (a := len) (by omega)
 rw [getN_put_apart (by omega) (by omega), getN_put_apart (by omega) (by omega), getN_put_apart (by omega) (by omega)]
structure PW (M : List Nat) (h p s : Nat) (D : List Nat) : Prop where
 d0 : DescAt M 0 h p 16 1 (h + 1)
 d1 : DescAt M 0 (h + 1) (p + 16) 256 1 (h + 2)
 d2 : DescAt M 0 (h + 2) (p + 272) 1 2 0
 kd : getN M p 4 = 1
 sc : getN M (p + 8) 8 = s
 dt : getB M (p + 16) 256 = D
theorem PW.chain {M D : List Nat} {h p s : Nat} (H : PW M h p s D) (h16 : h + 2 < 16) (hp : p + 288 ≤ 1700) : ChainAt 1700 M 0 16 h [(p, 16, false), (p + 16, 256, false), (p + 272, 1, true)] :=
 ⟨by omega, 1, h + 1, H.d0, by show 0 < 16; decide, by show p + 16 ≤ 1700; omega, (by show (bits .and .u16 ((1 : Nat) : Int) 2 != 0) = false; decide), (by show (bits .and .u16 ((1 : Nat) : Int) 1 == 0) = false; decide), fun _ => ⟨by omega, 1, h + 2, H.d1, by show 0 < 256; decide, by show p + 16 + 256 ≤ 1700; omega, (by show (bits .and .u16 ((1 : Nat) : Int) 2 != 0) = false; decide), (by show (bits .and .u16 ((1 : Nat) : Int) 1 == 0) = false; decide), fun _ => ⟨h16, 2, 0, H.d2, by show 0 < 1; decide, by show p + 272 + 1 ≤ 1700; omega, (by show (bits .and .u16 ((2 : Nat) : Int) 2 != 0) = true; decide), (by show (bits .and .u16 ((2 : Nat) : Int) 1 == 0) = true; decide), fun h => absurd rfl h⟩⟩⟩
theorem PW.keep {M M' D : List Nat} {h p s lo hi : Nat} (H : PW M h p s D) (hf : Frame M M' lo hi) (hq : 16 * h + 48 ≤ lo ∨ hi ≤ 16 * h) (hp : p + 272 ≤ lo ∨ hi ≤ p) : PW M' h p s D :=
 ⟨hf.desc (by omega) H.d0, hf.desc (by omega) H.d1, hf.desc (by omega) H.d2, by rw [hf.getN (by omega)]; exact H.kd, by rw [hf.getN (by omega)]; exact H.sc, by rw [hf _ _ (by omega)]; exact H.dt⟩
theorem PW.add {M D : List Nat} {h p s av : Nat} {free : List Nat} {l : List Pt} (H : PW M h p s D) (hA : AddOk 1700 M 0 16 free l) (h0 : h ∉ free.take l.length) (h1 : h + 1 ∉ free.take l.length) (h2 : h + 2 ∉ free.take l.length) (h16 : h + 2 < 16) (hp : 292 ≤ p) : PW (addM M 0 16 av free l) h p s D := by
 have hf := add16_frame (av := av) hA
 exact ⟨add16_other hA h0 (by omega) H.d0, add16_other hA h1 (by omega) H.d1, add16_other hA h2 h16 H.d2, by rw [hf.getN (by omega)]; exact H.kd, by rw [hf.getN (by omega)]; exact H.sc, by rw [hf _ _ (by omega)]; exact H.dt⟩
theorem title_len {M : List Nat} {p k s : Nat} (h : p + 16 ≤ M.length) : (titleM M p k s).length = M.length := by
 unfold titleM
 have e1 := putB_len (M := M) (p := p) (D := List.replicate 16 0) (by rw [List.length_replicate]; omega)
 have e2 := putN_len (M := putB M p (List.replicate 16 0)) (p := p) (k := 4) (a := k) (by omega)
 rw [putN_len (by omega)]; omega
theorem title_frame {M : List Nat} {p k s : Nat} (h : p + 16 ≤ M.length) : Frame M (titleM M p k s) p (p + 16) := by
 unfold titleM
 have e1 := putB_len (M := M) (p := p) (D := List.replicate 16 0) (by rw [List.length_replicate]; omega)
 have e2 := putN_len (M := putB M p (List.replicate 16 0)) (p := p) (k := 4) (a := k) (by omega)
 have f1 := frame_put (M := M) (q := p) (D := List.replicate 16 0) (by rw [List.length_replicate]; omega)
 rw [List.length_replicate] at f1
 exact (f1.trans (frame_putN (q := p) (a := k) (k := 4) (by omega)) (l := p) (u := p + 16) (by omega) (by omega) (by omega) (by omega)).trans (frame_putN (q := p + 8) (by omega)) (by omega) (by omega) (by omega) (by omega)
theorem title_at {M : List Nat} {p k s : Nat} (h : p + 16 ≤ M.length) (hk : k < 256 ^ 4) (hs : s < 256 ^ 8) : getN (titleM M p k s) p 4 = k ∧ getN (titleM M p k s) (p + 8) 8 = s := by
 unfold titleM
 have e1 := putB_len (M := M) (p := p) (D := List.replicate 16 0) (by rw [List.length_replicate]; omega)
 have e2 := putN_len (M := putB M p (List.replicate 16 0)) (p := p) (k := 4) (a := k) (by omega)
 exact ⟨by rw [getN_put_apart (by omega) (by omega), getN_put_same (by decide) (by omega) hk], getN_put_same (by decide) (by omega) hs⟩
section
variable {M D : List Nat} {p s : Nat} (hl : p + 288 ≤ M.length) (hD : D.length = 256)
include hl hD
theorem ask_len : (askM M p 1 s D).length = M.length := by
 unfold askM
 have e1 := title_len (M := M) (p := p) (k := 1) (s := s) (by omega)
 have e2 := putB_len (M := titleM M p 1 s) (p := p + 16) (D := D) (by omega)
 rw [putB_len (by show p + 272 + 1 ≤ _; omega)]; omega
theorem ask_frame : Frame M (askM M p 1 s D) p (p + 288) := by
 unfold askM
 have e1 := title_len (M := M) (p := p) (k := 1) (s := s) (by omega)
 have e2 := putB_len (M := titleM M p 1 s) (p := p + 16) (D := D) (by omega)
 exact ((title_frame (k := 1) (s := s) (by omega)).trans (frame_put (q := p + 16) (by omega)) (l := p) (u := p + 288) (by omega) (by omega) (by omega) (by omega)).trans (frame_put (q := p + 272) (by show p + 272 + 1 ≤ _; omega)) (by omega) (by omega) (by omega) (by show p + 272 + 1 ≤ _; omega)
theorem ask_at (hs : s < 256) : getN (askM M p 1 s D) p 4 = 1 ∧ getN (askM M p 1 s D) (p + 8) 8 = s ∧ getB (askM M p 1 s D) (p + 16) 256 = D := by
 unfold askM
 have e1 := title_len (M := M) (p := p) (k := 1) (s := s) (by omega)
 have e2 := putB_len (M := titleM M p 1 s) (p := p + 16) (D := D) (by omega)
 have f1 := frame_put (M := titleM M p 1 s) (q := p + 16) (D := D) (by omega)
 have f2 := frame_put (M := putB (titleM M p 1 s) (p + 16) D) (q := p + 272) (D := [255]) (by show p + 272 + 1 ≤ _; omega)
 have ht := title_at (M := M) (p := p) (k := 1) (s := s) (by omega) (by decide) (by omega)
 rw [f2.getN (by omega), f2.getN (by omega), f1.getN (by omega), f1.getN (by omega), f2 _ _ (by omega), getB_put_same hD (by omega)]
 exact ⟨ht.1, ht.2, rfl⟩
end
theorem AddW {M : List Nat} {free : List Nat} {l : List Pt} (hl : M.length = 1700) (hnd : free.Nodup) (hlt : ∀ d ∈ free, d < 16) (h0 : 0 < l.length) (h1 : l.length ≤ free.length) (hp : ∀ p ∈ l, 0 < p.2.1 ∧ p.1 + p.2.1 ≤ 1700) : AddOk 1700 M 0 16 free l :=
 ⟨ok16, by rw [sizeN16]; omega, hnd, hlt, h0, h1, hp, by decide⟩
theorem parts_ok {p : Nat} (hp : p + 288 ≤ 1700) : ∀ q ∈ [(p, 16, false), (p + 16, 256, false), (p + 272, 1, true)], 0 < q.2.1 ∧ q.1 + q.2.1 ≤ 1700 := fun q hq => by
 rcases List.mem_cons.1 hq with rfl | hq
 · show 0 < 16 ∧ p + 16 ≤ 1700; omega
 · rcases List.mem_cons.1 hq with rfl | hq
   · show 0 < 256 ∧ p + 16 + 256 ≤ 1700; omega
   · rw [List.mem_singleton.1 hq]; show 0 < 1 ∧ p + 272 + 1 ≤ 1700; omega
theorem write_new {M D free : List Nat} {p s h av : Nat} (hl : M.length = 1700) (hD : D.length = 256) (hs : s < 256) (hp : 424 ≤ p) (hp2 : p + 288 ≤ 1700) (hnd : free.Nodup) (hlt : ∀ d ∈ free, d < 16) (ht : free.take 3 = [h, h + 1, h + 2]) (h16 : h + 2 < 16) :
   PW (addM (askM M p 1 s D) 0 16 av free [(p, 16, false), (p + 16, 256, false), (p + 272, 1, true)]) h p s D ∧ getN (addM (askM M p 1 s D) 0 16 av free [(p, 16, false), (p + 16, 256, false), (p + 272, 1, true)]) 258 2 = (av + 1) % 65536 ∧ getN (addM (askM M p 1 s D) 0 16 av free [(p, 16, false), (p + 16, 256, false), (p + 272, 1, true)]) (0 + (16 * 16 + (4 + 2 * (av % 16)))) 2 = h ∧ (addM (askM M p 1 s D) 0 16 av free [(p, 16, false), (p + 16, 256, false), (p + 272, 1, true)]).length = 1700 ∧ getN (addM (askM M p 1 s D) 0 16 av free [(p, 16, false), (p + 16, 256, false), (p + 272, 1, true)]) 294 2 = getN M 294 2 := by
 have hla := ask_len (M := M) (p := p) (s := s) (by omega) hD
 have hfl : 3 ≤ free.length := by
   have := congrArg List.length ht
   rw [List.length_take] at this
   simp only [List.length_cons, List.length_nil] at this; omega
 have hA := AddW (M := askM M p 1 s D) (free := free) (l := [(p, 16, false), (p + 16, 256, false), (p + 272, 1, true)]) (by omega) hnd hlt (by show 0 < 3; decide) (by show 3 ≤ _; exact hfl) (parts_ok hp2)
 have hf := add16_frame (av := av) hA
 have hq := ask_at (M := M) (p := p) (D := D) (by omega) hD hs
 have hfa := ask_frame (M := M) (p := p) (s := s) (by omega) hD
 have n0 := add16_new (av := av) hA (j := 0) (by show 0 < 3; decide)
 have n1 := add16_new (av := av) hA (j := 1) (by show 1 < 3; decide)
 have n2 := add16_new (av := av) hA (j := 2) (by show 2 < 3; decide)
 have hd0 := hA.hd.1
 rw [show free.take ([(p, 16, false), (p + 16, 256, false), (p + 272, 1, true)] : List Pt).length = [h, h + 1, h + 2] from ht] at n0 n1 n2 hd0
 have hh : free.getD 0 0 = h := hd0.symm
 refine ⟨⟨n0, n1, n2, ?_, ?_, ?_⟩, ?_, ?_, ?_, ?_⟩
 · rw [hf.getN (by omega)]; exact hq.1
 · rw [hf.getN (by omega)]; exact hq.2.1
 · rw [hf _ _ (by omega)]; exact hq.2.2
 · exact addM_idx hA
 · rw [addM_at hA]; exact hh
 · rw [addM_len hA]; omega
 · rw [hf.getN (by omega), hfa.getN (by omega)]
theorem write_old {M D E free : List Nat} {p s h av h' p' s' : Nat} (H : PW M h' p' s' E) (hl : M.length = 1700) (hD : D.length = 256) (hp : 424 ≤ p) (hp2 : p + 288 ≤ 1700) (hnd : free.Nodup) (hlt : ∀ d ∈ free, d < 16) (ht : free.take 3 = [h, h + 1, h + 2]) (hh : h' + 3 ≤ h ∨ h + 3 ≤ h') (h16 : h' + 2 < 16) (h4 : 424 ≤ p') (hap : p' + 288 ≤ p ∨ p + 288 ≤ p') :
   PW (addM (askM M p 1 s D) 0 16 av free [(p, 16, false), (p + 16, 256, false), (p + 272, 1, true)]) h' p' s' E := by
 have hla := ask_len (M := M) (p := p) (s := s) (by omega) hD
 have hfl : 3 ≤ free.length := by
   have := congrArg List.length ht
   rw [List.length_take] at this
   simp only [List.length_cons, List.length_nil] at this; omega
 have hA := AddW (M := askM M p 1 s D) (free := free) (l := [(p, 16, false), (p + 16, 256, false), (p + 272, 1, true)]) (by omega) hnd hlt (by show 0 < 3; decide) (by show 3 ≤ _; exact hfl) (parts_ok hp2)
 have hfa := ask_frame (M := M) (p := p) (s := s) (by omega) hD
 have e : free.take ([(p, 16, false), (p + 16, 256, false), (p + 272, 1, true)] : List Pt).length = [h, h + 1, h + 2] := ht
 refine PW.add (H.keep hfa (by omega) (by omega)) hA ?_ ?_ ?_ h16 (by omega) <;>
 · rw [e]
   simp only [List.mem_cons, List.not_mem_nil, or_false, not_or]
   omega
theorem write_slot {M D free : List Nat} {p s h av sl : Nat} (hl : M.length = 1700) (hD : D.length = 256) (hp : 424 ≤ p) (hp2 : p + 288 ≤ 1700) (hnd : free.Nodup) (hlt : ∀ d ∈ free, d < 16) (ht : free.take 3 = [h, h + 1, h + 2]) (hs : sl < 16) (hne : av % 16 ≠ sl) :
   getN (addM (askM M p 1 s D) 0 16 av free [(p, 16, false), (p + 16, 256, false), (p + 272, 1, true)]) (0 + (16 * 16 + (4 + 2 * sl))) 2 = getN M (0 + (16 * 16 + (4 + 2 * sl))) 2 := by
 have hla := ask_len (M := M) (p := p) (s := s) (by omega) hD
 have hfl : 3 ≤ free.length := by
   have := congrArg List.length ht
   rw [List.length_take] at this
   simp only [List.length_cons, List.length_nil] at this; omega
 have hA := AddW (M := askM M p 1 s D) (free := free) (l := [(p, 16, false), (p + 16, 256, false), (p + 272, 1, true)]) (by omega) hnd hlt (by show 0 < 3; decide) (by show 3 ≤ _; exact hfl) (parts_ok hp2)
 have hfa := ask_frame (M := M) (p := p) (s := s) (by omega) hD
 rw [add16_slot hA hs hne, hfa.getN (by omega)]
theorem serve_new {M : List Nat} {us id ps an : Nat} (hl : M.length = 1700) (hps : 424 ≤ ps) (hp2 : ps + 1 ≤ 1700) (hid : id < 65536) (han : an < 256) (hus : us < 65535) :
   (returnM (putB M ps [an]) 0 16 us id 1).length = 1700 ∧ getN (returnM (putB M ps [an]) 0 16 us id 1) 294 2 = us + 1 ∧ getN (returnM (putB M ps [an]) 0 16 us id 1) (0 + (backN 16 + (4 + 8 * (us % 16)))) 4 = id ∧ getN (returnM (putB M ps [an]) 0 16 us id 1) (0 + (backN 16 + (4 + 8 * (us % 16))) + 4) 4 = 1 ∧ getN (returnM (putB M ps [an]) 0 16 us id 1) ps 1 = an ∧ getN (returnM (putB M ps [an]) 0 16 us id 1) 258 2 = getN M 258 2 := by
 have e1 := putB_len (M := M) (p := ps) (D := [an]) (by show ps + 1 ≤ _; omega)
 have f1 := frame_put (M := M) (q := ps) (D := [an]) (by show ps + 1 ≤ _; omega)
 have f2 := ret16_frame (M := putB M ps [an]) (i := us) (id := id) (len := 1) (by omega)
 have r := (show 0 + sizeN 16 ≤ (putB M ps [an]).length by rw [sizeN16]; omega)
 refine ⟨?_, ?_, returnM_id ok16 r (by omega), returnM_ln ok16 r (by omega), ?_, ?_⟩
 · rw [returnM_len ok16 r]; omega
 · have := returnM_idx (M := putB M ps [an]) (base := 0) (n := 16) (i := us) (id := id) (len := 1) ok16 r
   rw [Nat.mod_eq_of_lt (by omega)] at this
   exact this
 · unfold getN
   rw [f2 _ _ (by omega), getB_put_same (show ([an] : List Nat).length = 1 from rfl) (by show ps + 1 ≤ _; omega)]
   show fromTo [an] 1 = an
   show 0 + [an].getD 0 0 * 256 ^ 0 = an
   simp
 · rw [f2.getN (by omega), f1.getN (by omega)]
theorem serve_old {M D : List Nat} {us id ps an h p s : Nat} (H : PW M h p s D) (hl : M.length = 1700) (hps : 424 ≤ ps) (hp2 : ps + 1 ≤ 1700) (h16 : h + 2 < 16) (hp4 : 424 ≤ p) (hap : p + 272 ≤ ps ∨ ps + 1 ≤ p) : PW (returnM (putB M ps [an]) 0 16 us id 1) h p s D := by
 have e1 := putB_len (M := M) (p := ps) (D := [an]) (by show ps + 1 ≤ _; omega)
 have f1 := frame_put (M := M) (q := ps) (D := [an]) (by show ps + 1 ≤ _; omega)
 rw [show ps + ([an] : List Nat).length = ps + 1 from rfl] at f1
 have f2 := ret16_frame (M := putB M ps [an]) (i := us) (id := id) (len := 1) (by omega)
 exact (H.keep f1 (by omega) (by omega)).keep f2 (by omega) (by omega)
theorem serve_slot {M : List Nat} {us id ps an sl : Nat} (hl : M.length = 1700) (hps : 424 ≤ ps) (hp2 : ps + 1 ≤ 1700) (hs : sl < 16) : getN (returnM (putB M ps [an]) 0 16 us id 1) (0 + (16 * 16 + (4 + 2 * sl))) 2 = getN M (0 + (16 * 16 + (4 + 2 * sl))) 2 := by
 have e1 := putB_len (M := M) (p := ps) (D := [an]) (by show ps + 1 ≤ _; omega)
 have f1 := frame_put (M := M) (q := ps) (D := [an]) (by show ps + 1 ≤ _; omega)
 have f2 := ret16_frame (M := putB M ps [an]) (i := us) (id := id) (len := 1) (by omega)
 rw [f2.getN (by omega), f1.getN (by omega)]
theorem serve_used {M : List Nat} {us id ps an sl k : Nat} (hl : M.length = 1700) (hps : 424 ≤ ps) (hp2 : ps + 1 ≤ 1700) (hs : sl < 16) (hne : us % 16 ≠ sl) (hk : k = 0 ∨ k = 4) : getN (returnM (putB M ps [an]) 0 16 us id 1) (0 + (backN 16 + (4 + 8 * sl)) + k) 4 = getN M (0 + (backN 16 + (4 + 8 * sl)) + k) 4 := by
 have e1 := putB_len (M := M) (p := ps) (D := [an]) (by show ps + 1 ≤ _; omega)
 have f1 := frame_put (M := M) (q := ps) (D := [an]) (by show ps + 1 ≤ _; omega)
 rw [ret16_other (by omega) hs hne hk, f1.getN (by rw [backN16]; omega)]
section
variable {M : List Nat} {p s : Nat} (hl : p + 288 ≤ M.length)
include hl
theorem askF_len : (askF M p 4 s).length = M.length := by
 unfold askF
 have e1 := title_len (M := M) (p := p) (k := 4) (s := s) (by omega)
 rw [putB_len (by show p + 272 + 1 ≤ _; omega)]; omega
theorem askF_frame : Frame M (askF M p 4 s) p (p + 288) := by
 unfold askF
 have e1 := title_len (M := M) (p := p) (k := 4) (s := s) (by omega)
 exact (title_frame (k := 4) (s := s) (by omega)).trans (frame_put (q := p + 272) (by show p + 272 + 1 ≤ _; omega)) (by omega) (by omega) (by omega) (by show p + 272 + 1 ≤ _; omega)
end
theorem parts_ok2 {p : Nat} (hp : p + 288 ≤ 1700) : ∀ q ∈ [(p, 16, false), (p + 272, 1, true)], 0 < q.2.1 ∧ q.1 + q.2.1 ≤ 1700 := fun q hq => by
 rcases List.mem_cons.1 hq with rfl | hq
 · show 0 < 16 ∧ p + 16 ≤ 1700; omega
 · rw [List.mem_singleton.1 hq]; show 0 < 1 ∧ p + 272 + 1 ≤ 1700; omega
structure PF (M : List Nat) (h p : Nat) : Prop where
 d0 : DescAt M 0 h p 16 1 (h + 1)
 d1 : DescAt M 0 (h + 1) (p + 272) 1 2 0
theorem PF.chain {M : List Nat} {h p : Nat} (H : PF M h p) (h16 : h + 1 < 16) (hp : p + 288 ≤ 1700) : ChainAt 1700 M 0 16 h [(p, 16, false), (p + 272, 1, true)] :=
 ⟨by omega, 1, h + 1, H.d0, by show 0 < 16; decide, by show p + 16 ≤ 1700; omega, (by show (bits .and .u16 ((1 : Nat) : Int) 2 != 0) = false; decide), (by show (bits .and .u16 ((1 : Nat) : Int) 1 == 0) = false; decide), fun _ => ⟨h16, 2, 0, H.d1, by show 0 < 1; decide, by show p + 272 + 1 ≤ 1700; omega, (by show (bits .and .u16 ((2 : Nat) : Int) 2 != 0) = true; decide), (by show (bits .and .u16 ((2 : Nat) : Int) 1 == 0) = true; decide), fun h => absurd rfl h⟩⟩
theorem PF.keep {M M' : List Nat} {h p lo hi : Nat} (H : PF M h p) (hf : Frame M M' lo hi) (hq : 16 * h + 32 ≤ lo ∨ hi ≤ 16 * h) : PF M' h p := ⟨hf.desc (by omega) H.d0, hf.desc (by omega) H.d1⟩
theorem PF.serve {M : List Nat} {us id ps an h p : Nat} (H : PF M h p) (hl : M.length = 1700) (hps : 424 ≤ ps) (hp2 : ps + 1 ≤ 1700) (h16 : h + 1 < 16) : PF (returnM (putB M ps [an]) 0 16 us id 1) h p := by
 have e1 := putB_len (M := M) (p := ps) (D := [an]) (by show ps + 1 ≤ _; omega)
 have f1 := frame_put (M := M) (q := ps) (D := [an]) (by show ps + 1 ≤ _; omega)
 have f2 := ret16_frame (M := putB M ps [an]) (i := us) (id := id) (len := 1) (by omega)
 exact (H.keep f1 (by omega)).keep f2 (by omega)
theorem flush_new {M free : List Nat} {p h av s : Nat} (hl : M.length = 1700) (hp : 424 ≤ p) (hp2 : p + 288 ≤ 1700) (hnd : free.Nodup) (hlt : ∀ d ∈ free, d < 16) (ht : free.take 2 = [h, h + 1]) (h16 : h + 1 < 16) :
   PF (addM (askF M p 4 s) 0 16 av free [(p, 16, false), (p + 272, 1, true)]) h p ∧ getN (addM (askF M p 4 s) 0 16 av free [(p, 16, false), (p + 272, 1, true)]) 258 2 = (av + 1) % 65536 ∧ getN (addM (askF M p 4 s) 0 16 av free [(p, 16, false), (p + 272, 1, true)]) (0 + (16 * 16 + (4 + 2 * (av % 16)))) 2 = h ∧ (addM (askF M p 4 s) 0 16 av free [(p, 16, false), (p + 272, 1, true)]).length = 1700 ∧ getN (addM (askF M p 4 s) 0 16 av free [(p, 16, false), (p + 272, 1, true)]) 294 2 = getN M 294 2 := by
 have hla := askF_len (M := M) (p := p) (s := s) (by omega)
 have hfl : 2 ≤ free.length := by
   have := congrArg List.length ht
   rw [List.length_take] at this
   simp only [List.length_cons, List.length_nil] at this; omega
 have hA := AddW (M := askF M p 4 s) (free := free) (l := [(p, 16, false), (p + 272, 1, true)]) (by omega) hnd hlt (by show 0 < 2; decide) (by show 2 ≤ _; exact hfl) (parts_ok2 hp2)
 have hf := add16_frame (av := av) hA
 have hfa := askF_frame (M := M) (p := p) (s := s) (by omega)
 have n0 := add16_new (av := av) hA (j := 0) (by show 0 < 2; decide)
 have n1 := add16_new (av := av) hA (j := 1) (by show 1 < 2; decide)
 have hd0 := hA.hd.1
 rw [show free.take ([(p, 16, false), (p + 272, 1, true)] : List Pt).length = [h, h + 1] from ht] at n0 n1 hd0
 have hh : free.getD 0 0 = h := hd0.symm
 refine ⟨⟨n0, n1⟩, ?_, ?_, ?_, ?_⟩
 · exact addM_idx hA
 · rw [addM_at hA]; exact hh
 · rw [addM_len hA]; omega
 · rw [hf.getN (by omega), hfa.getN (by omega)]
theorem flush_old {M E free : List Nat} {p s h av h' p' s' : Nat} (H : PW M h' p' s' E) (hl : M.length = 1700) (hp : 424 ≤ p) (hp2 : p + 288 ≤ 1700) (hnd : free.Nodup) (hlt : ∀ d ∈ free, d < 16) (ht : free.take 2 = [h, h + 1]) (hh : h' + 3 ≤ h ∨ h + 2 ≤ h') (h16 : h' + 2 < 16) (h4 : 424 ≤ p') (hap : p' + 288 ≤ p ∨ p + 288 ≤ p') {sl : Nat} (hs : sl < 16) (hne : av % 16 ≠ sl) :
   PW (addM (askF M p 4 s) 0 16 av free [(p, 16, false), (p + 272, 1, true)]) h' p' s' E ∧ getN (addM (askF M p 4 s) 0 16 av free [(p, 16, false), (p + 272, 1, true)]) (0 + (16 * 16 + (4 + 2 * sl))) 2 = getN M (0 + (16 * 16 + (4 + 2 * sl))) 2 := by
 have hla := askF_len (M := M) (p := p) (s := s) (by omega)
 have hfl : 2 ≤ free.length := by
   have := congrArg List.length ht
   rw [List.length_take] at this
   simp only [List.length_cons, List.length_nil] at this; omega
 have hA := AddW (M := askF M p 4 s) (free := free) (l := [(p, 16, false), (p + 272, 1, true)]) (by omega) hnd hlt (by show 0 < 2; decide) (by show 2 ≤ _; exact hfl) (parts_ok2 hp2)
 have hfa := askF_frame (M := M) (p := p) (s := s) (by omega)
 have e : free.take ([(p, 16, false), (p + 272, 1, true)] : List Pt).length = [h, h + 1] := ht
 refine ⟨PW.add (H.keep hfa (by omega) (by omega)) hA ?_ ?_ ?_ h16 (by omega), ?_⟩
 · rw [e]; simp only [List.mem_cons, List.not_mem_nil, or_false, not_or]; omega
 · rw [e]; simp only [List.mem_cons, List.not_mem_nil, or_false, not_or]; omega
 · rw [e]; simp only [List.mem_cons, List.not_mem_nil, or_false, not_or]; omega
 · rw [add16_slot hA hs hne, hfa.getN (by omega)]
theorem zeros_put : putB (List.replicate 1700 0) 0 (List.replicate 424 0) = List.replicate 1700 0 := by
 unfold putB
 rw [List.take_zero, List.nil_append, List.length_replicate, List.drop_replicate, List.replicate_append_replicate]
theorem zeros_getB {n p k : Nat} (h : p + k ≤ n) : getB (List.replicate n 0) p k = List.replicate k 0 := by
 unfold getB
 rw [List.drop_replicate, List.take_replicate, Nat.min_eq_left (by omega)]
theorem zeros_getN2 {p : Nat} (h : p + 2 ≤ 1700) : getN (List.replicate 1700 0) p 2 = 0 := by
 unfold getN
 rw [zeros_getB h]
 decide
end Go.Proofs.Qu
end
