import Derived.Test.YthenepdbgeafkaaGAK
import Derived.Shelf.Spec.SlicesGrow
set_option linter.unusedSimpArgs false
set_option linter.unusedVariables false
set_option maxRecDepth 100000
set_option maxHeartbeats 4000000
section
/-
 slices.Concat of bytes; bytes.Clone; slices.Clone of spans.
-/
namespace Go.Proofs.Ythenepdbgeafkaa
open Go.Proofs.Wi Go.RowKit
theorem infoBz : (Try.prog.info? 5).map (fun i => (i.zero, i.size, i.bytes)) = some (some (.int .u8 0), 1, 1) := by kernel_rfl
def OwnR (k : Nat) (c : List Value) (w : World) (e : Ending) (w' : World) : Prop := ∃ v x, e = .returned v ∧ AppRow v k c x ∧ New w w' ∧ w.heap.size ≤ x.1 ∧ w'.rowD x.1 = x.2 ∧ w'.soft x.1 = true
theorem OwnR.of {k : Nat} {c : List Value} {w w' : World} {v : Value} {x : Nat × Array Value} {L : LV} {R : LR} (hr : AppRow v k c x) (hv : Mem w w' (x :: L) R) : OwnR k c w (.returned v) w' :=
 ⟨v, x, rfl, hr, hv.below, (hv.vars.rows x (List.mem_cons_self ..)).2.2, (hv.vars.rows x (List.mem_cons_self ..)).1, (hv.vars.rows x (List.mem_cons_self ..)).2.1⟩
theorem new_drew (w : World) : New w w.drew := ⟨rfl, rfl, rfl, Nat.le_refl _, fun _ _ => rfl⟩
def GrowR (w : World) (t : TypeId) (e : Ending) (w' : World) : Prop := ∃ G z, e = .returned (.slice (some ⟨w.heap.size, 0, none⟩) 0 G) ∧ G ≤ maxLen ∧ z.size = G ∧ w' = w.drew.alloc (.cells z t)
theorem Grow_nil (n : Nat) (h0 : 0 < n) (hn : n ≤ 1000000) (w : World) : Calls Try.prog 54 #[.slice none 0 0, .int .i64 n] w (GrowR w 5) := by
 obtain ⟨i0, hi0, hz0, hs0, hb0⟩ := info_parts infoBz
 have hrz : ∀ ty, (Builtin.append_ #[23, 3] ty #[.slice none 0 0, .int .i64 n]).run Try.prog w =
     .ok (.slice (some ⟨w.heap.size, 0, none⟩) (0 + n) (grownCap w (0 + n) 0 5)) (w.drew.alloc (.cells (([] : List Value).toArray ++ Builtin.zeroCells (Value.int .u8 0).cells n ++ Builtin.zeroCells (Value.int .u8 0).cells (grownCap w (0 + n) 0 5 - (0 + n))) 5)) := fun ty =>
   Lib.run_append_grow_zeros w 23 3 ty 5 i0 (.int .u8 0) .i64 .i64 Try.underlying23 Try.underlying3 hi0 hz0 none 0 0 [] (run_firstCells_none w.drew i0.size 0 0 0) n h0 (by rw [hs0]; exact Nat.one_pos) (by first | omega | (unfold maxLen; omega)) (by first | omega | (unfold maxLen; omega)) (by rw [hb0]; omega) (growslice_fits (by omega) (by rw [hb0]; omega))
 obtain ⟨G, hG⟩ : ∃ G, grownCap w (0 + n) 0 5 = G := ⟨_, rfl⟩
 have hge := grownCap_ge w (0 + n) 0 5
 have hle := grownCap_le_maxLen w (0 + n) 0 5 (by unfold maxLen; omega)
 rw [hG] at hrz hge hle
 have q1 : IntKind.i64.wrap (n : Int) = (n : Int) := IntWalk.i64_in _ (by omega)
 have q2 : (0 : Int) < (n : Int) := by omega
 have q3 : ¬ (n : Int) < 0 := by omega
 obtain ⟨z, hz⟩ : ∃ z, (([] : List Value).toArray ++ Builtin.zeroCells (Value.int .u8 0).cells n ++ Builtin.zeroCells (Value.int .u8 0).cells (G - (0 + n))) = z := ⟨_, rfl⟩
 have hzs : z.size = G := by
   rw [← hz]
   simp only [Array.size_append, List.size_toArray, size_zeroCells, List.length_nil]
   simp [Value.cells]
   omega
 rw [hz] at hrz
 have HG : Hid (0 + n ≤ G ∧ G ≤ maxLen) := Lib.hid ⟨hge, hle⟩
 have HZ := Lib.hid hzs
 clear hz hG hge hle hn hzs
 go_enter Try.func54, Try.ntmps54
 go_wp2_with (at_builtin; refine Lib.wpList_append_run _ rfl _ _ _ _ rfl _ _ rfl rfl _ _ (hrz _) ?_)
 all_goals (go_ret; exact ⟨G, z, rfl, HG.out.2, HZ.out, rfl⟩)
theorem BClone_isnil (a : Option Addr) (l c : Nat) (w : World) : (binOp .eql 23 (.slice a l c) (.slice none 0 0)).run Try.prog w = .ok (.bool a.isNone) w := by
 simp [binOp, Sem.run_bind, run_equal_slice_nil w 23 _ a l c Try.underlying23]
theorem BClone_nil (w : World) : Calls Try.prog 63 #[.slice none 0 0] w fun e w' => e = .returned (.slice none 0 0) ∧ w = w' := by
 have hnil := BClone_isnil
 go_enter Try.func63, Try.ntmps63
 go_wp2
 go_ret
 exact ⟨rfl, rfl⟩
theorem BClone_row (a : Addr) (n cap : Nat) (c : List Value) (w : World) (hr : Rd w 1 (.slice (some a) n cap) c) (h1 : ∀ x ∈ c, x.oneCell' = true) (hn : n ≤ 1000000) : Calls Try.prog 63 #[.slice (some a) n cap] w (OwnR 1 c w) := by
 have hv := (Mem.nil w).old hr
 have hl : c.length = n * 1 := by
   obtain ⟨_, _, _, e, g, _⟩ := hr
   cases e; exact g
 have H1 := Lib.hid h1
 have HA1 : Hid ((([] : List Value).length + c.length) / 1 ≤ maxLen) := Lib.hid (by rw [hl]; simp only [List.length_nil]; unfold maxLen; omega)
 have HA2 : Hid ((([] : List Value).length + c.length) / 1 * 1 ≤ 140737488355328) := Lib.hid (by rw [hl]; simp only [List.length_nil]; omega)
 have hnil := BClone_isnil
 clear hl h1 hn hr
 go_enter Try.func63, Try.ntmps63
 go_wp2_with (first
   | ((with_reducible refine at_append (t := 23) ?_); replace hv := hv.madeAt ⟨rfl, made_alloc _ #[] 5⟩; refine wl_apph rfl rfl hv (Any.AppRow.zero _ 1) (.int .u8 0) 1 Try.underlying23 infoBz rfl (by decide) rfl (hv.rd Mem.z) H1.out HA1.out HA2.out ?_; intro v3 w3 x3 hrow hv1; replace hv := hv1; clear hv1; obtain ⟨n3, c3, rfl, g3⟩ := id hrow; replace g3 := Lib.hid g3; replace hrow := Lib.hid hrow))
 go_ret
 exact OwnR.of (by have := hrow.out; rwa [List.nil_append] at this) hv
theorem SClone_isnil (a : Option Addr) (l c : Nat) (w : World) : (binOp .eql 89 (.slice a l c) (.slice none 0 0)).run Try.prog w = .ok (.bool a.isNone) w := by
 simp [binOp, Sem.run_bind, run_equal_slice_nil w 89 _ a l c Try.underlying89]
theorem SClone_nil (w : World) : Calls Try.prog 78 #[.slice none 0 0] w fun e w' => e = .returned (.slice none 0 0) ∧ w = w' := by
 have hnil := SClone_isnil
 go_enter Try.func78, Try.ntmps78
 go_wp2
 go_ret
 exact ⟨rfl, rfl⟩
theorem SClone_row (a : Addr) (n cap : Nat) (c : List Value) (w : World) (hr : Rd w 2 (.slice (some a) n cap) c) (h1 : ∀ x ∈ c, x.oneCell' = true) (hn : n ≤ 1000000) : Calls Try.prog 78 #[.slice (some a) n cap] w (OwnR 2 c w) := by
 have hv := (Mem.nil w).old hr
 have hl : c.length = n * 2 := by
   obtain ⟨_, _, _, e, g, _⟩ := hr
   cases e; exact g
 have H1 := Lib.hid h1
 have HA1 : Hid ((([] : List Value).length + c.length) / 2 ≤ maxLen) := Lib.hid (by rw [hl]; simp only [List.length_nil]; unfold maxLen; omega)
 have HA2 : Hid ((([] : List Value).length + c.length) / 2 * 32 ≤ 140737488355328) := Lib.hid (by rw [hl]; simp only [List.length_nil]; omega)
 have hnil := SClone_isnil
 clear hl h1 hn hr
 go_enter Try.func78, Try.ntmps78
 go_wp2_with (first
   | ((with_reducible refine at_append (t := 89) ?_); replace hv := hv.madeAt ⟨rfl, made_alloc _ #[] 92⟩; refine wl_apph rfl rfl hv (Any.AppRow.zero _ 2) (.agg #[.int .i64 0, .slice none 0 0]) 32 Try.underlying89 infoSpz rfl (by decide) rfl (hv.rd Mem.z) H1.out HA1.out HA2.out ?_; intro v3 w3 x3 hrow hv1; replace hv := hv1; clear hv1; obtain ⟨n3, c3, rfl, g3⟩ := id hrow; replace g3 := Lib.hid g3; replace hrow := Lib.hid hrow))
 go_ret
 exact OwnR.of (by have := hrow.out; rwa [List.nil_append] at this) hv
theorem Concat_any (parts : List (Value × List Nat)) (sb so m mc : Nat) (w0 w : World) (L : LV) (R : LR) (hv0 : Mem w0 w L R) (hs : (1, .slice (some ⟨sb, so, none⟩) m mc, parts.map (·.1)) ∈ R) (hal : ∀ p ∈ parts, (1, p.1, cellsB p.2) ∈ R) (hm : m ≤ 1000)
   (ht0 : 0 < (parts.flatMap (·.2)).length) (htm : (parts.flatMap (·.2)).length ≤ 1000000) : Calls Try.prog 27 #[.slice (some ⟨sb, so, none⟩) m mc] w (OwnR 1 (cellsB (parts.flatMap (·.2))) w) := by
 have hv := hv0.base
 have HS := Lib.hid hs
 have HA := Lib.hid hal
 have hpm : parts.length = m := by
   obtain ⟨_, _, _, e, g, _⟩ := hv0.rd hs
   cases e
   simpa using g
 have HPM := Lib.hid hpm
 obtain ⟨tot, htot⟩ : ∃ tot, tot = (parts.flatMap (·.2)).length := ⟨_, rfl⟩
 have HT0 : Hid (0 < tot) := Lib.hid (by rw [htot]; exact ht0)
 have HTM : Hid (tot ≤ 1000000) := Lib.hid (by rw [htot]; exact htm)
 have HTE := Lib.hid htot
 have hsum : ∀ k, ((parts.take k).flatMap (·.2)).length ≤ tot := fun k => by
   rw [htot]
   conv => rhs; rw [← List.take_append_drop k parts, List.flatMap_append, List.length_append]
   omega
 have HSUM := Lib.hid hsum
 clear hs hal hpm ht0 htm htot hsum hv0
 go_enter Try.func27, Try.ntmps27
 go_wp2
 go_loopw [3, 11] (fun sv i wr => ∃ k : Nat, k ≤ m ∧ i = .int .i64 k ∧ sv = .int .i64 ((((parts.take k).flatMap (·.2)).length : Nat) : Int) ∧ Mem w wr [] R) (fun _ i _ => m - (intOf i).toNat)
 case atStart => exact ⟨0, Nat.zero_le _, rfl, rfl, hv⟩
 case round =>
   clear hv
   obtain ⟨k, hk, rfl, rfl, hv⟩ := hrel
   by_cases hk2 : k < m
   · have hki : (k : Int) < (m : Int) := by omega
     have hkl : k < parts.length := by rw [HPM.out]; exact hk2
     obtain ⟨⟨pv, pb⟩, hp⟩ : ∃ p, parts[k] = p := ⟨_, rfl⟩
     have hdm := HA.out parts[k] (List.getElem_mem hkl)
     rw [hp] at hdm
     obtain ⟨pa, pn, pc, rfl, _⟩ := id (hv.rd hdm)
     have hpn : pb.length = pn := len_rd1 (hv.rd hdm)
     have HK : Hid ((parts.map (·.1))[k]? = some (.slice pa pn pc)) := Lib.hid (by rw [List.getElem?_map, List.getElem?_eq_getElem hkl, hp]; rfl)
     have hTk : ((parts.take (k + 1)).flatMap (·.2)).length = ((parts.take k).flatMap (·.2)).length + pn := by rw [List.take_succ_eq_append_getElem hkl, hp, List.flatMap_append, List.length_append, ← hpn]; simp
     have HTK := Lib.hid hTk
     obtain ⟨a, ha⟩ : ∃ a, ((parts.take k).flatMap (·.2)).length = a := ⟨_, rfl⟩
     have hb1 := HSUM.out (k + 1)
     rw [hTk, ha] at hb1
     have hb2 := HTM.out
     rw [ha] at HTK ⊢
     clear hp hdm hpn hkl hTk ha
     go_wp2_with (first
       | ((with_reducible refine at_load (T := 23) ?_); refine wl_rd rfl (hv.rd HS.out) k rfl _ Try.underlying23 rfl (.slice pa pn pc) HK.out ?_))
     go_roundw
     case rel => exact ⟨k + 1, by omega, by go_num, by rw [HTK.out]; go_num, hv⟩
     case measure => simp [intOf]; omega
   · have hki : ¬ (k : Int) < (m : Int) := by omega
     have hkm : parts.take k = parts := List.take_of_length_le (by rw [HPM.out]; omega)
     rw [hkm, ← HTE.out]
     clear hk hk2 hkm
     go_wp2_with (first
       | (go_at_call 54; (with_reducible refine (Grow_nil _ HT0.out HTM.out _).mono ?_); rintro e w7 ⟨G, z, rfl, hG, hz, rfl⟩; replace hv := hv.new (new_drew _)))
     replace hv := hv.madeAt ⟨rfl, made_alloc _ z 5⟩
     have hrow0 : ∀ b, AppRow (.slice (some ⟨b, 0, none⟩) 0 G) 1 (cellsB (([] : List (Value × List Nat)).flatMap (·.2))) (b, z) := fun b => ⟨0, G, rfl, rfl, Nat.zero_le _, hG, by simp only; omega, by simp [cellsB]⟩
     go_loopw [6, 27] (fun v i wr => ∃ (k : Nat) (x0 : Nat × Array Value), k ≤ m ∧ i = .int .i64 k ∧ AppRow v 1 (cellsB ((parts.take k).flatMap (·.2))) x0 ∧ Mem w wr [x0] R) (fun _ i _ => m - (intOf i).toNat)
     case atStart => exact ⟨0, _, Nat.zero_le _, rfl, hrow0 _, hv⟩
     case round =>
       clear hv hrow0
       obtain ⟨k, x0, hk, rfl, hrow, hv⟩ := hrel
       by_cases hk2 : k < m
       · have hki : (k : Int) < (m : Int) := by omega
         have hkl : k < parts.length := by rw [HPM.out]; exact hk2
         obtain ⟨⟨pv, pb⟩, hp⟩ : ∃ p, parts[k] = p := ⟨_, rfl⟩
         have hdm := HA.out parts[k] (List.getElem_mem hkl)
         rw [hp] at hdm
         obtain ⟨pa, pn, pc, rfl, _⟩ := id (hv.rd hdm)
         have HK : Hid ((parts.map (·.1))[k]? = some (.slice pa pn pc)) := Lib.hid (by rw [List.getElem?_map, List.getElem?_eq_getElem hkl, hp]; rfl)
         have HTK : Hid (cellsB ((parts.take k).flatMap (·.2)) ++ cellsB pb = cellsB ((parts.take (k + 1)).flatMap (·.2))) := Lib.hid (by rw [List.take_succ_eq_append_getElem hkl, hp, List.flatMap_append]; simp [cellsB])
         have hb1 := HSUM.out (k + 1)
         have hb2 := HTM.out
         have hle : (cellsB ((parts.take k).flatMap (·.2))).length + (cellsB pb).length ≤ 1000000 := by rw [← List.length_append, HTK.out, cellsB_len]; omega
         have HB1 : Hid (((cellsB ((parts.take k).flatMap (·.2))).length + (cellsB pb).length) / 1 ≤ maxLen) := Lib.hid (by unfold maxLen; omega)
         have HB2 : Hid (((cellsB ((parts.take k).flatMap (·.2))).length + (cellsB pb).length) / 1 * 1 ≤ 140737488355328) := Lib.hid (by omega)
         have HDM := Lib.hid hdm
         have HROW := Lib.hid hrow
         obtain ⟨rn, rc, rfl, _⟩ := id hrow
         have hkb : (k : Int) ≤ 1000 := by omega
         clear hp hdm hkl hb1 hb2 hle hrow
         go_wp2_with (first
           | ((with_reducible refine at_load (T := 23) ?_); refine wl_rd rfl (hv.rd HS.out) k rfl _ Try.underlying23 rfl (.slice pa pn pc) HK.out ?_)
           | ((with_reducible refine at_append (t := 23) ?_); refine wl_apph rfl rfl hv HROW.out (.int .u8 0) 1 Try.underlying23 infoBz rfl (by decide) rfl (hv.rd HDM.out) (cellsB_one _) HB1.out HB2.out ?_; intro v3 w3 x3 hrow3 hv1; replace hv := hv1; clear hv1; replace hrow3 := Lib.hid hrow3))
         go_roundw
         case rel => exact ⟨k + 1, x3, by omega, by go_num, by rw [← HTK.out]; exact hrow3.out, hv⟩
         case measure => simp [intOf]; omega
       · have hki : ¬ (k : Int) < (m : Int) := by omega
         have hkm : parts.take k = parts := List.take_of_length_le (by rw [HPM.out]; omega)
         rw [hkm] at hrow
         have HROW := Lib.hid hrow
         obtain ⟨rn, rc, rfl, _⟩ := id hrow
         clear hk hk2 hkm hrow
         go_wp2
         go_ret
         exact OwnR.of HROW.out hv
end Go.Proofs.Ythenepdbgeafkaa
end

section
/-
 window.Read; Take of a stream that may not be.
-/
namespace Go.Proofs.Wi
def clampN (n : Int) (m : Nat) : Nat := if n ≤ 0 then 0 else min n.toNat m
end Go.Proofs.Wi
namespace Go.Proofs.Ythenepdbgeafkaa
open Go.Proofs.Wi Go.RowKit
theorem BClone_mem (ao : Option Addr) (n cap : Nat) (c : List Value) (w0 w : World) (L : LV) (R : LR) (hv : Mem w0 w L R) (hm : (1, .slice ao n cap, c) ∈ R) (h1 : ∀ x ∈ c, x.oneCell' = true) (hn : n ≤ 1000000) :
   Calls Try.prog 63 #[.slice ao n cap] w fun e w' => ∃ ra rn rcp, e = .returned (.slice ra rn rcp) ∧ Mem w0 w' L ((1, .slice ra rn rcp, c) :: R) := by
 cases ao with
 | none =>
   obtain ⟨ao', n', cap', e, g1, g2, g3, g4, g5⟩ := id (hv.rd hm)
   cases e
   obtain ⟨rfl, rfl⟩ := g4 rfl
   have hc : c = [] := List.length_eq_zero_iff.1 (by omega)
   subst hc
   refine (BClone_nil w).mono ?_
   rintro e w' ⟨rfl, rfl⟩
   exact ⟨none, 0, 0, rfl, hv.fresh (Below.refl _ _) (FR.nil _ _ 1)⟩
 | some a =>
   refine (BClone_row a n cap c w (hv.rd hm) h1 hn).mono ?_
   rintro e w' ⟨v, x, rfl, hr, h2, h3, h4, h5⟩
   obtain ⟨m, cp, rfl, _⟩ := id hr
   exact ⟨_, m, cp, rfl, Mem.yield (L1 := []) (hv.lay' h3 h2 h4 h5) hr⟩
def ReadR (w0 : World) (L : LV) (R : LR) (next : Nat) (pa : Option Addr) (pn pc : Nat) (bs : List Nat) (k : Nat) (e : Ending) (w' : World) : Prop :=
 ∃ ba bn bc ga gn gc, e = .returned (.tuple #[.agg #[.int .u32 next, .slice ba bn bc, .slice pa pn pc], .slice ga gn gc]) ∧ Mem w0 w' L ((1, .slice ba bn bc, cellsB (bs.drop k)) :: (1, .slice ga gn gc, cellsB (bs.take k)) :: R)
theorem cells_sub1 (bs : List Nat) {c : List Value} (h : ∀ x ∈ c, x ∈ cellsB bs) : ∀ x ∈ c, x.oneCell' = true := fun x hx => cellsB_one bs x (h x hx)
theorem Read_le (next : Nat) (ba pa : Option Addr) (bn bc pn pc : Nat) (bs : List Nat) (l : List PcV) (n : Int) (w0 w : World) (L : LV) (R : LR) (hv0 : Mem w0 w L R) (hb : (1, .slice ba bn bc, cellsB bs) ∈ R) (hp : (2, .slice pa pn pc, cellsP l) ∈ R) (hal : AllP R l) (hpn : pn ≤ 1000) (hbn : bs.length ≤ 1000000) (hdl : ∀ p ∈ l, p.2.2.length ≤ 1000000) (hck : chk (stOf next bs l) = true) (hn0 : n ≤ 0) : Calls Try.prog 37 #[.agg #[.int .u32 next, .slice ba bn bc, .slice pa pn pc], .int .i64 n] w (ReadR w0 L R next pa pn pc bs (clampN n bs.length)) := by
 have hv := hv0
 have HBM := Lib.hid hb
 have HP := Lib.hid hp
 have HA := Lib.hid hal
 have hbl := len_rd1 (hv0.rd hb)
 have kC : ∀ w' L' R', Mem w0 w' L' R' → (1, .slice ba bn bc, cellsB bs) ∈ R' → (2, .slice pa pn pc, cellsP l) ∈ R' → AllP R' l → Calls Try.prog 41 #[.agg #[.int .u32 next, .slice ba bn bc, .slice pa pn pc]] w' fun e w2 => e = .returned (.bool true) ∧ New w' w2 := fun w' L' R' h1 h2 h3 h4 => by
   have := Check_any next ba pa bn bc pn pc bs l w0 w' L' R' h1 h2 h3 h4 hpn hbn hdl
   rwa [hck] at this
 have e : clampN n bs.length = 0 := by unfold clampN; exact if_pos hn0
 rw [e]
 have HKB : Hid (0 ≤ bn) := Lib.hid (by omega)
 have HKX : Hid (max 0 (min n (bn : Int)) = ((0 : Nat) : Int)) := Lib.hid (by omega)
 have HKM : Hid (0 ≤ 1000000) := Lib.hid (by omega)
 have HKD : Hid (bn - 0 ≤ 1000000) := Lib.hid (by omega)
 have HBN6 : Hid (bn ≤ 1000000) := Lib.hid (by omega)
 clear hv0 hb hp hal hpn hbn hdl hbl hck e hn0
 go_enter Try.func37, Try.ntmps37
 go_wp2_with (first
   | ((with_reducible refine gBx 27 2 ?_); refine nwB hv #[.int .u32 next, .slice ba bn bc, .slice pa pn pc] 27 ?_; clear hv; intro b2 w2 hv)
   | ((with_reducible refine gAl 27 4 ?_); refine nwB hv #[.int .u32 0, .slice none 0 0, .slice none 0 0] 27 ?_; clear hv; intro b4 w2 hv)
   | ((with_reducible refine gLd 27 ?_); refine ldV hv b2 3 Try.underlying27 infoStr ?_)
   | (go_at_call 41; (with_reducible refine (kC _ _ _ hv HBM.out HP.out HA.out).mono ?_); rintro e w1 ⟨rfl, hn1⟩; replace hv := hv.new hn1; clear hn1)
   | ((with_reducible refine gLd 23 ?_); refine ldC hv _ _ _ Try.underlying23 ?_)
   | ((with_reducible refine at_slice (T := 23) ?_); refine wl_slice_h rfl rfl hv HBM.out Try.underlying23 infoB1 0 (congrArg (Value.int IntKind.i64) HKX.out) HKB.out ?_; intro ao1 hv1; replace hv := hv1; clear hv1)
   | (go_at_call 63; (with_reducible refine (BClone_mem _ _ _ _ _ _ _ _ hv Mem.z (cells_sub1 bs (fun x hx => List.mem_of_mem_take hx)) (by first | exact HKM.out | (have := HBN6.out; omega))).mono ?_); rintro e w1 ⟨ga, gn, gc, rfl, hv1⟩; replace hv := hv1; clear hv1)
   | ((with_reducible refine at_slice (T := 23) ?_); refine wl_slice_l rfl rfl hv (Mem.s (Mem.s HBM.out)) Try.underlying23 infoB1 0 (congrArg (Value.int IntKind.i64) HKX.out) HKB.out ?_; intro ao2 hv1; replace hv := hv1; clear hv1; try simp only [Nat.sub_zero, Nat.sub_self] at hv)
   | (go_at_call 63; (with_reducible refine (BClone_mem _ _ _ _ _ _ _ _ hv Mem.z (cells_sub1 bs (fun x hx => List.mem_of_mem_drop hx)) (by first | exact HKD.out | (have := HBN6.out; omega))).mono ?_); rintro e w1 ⟨ca, cn, cc, rfl, hv1⟩; replace hv := hv1; clear hv1)
   | ((with_reducible refine gSt 23 ?_); refine stC hv b2 1 (.slice ca cn cc) ?_; clear hv; intro w2 hv)
   | ((with_reducible refine gSt 27 ?_); refine stV hv b4 3 infoStr ?_; clear hv; intro w2 hv))
 simp only [Nat.mul_one] at hv
 refine ret_cell2 Try.results37 rfl (read_row _ b4 27 _ hv.vars.ro 3 _ Try.underlying27 rfl infoStr (by decide) rfl) rfl rfl ⟨ca, cn, cc, ga, gn, gc, rfl, by simp only [cellsB, List.map_take, List.map_drop]; exact (hv.drop.drop).keepR (fun y hy => by rcases List.mem_cons.1 hy with rfl | hy; exact Mem.z; rcases List.mem_cons.1 hy with rfl | hy; exact Mem.s (Mem.s Mem.z); exact Mem.s (Mem.s (Mem.s (Mem.s hy))))⟩
theorem Read_in (next : Nat) (ba pa : Option Addr) (bn bc pn pc : Nat) (bs : List Nat) (l : List PcV) (n : Int) (w0 w : World) (L : LV) (R : LR) (hv0 : Mem w0 w L R) (hb : (1, .slice ba bn bc, cellsB bs) ∈ R) (hp : (2, .slice pa pn pc, cellsP l) ∈ R) (hal : AllP R l) (hpn : pn ≤ 1000) (hbn : bs.length ≤ 1000000) (hdl : ∀ p ∈ l, p.2.2.length ≤ 1000000) (hck : chk (stOf next bs l) = true) (hn0 : 0 < n) (hn1 : n ≤ bn) : Calls Try.prog 37 #[.agg #[.int .u32 next, .slice ba bn bc, .slice pa pn pc], .int .i64 n] w (ReadR w0 L R next pa pn pc bs (clampN n bs.length)) := by
 have hv := hv0
 have HBM := Lib.hid hb
 have HP := Lib.hid hp
 have HA := Lib.hid hal
 have hbl := len_rd1 (hv0.rd hb)
 have kC : ∀ w' L' R', Mem w0 w' L' R' → (1, .slice ba bn bc, cellsB bs) ∈ R' → (2, .slice pa pn pc, cellsP l) ∈ R' → AllP R' l → Calls Try.prog 41 #[.agg #[.int .u32 next, .slice ba bn bc, .slice pa pn pc]] w' fun e w2 => e = .returned (.bool true) ∧ New w' w2 := fun w' L' R' h1 h2 h3 h4 => by
   have := Check_any next ba pa bn bc pn pc bs l w0 w' L' R' h1 h2 h3 h4 hpn hbn hdl
   rwa [hck] at this
 obtain ⟨k, rfl⟩ : ∃ k : Nat, n = (k : Int) := ⟨n.toNat, by omega⟩
 have e : clampN (k : Int) bs.length = k := by unfold clampN; rw [if_neg (by omega)]; omega
 rw [e]
 have HKB : Hid (k ≤ bn) := Lib.hid (by omega)
 have HKX : Hid (max 0 (min (k : Int) (bn : Int)) = ((k : Nat) : Int)) := Lib.hid (by omega)
 have HKM : Hid (k ≤ 1000000) := Lib.hid (by omega)
 have HKD : Hid (bn - k ≤ 1000000) := Lib.hid (by omega)
 have HBN6 : Hid (bn ≤ 1000000) := Lib.hid (by omega)
 clear hv0 hb hp hal hpn hbn hdl hbl hck e hn0 hn1
 go_enter Try.func37, Try.ntmps37
 go_wp2_with (first
   | ((with_reducible refine gBx 27 2 ?_); refine nwB hv #[.int .u32 next, .slice ba bn bc, .slice pa pn pc] 27 ?_; clear hv; intro b2 w2 hv)
   | ((with_reducible refine gAl 27 4 ?_); refine nwB hv #[.int .u32 0, .slice none 0 0, .slice none 0 0] 27 ?_; clear hv; intro b4 w2 hv)
   | ((with_reducible refine gLd 27 ?_); refine ldV hv b2 3 Try.underlying27 infoStr ?_)
   | (go_at_call 41; (with_reducible refine (kC _ _ _ hv HBM.out HP.out HA.out).mono ?_); rintro e w1 ⟨rfl, hn1⟩; replace hv := hv.new hn1; clear hn1)
   | ((with_reducible refine gLd 23 ?_); refine ldC hv _ _ _ Try.underlying23 ?_)
   | ((with_reducible refine at_slice (T := 23) ?_); refine wl_slice_h rfl rfl hv HBM.out Try.underlying23 infoB1 k (congrArg (Value.int IntKind.i64) HKX.out) HKB.out ?_; intro ao1 hv1; replace hv := hv1; clear hv1)
   | (go_at_call 63; (with_reducible refine (BClone_mem _ _ _ _ _ _ _ _ hv Mem.z (cells_sub1 bs (fun x hx => List.mem_of_mem_take hx)) (by first | exact HKM.out | (have := HBN6.out; omega))).mono ?_); rintro e w1 ⟨ga, gn, gc, rfl, hv1⟩; replace hv := hv1; clear hv1)
   | ((with_reducible refine at_slice (T := 23) ?_); refine wl_slice_l rfl rfl hv (Mem.s (Mem.s HBM.out)) Try.underlying23 infoB1 k (congrArg (Value.int IntKind.i64) HKX.out) HKB.out ?_; intro ao2 hv1; replace hv := hv1; clear hv1; try simp only [Nat.sub_zero, Nat.sub_self] at hv)
   | (go_at_call 63; (with_reducible refine (BClone_mem _ _ _ _ _ _ _ _ hv Mem.z (cells_sub1 bs (fun x hx => List.mem_of_mem_drop hx)) (by first | exact HKD.out | (have := HBN6.out; omega))).mono ?_); rintro e w1 ⟨ca, cn, cc, rfl, hv1⟩; replace hv := hv1; clear hv1)
   | ((with_reducible refine gSt 23 ?_); refine stC hv b2 1 (.slice ca cn cc) ?_; clear hv; intro w2 hv)
   | ((with_reducible refine gSt 27 ?_); refine stV hv b4 3 infoStr ?_; clear hv; intro w2 hv))
 simp only [Nat.mul_one] at hv
 refine ret_cell2 Try.results37 rfl (read_row _ b4 27 _ hv.vars.ro 3 _ Try.underlying27 rfl infoStr (by decide) rfl) rfl rfl ⟨ca, cn, cc, ga, gn, gc, rfl, by simp only [cellsB, List.map_take, List.map_drop]; exact (hv.drop.drop).keepR (fun y hy => by rcases List.mem_cons.1 hy with rfl | hy; exact Mem.z; rcases List.mem_cons.1 hy with rfl | hy; exact Mem.s (Mem.s Mem.z); exact Mem.s (Mem.s (Mem.s (Mem.s hy))))⟩
theorem Read_gt (next : Nat) (ba pa : Option Addr) (bn bc pn pc : Nat) (bs : List Nat) (l : List PcV) (n : Int) (w0 w : World) (L : LV) (R : LR) (hv0 : Mem w0 w L R) (hb : (1, .slice ba bn bc, cellsB bs) ∈ R) (hp : (2, .slice pa pn pc, cellsP l) ∈ R) (hal : AllP R l) (hpn : pn ≤ 1000) (hbn : bs.length ≤ 1000000) (hdl : ∀ p ∈ l, p.2.2.length ≤ 1000000) (hck : chk (stOf next bs l) = true) (hn0 : (bn : Int) < n) (hn1 : 0 < bn) : Calls Try.prog 37 #[.agg #[.int .u32 next, .slice ba bn bc, .slice pa pn pc], .int .i64 n] w (ReadR w0 L R next pa pn pc bs (clampN n bs.length)) := by
 have hv := hv0
 have HBM := Lib.hid hb
 have HP := Lib.hid hp
 have HA := Lib.hid hal
 have hbl := len_rd1 (hv0.rd hb)
 have kC : ∀ w' L' R', Mem w0 w' L' R' → (1, .slice ba bn bc, cellsB bs) ∈ R' → (2, .slice pa pn pc, cellsP l) ∈ R' → AllP R' l → Calls Try.prog 41 #[.agg #[.int .u32 next, .slice ba bn bc, .slice pa pn pc]] w' fun e w2 => e = .returned (.bool true) ∧ New w' w2 := fun w' L' R' h1 h2 h3 h4 => by
   have := Check_any next ba pa bn bc pn pc bs l w0 w' L' R' h1 h2 h3 h4 hpn hbn hdl
   rwa [hck] at this
 have e : clampN n bs.length = bn := by unfold clampN; rw [if_neg (by omega)]; omega
 rw [e]
 have HKB : Hid (bn ≤ bn) := Lib.hid (by omega)
 have HKX : Hid (max 0 (min n (bn : Int)) = ((bn : Nat) : Int)) := Lib.hid (by omega)
 have HKM : Hid (bn ≤ 1000000) := Lib.hid (by omega)
 have HKD : Hid (bn - bn ≤ 1000000) := Lib.hid (by omega)
 have HBN6 : Hid (bn ≤ 1000000) := Lib.hid (by omega)
 clear hv0 hb hp hal hpn hbn hdl hbl hck e hn0 hn1
 go_enter Try.func37, Try.ntmps37
 go_wp2_with (first
   | ((with_reducible refine gBx 27 2 ?_); refine nwB hv #[.int .u32 next, .slice ba bn bc, .slice pa pn pc] 27 ?_; clear hv; intro b2 w2 hv)
   | ((with_reducible refine gAl 27 4 ?_); refine nwB hv #[.int .u32 0, .slice none 0 0, .slice none 0 0] 27 ?_; clear hv; intro b4 w2 hv)
   | ((with_reducible refine gLd 27 ?_); refine ldV hv b2 3 Try.underlying27 infoStr ?_)
   | (go_at_call 41; (with_reducible refine (kC _ _ _ hv HBM.out HP.out HA.out).mono ?_); rintro e w1 ⟨rfl, hn1⟩; replace hv := hv.new hn1; clear hn1)
   | ((with_reducible refine gLd 23 ?_); refine ldC hv _ _ _ Try.underlying23 ?_)
   | ((with_reducible refine at_slice (T := 23) ?_); refine wl_slice_h rfl rfl hv HBM.out Try.underlying23 infoB1 bn (congrArg (Value.int IntKind.i64) HKX.out) HKB.out ?_; intro ao1 hv1; replace hv := hv1; clear hv1)
   | (go_at_call 63; (with_reducible refine (BClone_mem _ _ _ _ _ _ _ _ hv Mem.z (cells_sub1 bs (fun x hx => List.mem_of_mem_take hx)) (by first | exact HKM.out | (have := HBN6.out; omega))).mono ?_); rintro e w1 ⟨ga, gn, gc, rfl, hv1⟩; replace hv := hv1; clear hv1)
   | ((with_reducible refine at_slice (T := 23) ?_); refine wl_slice_l rfl rfl hv (Mem.s (Mem.s HBM.out)) Try.underlying23 infoB1 bn (congrArg (Value.int IntKind.i64) HKX.out) HKB.out ?_; intro ao2 hv1; replace hv := hv1; clear hv1; try simp only [Nat.sub_zero, Nat.sub_self] at hv)
   | (go_at_call 63; (with_reducible refine (BClone_mem _ _ _ _ _ _ _ _ hv Mem.z (cells_sub1 bs (fun x hx => List.mem_of_mem_drop hx)) (by first | exact HKD.out | (have := HBN6.out; omega))).mono ?_); rintro e w1 ⟨ca, cn, cc, rfl, hv1⟩; replace hv := hv1; clear hv1)
   | ((with_reducible refine gSt 23 ?_); refine stC hv b2 1 (.slice ca cn cc) ?_; clear hv; intro w2 hv)
   | ((with_reducible refine gSt 27 ?_); refine stV hv b4 3 infoStr ?_; clear hv; intro w2 hv))
 simp only [Nat.mul_one] at hv
 refine ret_cell2 Try.results37 rfl (read_row _ b4 27 _ hv.vars.ro 3 _ Try.underlying27 rfl infoStr (by decide) rfl) rfl rfl ⟨ca, cn, cc, ga, gn, gc, rfl, by simp only [cellsB, List.map_take, List.map_drop]; exact (hv.drop.drop).keepR (fun y hy => by rcases List.mem_cons.1 hy with rfl | hy; exact Mem.z; rcases List.mem_cons.1 hy with rfl | hy; exact Mem.s (Mem.s Mem.z); exact Mem.s (Mem.s (Mem.s (Mem.s hy))))⟩
theorem Read_g0 (next : Nat) (ba pa : Option Addr) (bn bc pn pc : Nat) (bs : List Nat) (l : List PcV) (n : Int) (w0 w : World) (L : LV) (R : LR) (hv0 : Mem w0 w L R) (hb : (1, .slice ba bn bc, cellsB bs) ∈ R) (hp : (2, .slice pa pn pc, cellsP l) ∈ R) (hal : AllP R l) (hpn : pn ≤ 1000) (hbn : bs.length ≤ 1000000) (hdl : ∀ p ∈ l, p.2.2.length ≤ 1000000) (hck : chk (stOf next bs l) = true) (hn0 : (bn : Int) < n) (hn1 : bn = 0) : Calls Try.prog 37 #[.agg #[.int .u32 next, .slice ba bn bc, .slice pa pn pc], .int .i64 n] w (ReadR w0 L R next pa pn pc bs (clampN n bs.length)) := by
 have hv := hv0
 have HBM := Lib.hid hb
 have HP := Lib.hid hp
 have HA := Lib.hid hal
 have hbl := len_rd1 (hv0.rd hb)
 have kC : ∀ w' L' R', Mem w0 w' L' R' → (1, .slice ba bn bc, cellsB bs) ∈ R' → (2, .slice pa pn pc, cellsP l) ∈ R' → AllP R' l → Calls Try.prog 41 #[.agg #[.int .u32 next, .slice ba bn bc, .slice pa pn pc]] w' fun e w2 => e = .returned (.bool true) ∧ New w' w2 := fun w' L' R' h1 h2 h3 h4 => by
   have := Check_any next ba pa bn bc pn pc bs l w0 w' L' R' h1 h2 h3 h4 hpn hbn hdl
   rwa [hck] at this
 have e : clampN n bs.length = 0 := by unfold clampN; split <;> omega
 rw [e]
 have HKB : Hid (0 ≤ bn) := Lib.hid (by omega)
 have HKX : Hid (max 0 (min n (bn : Int)) = ((0 : Nat) : Int)) := Lib.hid (by omega)
 have HKM : Hid (0 ≤ 1000000) := Lib.hid (by omega)
 have HKD : Hid (bn - 0 ≤ 1000000) := Lib.hid (by omega)
 have HBN6 : Hid (bn ≤ 1000000) := Lib.hid (by omega)
 clear hv0 hb hp hal hpn hbn hdl hbl hck e hn0 hn1
 go_enter Try.func37, Try.ntmps37
 go_wp2_with (first
   | ((with_reducible refine gBx 27 2 ?_); refine nwB hv #[.int .u32 next, .slice ba bn bc, .slice pa pn pc] 27 ?_; clear hv; intro b2 w2 hv)
   | ((with_reducible refine gAl 27 4 ?_); refine nwB hv #[.int .u32 0, .slice none 0 0, .slice none 0 0] 27 ?_; clear hv; intro b4 w2 hv)
   | ((with_reducible refine gLd 27 ?_); refine ldV hv b2 3 Try.underlying27 infoStr ?_)
   | (go_at_call 41; (with_reducible refine (kC _ _ _ hv HBM.out HP.out HA.out).mono ?_); rintro e w1 ⟨rfl, hn1⟩; replace hv := hv.new hn1; clear hn1)
   | ((with_reducible refine gLd 23 ?_); refine ldC hv _ _ _ Try.underlying23 ?_)
   | ((with_reducible refine at_slice (T := 23) ?_); refine wl_slice_h rfl rfl hv HBM.out Try.underlying23 infoB1 0 (congrArg (Value.int IntKind.i64) HKX.out) HKB.out ?_; intro ao1 hv1; replace hv := hv1; clear hv1)
   | (go_at_call 63; (with_reducible refine (BClone_mem _ _ _ _ _ _ _ _ hv Mem.z (cells_sub1 bs (fun x hx => List.mem_of_mem_take hx)) (by first | exact HKM.out | (have := HBN6.out; omega))).mono ?_); rintro e w1 ⟨ga, gn, gc, rfl, hv1⟩; replace hv := hv1; clear hv1)
   | ((with_reducible refine at_slice (T := 23) ?_); refine wl_slice_l rfl rfl hv (Mem.s (Mem.s HBM.out)) Try.underlying23 infoB1 0 (congrArg (Value.int IntKind.i64) HKX.out) HKB.out ?_; intro ao2 hv1; replace hv := hv1; clear hv1; try simp only [Nat.sub_zero, Nat.sub_self] at hv)
   | (go_at_call 63; (with_reducible refine (BClone_mem _ _ _ _ _ _ _ _ hv Mem.z (cells_sub1 bs (fun x hx => List.mem_of_mem_drop hx)) (by first | exact HKD.out | (have := HBN6.out; omega))).mono ?_); rintro e w1 ⟨ca, cn, cc, rfl, hv1⟩; replace hv := hv1; clear hv1)
   | ((with_reducible refine gSt 23 ?_); refine stC hv b2 1 (.slice ca cn cc) ?_; clear hv; intro w2 hv)
   | ((with_reducible refine gSt 27 ?_); refine stV hv b4 3 infoStr ?_; clear hv; intro w2 hv))
 simp only [Nat.mul_one] at hv
 refine ret_cell2 Try.results37 rfl (read_row _ b4 27 _ hv.vars.ro 3 _ Try.underlying27 rfl infoStr (by decide) rfl) rfl rfl ⟨ca, cn, cc, ga, gn, gc, rfl, by simp only [cellsB, List.map_take, List.map_drop]; exact (hv.drop.drop).keepR (fun y hy => by rcases List.mem_cons.1 hy with rfl | hy; exact Mem.z; rcases List.mem_cons.1 hy with rfl | hy; exact Mem.s (Mem.s Mem.z); exact Mem.s (Mem.s (Mem.s (Mem.s hy))))⟩
theorem Read_yes (next : Nat) (ba pa : Option Addr) (bn bc pn pc : Nat) (bs : List Nat) (l : List PcV) (n : Int) (w0 w : World) (L : LV) (R : LR) (hv0 : Mem w0 w L R) (hb : (1, .slice ba bn bc, cellsB bs) ∈ R) (hp : (2, .slice pa pn pc, cellsP l) ∈ R) (hal : AllP R l) (hpn : pn ≤ 1000) (hbn : bs.length ≤ 1000000) (hdl : ∀ p ∈ l, p.2.2.length ≤ 1000000) (hck : chk (stOf next bs l) = true) : Calls Try.prog 37 #[.agg #[.int .u32 next, .slice ba bn bc, .slice pa pn pc], .int .i64 n] w (ReadR w0 L R next pa pn pc bs (clampN n bs.length)) := by
 by_cases h1 : n ≤ 0
 · exact Read_le next ba pa bn bc pn pc bs l n w0 w L R hv0 hb hp hal hpn hbn hdl hck h1
 · by_cases h2 : n ≤ bn
   · exact Read_in next ba pa bn bc pn pc bs l n w0 w L R hv0 hb hp hal hpn hbn hdl hck (by omega) h2
   · by_cases h3 : bn = 0
     · exact Read_g0 next ba pa bn bc pn pc bs l n w0 w L R hv0 hb hp hal hpn hbn hdl hck (by omega) h3
     · exact Read_gt next ba pa bn bc pn pc bs l n w0 w L R hv0 hb hp hal hpn hbn hdl hck (by omega) (by omega)
end Go.Proofs.Ythenepdbgeafkaa
end
