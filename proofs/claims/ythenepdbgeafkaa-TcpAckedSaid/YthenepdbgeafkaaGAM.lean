import Derived.Test.YthenepdbgeafkaaGAJ
import Derived.Lib.BufferRead
set_option linter.unusedSimpArgs false
set_option linter.unusedVariables false
set_option maxRecDepth 100000
set_option maxHeartbeats 4000000
section
/-
 Bytes held against bytes: the reference's Bytes; streams held against each other: Same.
-/
namespace Go.Proofs.Wi
def goodB (l : List Nat) : Prop := ∀ x ∈ l, x < 256
end Go.Proofs.Wi
namespace Go
open Go.RowKit Go.Proofs.Wi
def bstr (l : List Nat) : ByteArray := ⟨(l.map UInt8.ofNat).toArray⟩
theorem ofNat_inj {a b : Nat} (ha : a < 256) (hb : b < 256) (h : UInt8.ofNat a = UInt8.ofNat b) : a = b := by
 have := congrArg UInt8.toNat h
 simp at this; omega
theorem loop_eq (s : ByteArray) (n i : Nat) (r : List UInt8) (h : s.size - i = n) : ByteArray.toList.loop s i r = r.reverse ++ s.data.toList.drop i := by
 induction n generalizing i r with
 | zero =>
   unfold ByteArray.toList.loop
   rw [if_neg (by omega)]
   rw [List.drop_eq_nil_of_le (by have : s.data.toList.length = s.size := by simp
                                  omega)]
   simp
 | succ n ih =>
   unfold ByteArray.toList.loop
   rw [if_pos (by omega), ih (i + 1) _ (by omega)]
   have hi : i < s.data.toList.length := by
     have : s.data.toList.length = s.size := by simp
     omega
   rw [List.drop_eq_getElem_cons hi]
   have : s.get! i = s.data.toList[i] := by
     have hi2 : i < s.data.size := by simpa using hi
     show s.data[i]! = _
     rw [getElem!_pos s.data i hi2]; simp
   rw [this]; simp
theorem toList_eq (s : ByteArray) : s.toList = s.data.toList := by
 unfold ByteArray.toList
 rw [loop_eq s _ 0 [] rfl]; simp
theorem map_inj {l m : List Nat} (hl : goodB l) (hm : goodB m) (h1 : l.map UInt8.ofNat = m.map UInt8.ofNat) : l = m := by
 induction l generalizing m with
 | nil => cases m with
   | nil => rfl
   | cons b m => simp at h1
 | cons a l ih => cases m with
   | nil => simp at h1
   | cons b m =>
     simp only [List.map_cons, List.cons.injEq] at h1
     have e := ofNat_inj (hl a (by simp)) (hm b (by simp)) h1.1
     have e2 := ih (fun x hx => hl x (by simp [hx])) (m := m) (fun x hx => hm x (by simp [hx])) h1.2
     rw [e, e2]
theorem bstr_beq {l m : List Nat} (hl : goodB l) (hm : goodB m) : ((bstr l).toList == (bstr m).toList) = decide (l = m) := by
 rw [toList_eq, toList_eq]
 by_cases h : l = m
 · subst h; simp
 · rw [decide_eq_false h, beq_eq_false_iff_ne]
   intro e
   refine h (map_inj hl hm ?_)
   simpa [bstr] using e
theorem run_str {P : Program} {w : World} {v : Value} {l : List Nat} (src dst e : TypeId) (hs : P.underlying src = some (.slice e)) (he : P.underlying e = some (.int .u8)) (hd : P.underlying dst = some .string) (hrd : Rd w 1 v (cellsB l)) (hg : goodB l) :
   (convert src dst v).run P w = .ok (.string (bstr l)) w := by
 obtain ⟨ao, n, cap, rfl, h1, h2, h3, h4, h5⟩ := hrd
 rw [cellsB_len, Nat.mul_one] at h1
 subst h1
 cases ao with
 | none =>
   obtain ⟨hn, hc⟩ := h4 rfl
   have : l = [] := List.length_eq_zero_iff.1 hn
   subst this
   exact Lib.run_convert_nil_bytes w src dst e cap hs he hd
 | some a =>
   have hh := run_convert_bytes_back (P := P) w src dst e a cap (l.map UInt8.ofNat) hs he hd (fun j hj => by
     rw [List.length_map] at hj
     obtain ⟨b, o, e1, _, e2⟩ := h5 j (by rw [cellsB_len]; exact hj)
     cases e1
     have : Addr.add ⟨b, o, none⟩ j = ⟨b, o + j, none⟩ := by
       unfold Addr.add
       by_cases h0 : j = 0
       · rw [if_pos h0, h0]; rfl
       · rw [if_neg h0]
     rw [this, e2]
     have hx := hg _ (List.getElem_mem hj)
     unfold cellsB
     rw [List.getElem?_map, List.getElem?_eq_getElem hj, List.getElem_map]
     simp [Nat.mod_eq_of_lt hx])
   rw [List.length_map] at hh
   exact hh
end Go
namespace Go.Proofs.Ythenepdbgeafkaa
open Go.Proofs.Wi Go.RowKit
theorem ret_b {a b : Bool} (h : a = b) : Ending.returned (.bool a) = .returned (.bool b) := by rw [h]
theorem Bytes_any (u v : Value) (l m : List Nat) (w : World) (hu : Rd w 1 u (cellsB l)) (hv : Rd w 1 v (cellsB m)) (hl : goodB l) (hm : goodB m) :
   Calls Try.prog 16 #[u, v] w fun e w' => e = .returned (.bool (decide (l = m))) ∧ w = w' := by
 have k1 := run_str (P := Try.prog) 23 9 5 Try.underlying23 Try.underlying5 Try.underlying9 hu hl
 have k2 := run_str (P := Try.prog) 23 9 5 Try.underlying23 Try.underlying5 Try.underlying9 hv hm
 have HB : Hid (((bstr l).toList == (bstr m).toList) = decide (l = m)) := Lib.hid (bstr_beq hl hm)
 generalize bstr l = s at *
 generalize bstr m = t at *
 clear hl hm hu hv
 go_enter Try.func16, Try.ntmps16
 go_wp2
 go_ret
 exact ⟨ret_b HB.out, rfl⟩
end Go.Proofs.Ythenepdbgeafkaa
end

section
/-
 Streams that are alike, held against each other.
-/
namespace Go.Proofs.Ythenepdbgeafkaa
open Go.Proofs.Wi Go.RowKit
theorem cellsP_get (l : List PcV) {k : Nat} (hk : k < l.length) : (cellsP l)[k * 2]? = some (.int .u32 (l[k].1 : Nat)) ∧ (cellsP l)[k * 2 + 1]? = some l[k].2.1 := by
 have h := cellsP_part l k hk
 have h0 := congrArg (fun x : List Value => x[0]?) h
 have h1 := congrArg (fun x : List Value => x[1]?) h
 simp only [List.getElem?_take, List.getElem?_drop] at h0 h1
 exact ⟨by simpa using h0, by simpa using h1⟩
end Go.Proofs.Ythenepdbgeafkaa
end

section
/-
 Few: is a stream not great?
-/
namespace Go.Proofs.Ythenepdbgeafkaa
open Go.Proofs.Wi Go.RowKit
def fewB (bs : List Nat) (l : List PcV) : Bool := decide (bs.length ≤ 600) && decide (l.length ≤ 200) && l.all fun p => decide (p.2.2.length ≤ 300)
theorem Few_great (next : Nat) (ba pa : Option Addr) (bn bc pn pc : Nat) (bs : List Nat) (l : List PcV) (w0 w : World) (L : LV) (R : LR) (hv0 : Mem w0 w L R) (hb : (1, .slice ba bn bc, cellsB bs) ∈ R) (hp : (2, .slice pa pn pc, cellsP l) ∈ R) (hal : AllP R l) (hg : 200 < pn) : Calls Try.prog 48 #[.agg #[.int .u32 next, .slice ba bn bc, .slice pa pn pc]] w fun e w' => e = .returned (.bool (fewB bs l)) ∧ New w w' := by
 have hv := hv0.base
 have HP := Lib.hid hp
 have HA := Lib.hid hal
 have hbl := len_rd1 (hv0.rd hb)
 have hpl := len_rdP (hv0.rd hp)
 have HPL := Lib.hid hpl
 have e : fewB bs l = false := by
   unfold fewB
   rw [decide_eq_false (show ¬ l.length ≤ 200 by omega)]
   simp
 rw [e]
 have g1 : (0 : Int) < (pn : Int) := by omega
 have g2 : decide ((pn : Int) ≤ 200) = false := decide_eq_false (by omega)
 have g2n : ¬ (pn : Int) ≤ 200 := by omega
 clear hv0 hb hp hal hg hpl e
 by_cases h6 : (bn : Int) ≤ 600
 all_goals
   go_enter Try.func48, Try.ntmps48
   go_wp2_with (first
     | ((with_reducible refine gBx 27 1 ?_); refine nwB hv #[.int .u32 next, .slice ba bn bc, .slice pa pn pc] 27 ?_; clear hv; intro b1 w2 hv))
   go_loopw [3] (fun i wr => i = .int .i64 0 ∧ Mem w wr [(b1, #[.int .u32 next, .slice ba bn bc, .slice pa pn pc])] R) (fun i _ => 0)
   case atStart => exact ⟨rfl, hv⟩
   case round =>
     clear hv
     obtain ⟨rfl, hv⟩ := hrel
     go_wp2_with (first
       | ((with_reducible refine gLd 25 ?_); refine ldC hv _ _ _ Try.underlying25 ?_)
       | ((with_reducible refine gLd 23 ?_); refine ldC hv _ _ _ Try.underlying23 ?_))
     go_ret
     exact ⟨rfl, hv.below⟩
theorem Few_small (next : Nat) (ba pa : Option Addr) (bn bc pn pc : Nat) (bs : List Nat) (l : List PcV) (w0 w : World) (L : LV) (R : LR) (hv0 : Mem w0 w L R) (hb : (1, .slice ba bn bc, cellsB bs) ∈ R) (hp : (2, .slice pa pn pc, cellsP l) ∈ R) (hal : AllP R l) (hg : pn ≤ 200) : Calls Try.prog 48 #[.agg #[.int .u32 next, .slice ba bn bc, .slice pa pn pc]] w fun e w' => e = .returned (.bool (fewB bs l)) ∧ New w w' := by
 have hv := hv0.base
 have HP := Lib.hid hp
 have HA := Lib.hid hal
 have hbl := len_rd1 (hv0.rd hb)
 have hpl := len_rdP (hv0.rd hp)
 have HPL := Lib.hid hpl
 have HE : Hid (fewB bs l = (decide ((bn : Int) ≤ 600) && l.all fun p => decide (p.2.2.length ≤ 300))) := Lib.hid (by
   unfold fewB
   rw [decide_eq_true (show l.length ≤ 200 by omega), Bool.and_true, hbl]
   congr 1
   exact decide_eq_decide.2 (by omega))
 obtain ⟨c, hc⟩ : ∃ c, fewB bs l = c := ⟨_, rfl⟩
 rw [hc]
 have HC := Lib.hid hc
 have g2 : decide ((pn : Int) ≤ 200) = true := decide_eq_true (by omega)
 have g2n : (pn : Int) ≤ 200 := by omega
 clear hv0 hb hp hal hpl hc hbl
 go_enter Try.func48, Try.ntmps48
 go_wp2_with (first
   | ((with_reducible refine gBx 27 1 ?_); refine nwB hv #[.int .u32 next, .slice ba bn bc, .slice pa pn pc] 27 ?_; clear hv; intro b1 w2 hv))
 go_loopw [3] (fun i wr => ∃ k : Nat, k ≤ pn ∧ i = .int .i64 k ∧ Hid (∀ j (h : j < l.length), j < k → (l[j]).2.2.length ≤ 300) ∧ Mem w wr [(b1, #[.int .u32 next, .slice ba bn bc, .slice pa pn pc])] R) (fun i _ => pn - (intOf i).toNat)
 case atStart => exact ⟨0, Nat.zero_le _, rfl, Lib.hid (fun j h hj => by omega), hv⟩
 case round =>
   clear hv
   obtain ⟨k, hk, rfl, HJ, hv⟩ := hrel
   by_cases hk2 : k < pn
   · have hki : (k : Int) < (pn : Int) := by omega
     have hkb : (k : Int) ≤ 1000 := by omega
     have hkl : k < l.length := by rw [HPL.out]; exact hk2
     obtain ⟨⟨sq, dv, d⟩, hx⟩ : ∃ x, l[k] = x := ⟨_, rfl⟩
     have hdm := HA.out l[k] (List.getElem_mem hkl)
     have hga := cellsP_get l hkl
     rw [hx] at hdm hga
     simp only at hdm hga
     obtain ⟨da, dn, dc, rfl, _⟩ := id (hv.rd hdm)
     have hdn : d.length = dn := len_rd1 (hv.rd hdm)
     have HK1 := Lib.hid hga.2
     have HX : Hid ((l[k]).2.2.length = dn) := Lib.hid (by rw [hx]; exact hdn)
     have HIN : Hid (l[k] ∈ l) := Lib.hid (List.getElem_mem hkl)
     obtain ⟨pb, po, _, _, e, _⟩ := (hv.rd HP.out).some (by rw [cellsP_len]; omega)
     cases e
     clear hx hdm hga hdn
     by_cases hd : 300 < dn
     · have y1 : decide ((300 : Int) < (dn : Int)) = true := decide_eq_true (by omega)
       have hc0 : c = false := by
         rw [← HC.out, HE.out]
         have : (l.all fun p => decide (p.2.2.length ≤ 300)) = false := by
           rw [List.all_eq_false]
           exact ⟨_, HIN.out, by simp only [decide_eq_true_eq]; rw [HX.out]; omega⟩
         rw [this, Bool.and_false]
       subst hc0

       go_wp2_with (first
         | ((with_reducible refine gLd 25 ?_); refine ldC hv _ _ _ Try.underlying25 ?_)
         | ((with_reducible refine at_load (T := 23) ?_); refine wl_rd rfl (hv.rd HP.out) (k * 2 + 1) rfl _ Try.underlying23 rfl (.slice da dn dc) HK1.out ?_))
       go_ret
       exact ⟨rfl, hv.below⟩
     · have y1 : decide ((300 : Int) < (dn : Int)) = false := decide_eq_false (by omega)
       have HJ2 : Hid (∀ j (h : j < l.length), j < k + 1 → (l[j]).2.2.length ≤ 300) := Lib.hid (fun j h hj => by
         rcases Nat.lt_or_ge j k with g | g
         · exact HJ.out j h g
         · have e : j = k := by omega
           subst e
           rw [HX.out]; omega)
       clear hd
       go_wp2_with (first
         | ((with_reducible refine gLd 25 ?_); refine ldC hv _ _ _ Try.underlying25 ?_)
         | ((with_reducible refine at_load (T := 23) ?_); refine wl_rd rfl (hv.rd HP.out) (k * 2 + 1) rfl _ Try.underlying23 rfl (.slice da dn dc) HK1.out ?_))
       go_roundw
       case rel => exact ⟨k + 1, by omega, by go_num, HJ2, hv⟩
       case measure => simp [intOf]; omega
   · have hki : ¬ (k : Int) < (pn : Int) := by omega
     have hall : (l.all fun p => decide (p.2.2.length ≤ 300)) = true := by
       rw [List.all_eq_true]
       intro p hp
       obtain ⟨j, hj, rfl⟩ := List.mem_iff_getElem.1 hp
       exact decide_eq_true (HJ.out j hj (by rw [HPL.out] at hj; omega))
     have hc0 : c = decide ((bn : Int) ≤ 600) := by rw [← HC.out, HE.out, hall, Bool.and_true]
     subst hc0
     clear hall
     by_cases h6 : (bn : Int) ≤ 600
     all_goals
       go_wp2_with (first
         | ((with_reducible refine gLd 25 ?_); refine ldC hv _ _ _ Try.underlying25 ?_)
         | ((with_reducible refine gLd 23 ?_); refine ldC hv _ _ _ Try.underlying23 ?_))
       go_ret
       first
         | exact ⟨rfl, hv.below⟩
         | (refine ⟨?_, hv.below⟩; simp [h6])
end Go.Proofs.Ythenepdbgeafkaa
end
