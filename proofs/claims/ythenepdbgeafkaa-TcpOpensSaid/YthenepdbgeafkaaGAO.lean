import Derived.Test.YthenepdbgeafkaaWiSort
import Derived.Test.YthenepdbgeafkaaGAM
import Derived.Test.YthenepdbgeafkaaGAI
import Derived.Test.YthenepdbgeafkaaGAL
set_option linter.unusedSimpArgs false
set_option linter.unusedVariables false
set_option maxRecDepth 100000
set_option maxHeartbeats 8000000
section
/-
 Spans joined: sorted, and those that touch become one.
-/
namespace Go.Proofs.Ythenepdbgeafkaa
open Go.Proofs.Wi Go.RowKit
def SortR (w0 : World) (L : LV) (R : LR) (v : Value) (l : List SpV) (e : Ending) (w' : World) : Prop :=
 e = .returned (.tuple #[]) ∧ ∃ l', l'.Perm l ∧ l'.Pairwise (fun x y => x.1 ≤ y.1) ∧ Mem w0 w' L ((2, v, cellsS l') :: R)
theorem sortO (v : Value) (O : LV) (l : List SpV) (hg : ∀ p ∈ l, GoodSp p) (hn : l.length ≤ 100000) (w0 w : World) (L : LV) (R : LR) (hv : Mem w0 w (O ++ L) R) (hO : OwnL 2 v (cellsS l) O) :
   Calls Try.prog 83 #[v, .func (.func 84) #[] #[]] w (SortR w0 L R v l) := by
 rcases hO with ⟨rfl, hc, rfl⟩ | ⟨⟨b, z⟩, hr, rfl⟩
 · have hl : l = [] := by
     have := congrArg List.length hc
     rw [cellsS_len] at this
     exact List.length_eq_zero_iff.1 (by simp only [List.length_nil] at this; omega)
   subst hl
   refine (sort_none none 0 _ w).mono ?_
   rintro e w' ⟨rfl, rfl⟩
   exact ⟨rfl, [], List.Perm.refl _, List.Pairwise.nil, hv.fresh (Below.refl _ _) (FR.nil _ _ 2)⟩
 · obtain ⟨n, cap, rfl, _⟩ := id hr
   refine (sort_any b n cap z l hg hn w0 w L R hv hr).mono ?_
   rintro e w' ⟨rfl, l', z', h1, h2, h3, h4⟩
   exact ⟨rfl, l', h1, h2, Mem.yield (L1 := []) h3 h4⟩
def tot (l : List SpV) : Nat := (l.flatMap (·.2.2)).length
theorem tot_app (a b : List SpV) : tot (a ++ b) = tot a + tot b := by simp [tot]
theorem tot_one (x : SpV) : tot [x] = x.2.2.length := by simp [tot]
theorem app_last {v : Value} {p : List SpV} {zx : Int} {zv : Value} {zd : List Nat} {x0 : Nat × Array Value} (h : AppRow v 2 (cellsS (p ++ [(zx, zv, zd)])) x0) : (∃ cap, v = .slice (some ⟨x0.1, 0, none⟩) (p.length + 1) cap) ∧ p.length * 2 + 2 ≤ x0.2.size ∧ x0.2.extract (p.length * 2) (p.length * 2 + 2) = #[.int .i64 zx, zv] ∧ x0.2[p.length * 2 + 1]? = some zv := by
 obtain ⟨n, cap, rfl, g1, g2, g3, g4, g5⟩ := h
 rw [cellsS_len, List.length_append] at g1
 simp only [List.length_cons, List.length_nil] at g1
 have hn : n = p.length + 1 := by omega
 subst hn
 have hsz : p.length * 2 + 2 ≤ x0.2.size := by rw [g4]; omega
 have hget : ∀ j, j < 2 → x0.2[p.length * 2 + j]? = ([.int .i64 zx, zv] : List Value)[j]? := fun j hj => by
   have h1 : (x0.2.toList.take ((p.length + 1) * 2))[p.length * 2 + j]? = ([.int .i64 zx, zv] : List Value)[j]? := by
     rw [g5, cellsS_snoc, List.getElem?_append_right (by rw [cellsS_len]; omega), cellsS_len, Nat.add_sub_cancel_left]
   rw [List.getElem?_take, if_pos (by omega), Array.getElem?_toList] at h1
   exact h1
 refine ⟨⟨cap, rfl⟩, hsz, ?_, hget 1 (by omega)⟩
 apply Array.ext_getElem?
 intro j
 rw [Array.getElem?_extract]
 by_cases hj : j < 2
 · rw [if_pos (by omega), hget j hj, ← Array.getElem?_toList]
 · rw [if_neg (by omega), Array.getElem?_eq_none (by simp; omega)]
theorem Concat_two (u v : Value) (a b : List Nat) (B : Nat) (w : World) (h0 : Rd w 1 (.slice (some ⟨B, 0, none⟩) 2 2) [u, v]) (h1 : Rd w 1 u (cellsB a)) (h2 : Rd w 1 v (cellsB b)) (ht : 0 < (a ++ b).length) (htm : (a ++ b).length ≤ 1000000) : Calls Try.prog 27 #[.slice (some ⟨B, 0, none⟩) 2 2] w (OwnR 1 (cellsB (a ++ b)) w) := by
 have e : ([(u, a), (v, b)] : List (Value × List Nat)).flatMap (·.2) = a ++ b := by simp
 have hm := (((Mem.nil w).old h2).old h1).old h0
 have := Concat_any [(u, a), (v, b)] B 0 2 2 w w [] _ hm Mem.z (fun p hp => by
   rcases List.mem_cons.1 hp with rfl | hp
   · exact Mem.s Mem.z
   · rw [List.mem_singleton.1 hp]; exact Mem.s (Mem.s Mem.z)) (by omega) (by rw [e]; exact ht) (by rw [e]; exact htm)
 rwa [e] at this
theorem cellsS_set (p : List SpV) (zx : Int) (zv u : Value) (zd d : List Nat) : (cellsS (p ++ [(zx, zv, zd)])).set (p.length * 2 + 1) u = cellsS (p ++ [(zx, u, d)]) := by
 rw [cellsS_snoc, cellsS_snoc, List.set_append_right _ _ (by rw [cellsS_len]; omega), cellsS_len, Nat.add_sub_cancel_left]
 rfl
def JoinR (w0 : World) (L : LV) (R : LR) (l : List SpV) (e : Ending) (w' : World) : Prop :=
 ∃ (ao : Option Addr) (n cap : Nat) (J : List SpV) (R' : LR) (srt : List SpV), e = .returned (.slice ao n cap) ∧ Mem w0 w' L ((2, .slice ao n cap, cellsS J) :: (R' ++ R)) ∧ AllS (R' ++ R) J ∧ srt.Perm l ∧ srt.Pairwise (fun x y => x.1 ≤ y.1) ∧ spOf J = merge [] (spOf srt) ∧ J.length ≤ l.length ∧ tot J = tot l
def OutJ (v : Value) (J : List SpV) (O : LV) : Prop := (v = .slice none 0 0 ∧ J = [] ∧ O = []) ∨ (J ≠ [] ∧ ∃ x0, AppRow v 2 (cellsS J) x0 ∧ O = [x0])
theorem OutJ.own {v : Value} {J : List SpV} {O : LV} (h : OutJ v J O) : OwnL 2 v (cellsS J) O := by
 rcases h with ⟨rfl, rfl, rfl⟩ | ⟨_, x0, h, rfl⟩
 · exact OwnL.nil 2
 · exact OwnL.row h
theorem spOf_snoc (J : List SpV) (x : SpV) : spOf (J ++ [x]) = spOf J ++ [(x.1, x.2.2)] := by simp [spOf]
theorem merge_next {out : List Sp} {x : Sp} {r : List Sp} (h : ¬ (out ≠ [] ∧ (out.getLastD (0, [])).1 + (out.getLastD (0, [])).2.length = x.1)) : merge out (x :: r) = merge (out ++ [x]) r := by
 conv => lhs; unfold merge
 exact if_neg h
theorem merge_join {p : List Sp} {z x : Sp} {r : List Sp} (h : z.1 + z.2.length = x.1) : merge (p ++ [z]) (x :: r) = merge (p ++ [(z.1, z.2 ++ x.2)]) r := by
 conv => lhs; unfold merge
 rw [cont_last, List.dropLast_concat, if_pos ⟨by simp, h⟩]
theorem AppRow.setc {v : Value} {k : Nat} {c : List Value} {x : Nat × Array Value} (h : AppRow v k c x) (i : Nat) (u : Value) : AppRow v k (c.set i u) (x.1, x.2.setIfInBounds i u) := by
 obtain ⟨n, cap, rfl, g1, g2, g3, g4, g5⟩ := h
 refine ⟨n, cap, rfl, by rw [List.length_set]; exact g1, g2, g3, by simp only [Array.size_setIfInBounds]; exact g4, ?_⟩
 simp only [Array.toList_setIfInBounds]
 rw [List.take_set, g5]
theorem joined_any (v : Value) (O : LV) (l : List SpV) (w0 w : World) (L : LV) (R : LR) (hv0 : Mem w0 w (O ++ L) R) (hO : OwnL 2 v (cellsS l) O) (hal : AllS R l) (hn : l.length ≤ 5000) (hb : ∀ p ∈ l, -1000000000000 ≤ p.1 ∧ p.1 ≤ 1000000000000 ∧ p.2.2 ≠ []) (ht : tot l ≤ 1000000) : Calls Try.prog 81 #[v] w (JoinR w0 L R l) := by
 obtain ⟨va, vn, vc, rfl, hvl⟩ := hO.slice
 have hv := hv0
 have HO := Lib.hid hO
 have HAL := Lib.hid hal
 have HLN : Hid (l.length ≤ 100000) := Lib.hid (by omega)
 have HN5 := Lib.hid hn
 have HB := Lib.hid hb
 have HT := Lib.hid ht
 have hvn : l.length = vn := by rw [cellsS_len] at hvl; omega
 have HVN := Lib.hid hvn
 have HGS : Hid (∀ p ∈ l, GoodSp p) := Lib.hid (fun p hp => by
   obtain ⟨a, n, c, e, _⟩ := id (hv0.rd (hal p hp))
   exact ⟨(hb p hp).1, (hb p hp).2.1, by rw [e]; rfl⟩)
 have hB3 : 1 ≤ maxLen := by unfold maxLen; omega
 have hB0 : Hid (∀ (x : Int) (xx : Nat) (n9 c9 : Nat), ∀ z ∈ ([.int .i64 x, .slice (some ⟨xx, 0, none⟩) n9 c9] : List Value), z.oneCell' = true) := Lib.hid (fun x xx n9 c9 z hz => by
   rcases List.mem_cons.1 hz with rfl | hz
   · rfl
   · rw [List.mem_singleton.1 hz]; rfl)
 have hC1 : Hid ((0 + 1 + 1) / 2 ≤ maxLen) := Lib.hid (by unfold maxLen; omega)
 have hC2 : Hid ((0 + 1 + 1) / 2 * 32 ≤ 140737488355328) := Lib.hid (by omega)
 clear hv0 hO hal hn hb ht hvl hvn
 go_enter Try.func81, Try.ntmps81
 go_wp2
 go_step3
 go_wp2_with (first
   | (go_at_call 83; (with_reducible refine (sortO _ _ _ HGS.out HLN.out _ _ _ _ hv HO.out).mono ?_); rintro e w1 ⟨rfl, l', hpm, hsr, hv1⟩; replace hv := hv1; clear hv1))
 go_step3
 go_wp2
 have HLL : Hid (l'.length = vn) := Lib.hid (by rw [hpm.length_eq]; exact HVN.out)
 have HB2 : Hid (∀ p ∈ l', -1000000000000 ≤ p.1 ∧ p.1 ≤ 1000000000000 ∧ p.2.2 ≠ []) := Lib.hid (fun p hp => HB.out p (hpm.mem_iff.1 hp))
 have HA2 : Hid (AllS R l') := Lib.hid (fun p hp => HAL.out p (hpm.mem_iff.1 hp))
 have HT2 : Hid (tot l' = tot l) := Lib.hid ((hpm.flatMap_right _).length_eq)
 have HPM := Lib.hid hpm
 have HSR := Lib.hid hsr
 have hvn5 : vn ≤ 5000 := by rw [← HVN.out]; exact HN5.out
 obtain ⟨c, hc⟩ : ∃ c, merge [] (spOf l') = c := ⟨_, rfl⟩
 have HC := Lib.hid hc
 clear hpm hsr hc
 go_loopw [3, 11] (fun ov i wr => ∃ (k : Nat) (O : LV) (J : List SpV) (R' : LR), k ≤ vn ∧ i = .int .i64 k ∧ Hid (OutJ ov J O) ∧ Mem w0 wr (O ++ L) (R' ++ ((2, .slice va vn vc, cellsS l') :: R)) ∧ Hid (AllS (R' ++ ((2, .slice va vn vc, cellsS l') :: R)) J) ∧ Hid (merge (spOf J) (spOf (l'.drop k)) = c) ∧ Hid (J.length ≤ k) ∧ Hid (tot J + tot (l'.drop k) = tot l) ∧ Hid (∀ p ∈ J, -1000000000000 ≤ p.1 ∧ p.1 ≤ 1000000000000)) (fun _ i _ => vn - (intOf i).toNat)
 case atStart => exact ⟨0, [], [], [], Nat.zero_le _, rfl, Lib.hid (.inl ⟨rfl, rfl, rfl⟩), hv, Lib.hid (fun p hp => (List.not_mem_nil hp).elim), Lib.hid HC.out, Lib.hid (Nat.zero_le _), Lib.hid (by rw [List.drop_zero, HT2.out]; simp [tot]), Lib.hid (fun p hp => (List.not_mem_nil hp).elim)⟩
 case round =>
   clear hv
   obtain ⟨k, O, J, R', hk, rfl, HOUT, hv, HAJ, HEQ, HJK, HTO, HJB⟩ := hrel
   by_cases hk2 : k < vn
   · have hki : (k : Int) < (vn : Int) := by omega
     have hkb : (k : Int) ≤ 5000 := by omega
     have hkl : k < l'.length := by rw [HLL.out]; exact hk2
     obtain ⟨⟨x, xv, xd⟩, hx⟩ : ∃ z, l'[k] = z := ⟨_, rfl⟩
     have hdm : (1, (l'[k]).2.1, cellsB (l'[k]).2.2) ∈ R' ++ ((2, .slice va vn vc, cellsS l') :: R) := List.mem_append_right _ (Mem.s (HA2.out l'[k] (List.getElem_mem hkl)))
     have hbm := HB2.out l'[k] (List.getElem_mem hkl)
     rw [hx] at hdm hbm
     simp only at hdm hbm
     obtain ⟨xb, xo, xn, xc, rfl, _⟩ := (hv.rd hdm).some (by rw [cellsB_len]; exact List.length_pos_iff.2 hbm.2.2)
     have hxn : xd.length = xn := len_rd1 (hv.rd hdm)
     have HDM := Lib.hid hdm
     have HBM := Lib.hid hbm
     have HXL := Lib.hid hxn
     have HK : Hid (((cellsS l').drop (k * 2)).take 2 = [.int .i64 x, .slice (some ⟨xb, xo, none⟩) xn xc]) := Lib.hid (by rw [cellsS_part l' k hkl, hx])
     have HDK := Lib.hid (spOf_drop l' hkl hx)
     have HTK : Hid (tot (l'.drop k) = xd.length + tot (l'.drop (k + 1))) := Lib.hid (by rw [List.drop_eq_getElem_cons hkl, hx]; simp [tot])
     have HXN : Hid (xn ≤ 1000000) := Lib.hid (by have := HTO.out; have := HTK.out; have := HT.out; omega)
     have HWC : Hid (∃ u y, AppRow u 1 (cellsB xd) y) := Lib.hid (Any.AppRow.some (c := cellsB xd) (k := 1) (n := xn) (by rw [cellsB_len, HXL.out]; omega) (by have := HXN.out; unfold maxLen; omega))
     obtain ⟨lb, lo, _, _, e, _⟩ := (hv.rd (List.mem_append_right R' Mem.z)).some (by rw [cellsS_len]; omega)
     cases e
     have HL : Hid ((2, .slice (some ⟨lb, lo, none⟩) vn vc, cellsS l') ∈ R' ++ ((2, .slice (some ⟨lb, lo, none⟩) vn vc, cellsS l') :: R)) := Lib.hid (List.mem_append_right _ Mem.z)
     have HKV : Hid (k < vn) := Lib.hid hk2
     clear hx hdm hbm hxn hkl hk2 hk
     rcases HOUT.out with ⟨rfl, hJ0, rfl⟩ | ⟨hne, x0, hrw, rfl⟩
     · subst hJ0
       clear HOUT
       simp only [List.nil_append] at hv
       go_wp2_with (first
         | ((with_reducible refine at_load (T := 92) ?_); refine wl_rdv rfl (hv.rd HL.out) (k * 2) rfl 2 _ Try.underlying92 rfl infoSp (by decide) #[.int .i64 x, .slice (some ⟨xb, xo, none⟩) xn xc] HK.out rfl ?_)
         | ((with_reducible refine gAl 92 5 ?_); refine nwB hv #[.int .i64 0, .slice none 0 0] 92 ?_; clear hv; intro b5 w2 hv)
         | ((with_reducible refine gSt 92 ?_); refine stV hv b5 2 infoSp ?_; clear hv; intro w2 hv))
       refine Any.wr1 13 [] [] hv ?_
       simp only [Any.someVals]
       iterate 13 apply Exists.intro
       repeat ((first
        | refine Any.E_off rfl ?_
        | refine Any.eV ?_); simp only [Act.put, sia, scs, scz])
       try any_goals exact undef
       refine Any.fin1 hv [1000] ?_; clear hv; intro w9 hv
       go_wp2
       have HXD := Lib.hid (Any.rd_start (hv.keep (List.sublist_append_left [(b5, #[.int .i64 x, .slice (some ⟨xb, xo, none⟩) xn xc])] L)) HDM.out)
       refine Any.wr1 10 [(2, [1000], none), (4, [1000], none), (5, [], some 7), (7, [], some 6), (8, [6], some 8)] [(5, .own (fun u y => AppRow u 1 (cellsB xd) y)), (6, .pure), (7, .laidBy (fun B => .slice (some ⟨B, 0, none⟩) 1 1)), (8, .env 6 (fun zs v x => AppRow v 2 zs.toList x)), (9, .pure)] hv ?_
       simp only [Any.someVals]
       iterate 10 apply Exists.intro
       repeat ((first
        | refine Any.E_off rfl ?_
        | refine Any.ePq ?_
        | ((with_reducible refine Any.gE 3 ?_); refine Any.eC 1000 _ Try.underlying3 ?_)
        | ((with_reducible refine Any.gE 23 ?_); refine Any.eC 1000 _ Try.underlying23 ?_)
        | refine Any.eV ?_
        | ((with_reducible refine Any.at_ealloc ?_); refine Any.E_lay rfl rfl rfl (fun _ => rfl) ?_; intro B)
        | ((with_reducible refine Any.at_ecall ?_); refine Any.E_callownA (W := fun u y => AppRow u 1 (cellsB xd) y) rfl rfl rfl (Go.Proofs.enters_of Try.func63 (by kernel_rfl) rfl) rfl [.slice (some ⟨xb, xo, none⟩) xn xc] rfl HWC.out (fun E' _ w1 hw1 => BClone_row ⟨xb, xo, none⟩ xn xc (cellsB xd) w1 (hw1.rdold HXD.out.1 HXD.out.2) (cellsB_one _) HXN.out) ?_; intro v9 x9 hW9; obtain ⟨n9, c9, rfl, g9⟩ := id hW9; replace g9 := Lib.hid g9; replace hW9 := Lib.hid hW9)
        | ((with_reducible refine Any.at_ebuild (T := 92) ?_); refine Any.E_build rfl rfl rfl _ rfl (built_sp _ _ _ _) ?_)
        | ((with_reducible refine Any.at_ebsl ?_); refine Any.E_bslA (z := #[.int .i64 x, .slice (some ⟨x9.1, 0, none⟩) n9 c9]) (t := 92) rfl rfl rfl (fun w' => (by unfold execOp; go_simp)) ?_; intro B)
        | ((with_reducible refine Any.at_eapp (t := 89) ?_); refine Any.E_appnilE (j := 6) rfl rfl rfl rfl rfl (by decide) rfl rfl rfl hB3 (List.cons_ne_nil _ _) (.agg #[.int .i64 0, .slice none 0 0]) 32 Try.underlying89 infoSpz rfl (by decide) (hB0.out _ _ _ _) hC1.out hC2.out ?_; intro v8 x8 ha8)); simp only [Act.put, sia, scs, scz])
       try any_goals exact undef
       refine Any.fin1 hv [8, 7, 1000] ?_; clear hv; intro w9 hv
       go_wp2
       replace hv := Mem.yield (L1 := [_]) hv hW9.out
       simp only [List.cons_append, List.nil_append] at hv
       go_roundw
       case rel => exact ⟨k + 1, [x8], [(x, .slice (some ⟨x9.1, 0, none⟩) n9 c9, xd)], (1, .slice (some ⟨x9.1, 0, none⟩) n9 c9, cellsB xd) :: R', by have := HKV.out; omega, by go_num, Lib.hid (.inr ⟨by simp, x8, ha8, rfl⟩), hv.keep (.cons_cons _ (.cons _ (List.Sublist.refl _))), Lib.hid (fun p hp => by rw [List.mem_singleton.1 hp]; exact Mem.z), Lib.hid (by
         have := HEQ.out
         rw [HDK.out, show spOf [] = [] from rfl, merge_next (fun g => g.1 rfl)] at this
         exact this), Lib.hid (by simp), Lib.hid (by have := HTO.out; rw [HTK.out] at this; simp only [tot_one]; simp [tot] at this ⊢; omega), Lib.hid (fun p hp => by rw [List.mem_singleton.1 hp]; exact ⟨HBM.out.1, HBM.out.2.1⟩)⟩
       case measure => simp [intOf]; have := HKV.out; omega
     · clear HOUT
       obtain ⟨p, ⟨zx, zv, zd⟩, hJ⟩ : ∃ p z, J = p ++ [z] := ⟨J.dropLast, J.getLast hne, (List.dropLast_concat_getLast hne).symm⟩
       have hzm := HAJ.out (zx, zv, zd) (by rw [hJ]; simp)
       have hzb := HJB.out (zx, zv, zd) (by rw [hJ]; simp)
       simp only at hzm hzb
       obtain ⟨za, zn, zc, rfl, _⟩ := id (hv.rd hzm)
       have hzn : zd.length = zn := len_rd1 (hv.rd hzm)
       have hrw2 := hrw
       rw [hJ] at hrw2
       obtain ⟨⟨jc, rfl⟩, hsz, hex, hg1⟩ := app_last hrw2
       have hjl : J.length = p.length + 1 := by rw [hJ]; simp
       obtain ⟨m, hm⟩ : ∃ m, p.length = m := ⟨_, rfl⟩
       rw [hm] at hsz hex hg1 hjl hrw
       rw [hm]
       have htz : zd.length + xd.length ≤ 1000000 := by
         have h1 := HTO.out
         rw [HTK.out, hJ, tot_app, tot_one] at h1
         have := HT.out
         simp only at h1
         omega
       have hm5 : m ≤ 5000 := by have := HJK.out; omega
       have hrow := Lib.hid hrw
       have HJE := Lib.hid hJ
       have HSZ := Lib.hid hsz
       have HEX := Lib.hid hex
       have HG1 := Lib.hid hg1
       have HZM := Lib.hid hzm
       have HTZ := Lib.hid htz
       have HPL := Lib.hid hm
       have HZN := Lib.hid hzn
       have HZB := Lib.hid hzb
       have EN1 : Hid (∀ w', Calls Try.prog 65 #[.agg #[.int .i64 zx, .slice za zn zc]] w' fun e w2 => e = .returned (.int .i64 (zx + (zn : Int))) ∧ New w' w2) := Lib.hid (fun w' => end_any zx za zn zc (by omega) (by omega) (by omega) w')
       have g0 : (0 : Int) < ((m + 1 : Nat) : Int) := by omega
       have g1 : ((m + 1 : Nat) : Int) - 1 = (m : Int) := by omega
       have g2 : (m : Int) < ((m + 1 : Nat) : Int) := by omega
       have g3 : IntKind.i64.wrap (m : Int) = (m : Int) := IntWalk.i64_in _ (by omega)
       have hD1 : Hid (((cellsS J).length + (0 + 1 + 1)) / 2 ≤ maxLen) := Lib.hid (by rw [cellsS_len, hjl]; unfold maxLen; omega)
       have hD2 : Hid (((cellsS J).length + (0 + 1 + 1)) / 2 * 32 ≤ 140737488355328) := Lib.hid (by rw [cellsS_len, hjl]; omega)
       clear hne hrw hrw2 hJ hsz hex hg1 hzm htz hm hzn hjl hm5
       simp only [List.cons_append, List.nil_append] at hv
       go_wp2_with (first
         | ((with_reducible refine at_load (T := 92) ?_); refine wl_rdv rfl (hv.rd HL.out) (k * 2) rfl 2 _ Try.underlying92 rfl infoSp (by decide) #[.int .i64 x, .slice (some ⟨xb, xo, none⟩) xn xc] HK.out rfl ?_)
         | ((with_reducible refine gAl 92 5 ?_); refine nwB hv #[.int .i64 0, .slice none 0 0] 92 ?_; clear hv; intro b5 w2 hv)
         | ((with_reducible refine gSt 92 ?_); refine stV hv b5 2 infoSp ?_; clear hv; intro w2 hv))
       by_cases hjoin : zx + (zn : Int) = x
       · have y1 : (zx + (zn : Int) == x) = true := by rw [beq_iff_eq]; exact hjoin
         have HJN := Lib.hid hjoin
         clear hzb
         refine Any.wr2 13 [(7, [1001], none), (10, [1000], none)] [] hv ?_
         simp only [Any.someVals]
         iterate 13 apply Exists.intro
         repeat ((first
          | refine Any.E_off rfl ?_
          | (apply Any.E_val rfl rfl rfl rfl
             case h =>
              intro E' hA K hK
              first
               | ((with_reducible refine Any.at_qload (T := 92) ?_); refine Any.q_ldp 1001 hA (by decide) rfl rfl 2 _ Try.underlying92 rfl infoSp (by decide) HSZ.out _ HEX.out ?_; refine hK _ ?_; rfl)
               | ((with_reducible refine Any.at_qload (T := 3) ?_); refine Any.q_ldc 1000 hA (by decide) rfl rfl _ Try.underlying3 rfl _ rfl ?_; refine hK _ ?_; rfl)
               | (go_big_quiet_op; first
                  | (refine hK _ ?_; rfl)
                  | (refine ⟨_, fun _ _ => rfl, ?_⟩; refine hK _ ?_; rfl)
                  | (apply Exists.intro; refine ⟨fun w1 hw1 => ?_, ?_⟩; · (first
                      | (go_at_call 65; exact Any.calls_VE (EN1.out _) hw1))
                     refine hK _ ?_; rfl))
             case hD => rfl)); simp only [Act.put, sia, scs, scz])
         try any_goals exact undef
         refine Any.fin2 hv [1000, 1001] ?_; clear hv; intro w9 hv
         go_wp2
         have HXD := Lib.hid (Any.rd_start (hv.keep (List.sublist_append_left [(b5, #[.int .i64 x, .slice (some ⟨xb, xo, none⟩) xn xc]), x0] L)) HDM.out)
         have HZD := Lib.hid (Any.rd_start (hv.keep (List.sublist_append_left [(b5, #[.int .i64 x, .slice (some ⟨xb, xo, none⟩) xn xc]), x0] L)) HZM.out)
         have HT0 : Hid (0 < (zd ++ xd).length) := Lib.hid (by rw [List.length_append]; have := List.length_pos_iff.2 HBM.out.2.2; omega)
         have HTZ2 : Hid ((zd ++ xd).length ≤ 1000000) := Lib.hid (by rw [List.length_append]; exact HTZ.out)
         have HWD : Hid (∃ u y, AppRow u 1 (cellsB (zd ++ xd)) y) := Lib.hid (Any.AppRow.some (c := cellsB (zd ++ xd)) (k := 1) (n := (zd ++ xd).length) (by rw [cellsB_len]; omega) (by have := HTZ.out; rw [List.length_append]; unfold maxLen; omega))
         refine Any.wr2 16 [(8, [1001], none), (10, [1000], none), (11, [], some 6), (12, [6], some 7), (15, [1001], some 1001)] [(11, .bsl 2 #[.slice za zn zc, .slice (some ⟨xb, xo, none⟩) xn xc]), (12, .own (fun u y => AppRow u 1 (cellsB (zd ++ xd)) y)), (15, .put)] hv ?_
         simp only [Any.someVals]
         iterate 16 apply Exists.intro
         repeat ((first
          | refine Any.E_off rfl ?_
          | (apply Any.E_val rfl rfl rfl rfl
             case h =>
              intro E' hA K hK
              first
               | ((with_reducible refine Any.at_qload (T := 23) ?_); refine Any.q_ldc 1001 hA (by decide) rfl rfl _ Try.underlying23 rfl _ HG1.out ?_; refine hK _ ?_; rfl)
               | ((with_reducible refine Any.at_qload (T := 23) ?_); refine Any.q_ldc 1000 hA (by decide) rfl rfl _ Try.underlying23 rfl _ rfl ?_; refine hK _ ?_; rfl)
             case hD => rfl)
          | refine Any.eV ?_
          | ((with_reducible refine Any.at_ealloc ?_); refine Any.E_lay rfl rfl rfl (fun _ => rfl) ?_; intro B)
          | ((with_reducible refine Any.at_ecall ?_); refine Any.E_callownA (W := fun u y => AppRow u 1 (cellsB (zd ++ xd)) y) rfl rfl rfl (Go.Proofs.enters_of Try.func27 (by kernel_rfl) rfl) rfl [.slice (some ⟨B, 0, none⟩) 2 2] rfl HWD.out (fun E' he w1 hw1 => Concat_two _ _ zd xd B w1 (hw1.rd ((he 6 (by decide)).trans rfl) 2 1 rfl (by unfold maxLen; omega)) (hw1.rdold HZD.out.1 HZD.out.2) (hw1.rdold HXD.out.1 HXD.out.2) HT0.out HTZ2.out) ?_; intro v9 x9 hW9; obtain ⟨n9, c9, rfl, g9⟩ := id hW9; replace g9 := Lib.hid g9; replace hW9 := Lib.hid hW9)
          | ((with_reducible refine Any.at_ebsl ?_); refine Any.E_bsl (t := 23) rfl rfl rfl (fun w' => (by unfold execOp; go_simp)) ?_; intro B)
          | ((with_reducible refine Any.at_estore (T := 23) ?_); refine Any.E_putc (T := 23) rfl rfl rfl rfl rfl rfl (by kernel_rfl) rfl (by have := HSZ.out; omega) ?_)); simp only [Act.put, sia, scs, scz])
         try any_goals exact undef
         refine Any.fin2 hv [1001, 7, 1000] ?_; clear hv; intro w9 hv
         go_wp2
         replace hv := Mem.yield (L1 := [_]) hv hW9.out
         simp only [List.cons_append, List.nil_append] at hv
         have HSE : Hid (AppRow (.slice (some ⟨x0.1, 0, none⟩) (m + 1) jc) 2 (cellsS (p ++ [(zx, .slice (some ⟨x9.1, 0, none⟩) n9 c9, zd ++ xd)])) (x0.1, x0.2.setIfInBounds (m * 2 + 1) (.slice (some ⟨x9.1, 0, none⟩) n9 c9))) := Lib.hid (by
           have h := AppRow.setc hrow.out (m * 2 + 1) (.slice (some ⟨x9.1, 0, none⟩) n9 c9)
           rw [HJE.out, ← HPL.out, cellsS_set p zx _ _ zd (zd ++ xd), HPL.out] at h
           exact h)
         have hzx := HZB.out
         go_roundw
         case rel => exact ⟨k + 1, [(x0.1, x0.2.setIfInBounds (m * 2 + 1) (.slice (some ⟨x9.1, 0, none⟩) n9 c9))], p ++ [(zx, .slice (some ⟨x9.1, 0, none⟩) n9 c9, zd ++ xd)], (1, .slice (some ⟨x9.1, 0, none⟩) n9 c9, cellsB (zd ++ xd)) :: R', by have := HKV.out; omega, by go_num, Lib.hid (.inr ⟨by simp, _, HSE.out, rfl⟩), hv.keep (.cons_cons _ (.cons _ (List.Sublist.refl _))), Lib.hid (fun q hq => by
           rcases List.mem_append.1 hq with hq | hq
           · exact Mem.s (HAJ.out q (by rw [HJE.out]; exact List.mem_append_left _ hq))
           · rw [List.mem_singleton.1 hq]; exact Mem.z), Lib.hid (by
           have := HEQ.out
           rw [HDK.out, HJE.out, spOf_snoc, merge_join (show zx + ((zd.length : Nat) : Int) = x by rw [HZN.out]; exact HJN.out)] at this
           rw [spOf_snoc]
           exact this), Lib.hid (by have := HJK.out; rw [HJE.out] at this; simp at this ⊢; omega), Lib.hid (by
           have := HTO.out
           rw [HTK.out, HJE.out, tot_app, tot_one] at this
           rw [tot_app, tot_one]
           simp only [List.length_append] at this ⊢
           omega), Lib.hid (fun q hq => by
           rcases List.mem_append.1 hq with hq | hq
           · exact HJB.out q (by rw [HJE.out]; exact List.mem_append_left _ hq)
           · rw [List.mem_singleton.1 hq]; exact hzx)⟩
         case measure => simp [intOf]; have := HKV.out; omega
       · have y1 : (zx + (zn : Int) == x) = false := by rw [beq_eq_false_iff_ne]; exact hjoin
         have HJN := Lib.hid hjoin
         clear hzb hjoin
         refine Any.wr2 13 [(7, [1001], none), (10, [1000], none)] [] hv ?_
         simp only [Any.someVals]
         iterate 13 apply Exists.intro
         repeat ((first
          | refine Any.E_off rfl ?_
          | (apply Any.E_val rfl rfl rfl rfl
             case h =>
              intro E' hA K hK
              first
               | ((with_reducible refine Any.at_qload (T := 92) ?_); refine Any.q_ldp 1001 hA (by decide) rfl rfl 2 _ Try.underlying92 rfl infoSp (by decide) HSZ.out _ HEX.out ?_; refine hK _ ?_; rfl)
               | ((with_reducible refine Any.at_qload (T := 3) ?_); refine Any.q_ldc 1000 hA (by decide) rfl rfl _ Try.underlying3 rfl _ rfl ?_; refine hK _ ?_; rfl)
               | (go_big_quiet_op; first
                  | (refine hK _ ?_; rfl)
                  | (refine ⟨_, fun _ _ => rfl, ?_⟩; refine hK _ ?_; rfl)
                  | (apply Exists.intro; refine ⟨fun w1 hw1 => ?_, ?_⟩; · (first
                      | (go_at_call 65; exact Any.calls_VE (EN1.out _) hw1))
                     refine hK _ ?_; rfl))
             case hD => rfl)); simp only [Act.put, sia, scs, scz])
         try any_goals exact undef
         refine Any.fin2 hv [1000, 1001] ?_; clear hv; intro w9 hv
         go_wp2
         have HXD := Lib.hid (Any.rd_start (hv.keep (List.sublist_append_left [(b5, #[.int .i64 x, .slice (some ⟨xb, xo, none⟩) xn xc]), x0] L)) HDM.out)
         refine Any.wr2 10 [(2, [1000], none), (4, [1000], none), (5, [], some 7), (7, [], some 6), (8, [6], some 1001)] [(5, .own (fun u y => AppRow u 1 (cellsB xd) y)), (6, .pure), (7, .laidBy (fun B => .slice (some ⟨B, 0, none⟩) 1 1)), (8, .env 6 (fun zs v x => AppRow v 2 (cellsS J ++ zs.toList) x)), (9, .pure)] hv ?_
         simp only [Any.someVals]
         iterate 10 apply Exists.intro
         repeat ((first
          | refine Any.E_off rfl ?_
          | refine Any.ePq ?_
          | ((with_reducible refine Any.gE 3 ?_); refine Any.eC 1000 _ Try.underlying3 ?_)
          | ((with_reducible refine Any.gE 23 ?_); refine Any.eC 1000 _ Try.underlying23 ?_)
          | refine Any.eV ?_
          | ((with_reducible refine Any.at_ealloc ?_); refine Any.E_lay rfl rfl rfl (fun _ => rfl) ?_; intro B)
          | ((with_reducible refine Any.at_ecall ?_); refine Any.E_callownA (W := fun u y => AppRow u 1 (cellsB xd) y) rfl rfl rfl (Go.Proofs.enters_of Try.func63 (by kernel_rfl) rfl) rfl [.slice (some ⟨xb, xo, none⟩) xn xc] rfl HWC.out (fun E' _ w1 hw1 => BClone_row ⟨xb, xo, none⟩ xn xc (cellsB xd) w1 (hw1.rdold HXD.out.1 HXD.out.2) (cellsB_one _) HXN.out) ?_; intro v9 x9 hW9; obtain ⟨n9, c9, rfl, g9⟩ := id hW9; replace g9 := Lib.hid g9; replace hW9 := Lib.hid hW9)
          | ((with_reducible refine Any.at_ebuild (T := 92) ?_); refine Any.E_build rfl rfl rfl _ rfl (built_sp _ _ _ _) ?_)
          | ((with_reducible refine Any.at_ebsl ?_); refine Any.E_bslA (z := #[.int .i64 x, .slice (some ⟨x9.1, 0, none⟩) n9 c9]) (t := 92) rfl rfl rfl (fun w' => (by unfold execOp; go_simp)) ?_; intro B)
          | ((with_reducible refine Any.at_eapp (t := 89) ?_); refine Any.E_appE (j := 6) rfl rfl rfl rfl rfl hrow.out rfl (by decide) rfl rfl rfl hB3 (.agg #[.int .i64 0, .slice none 0 0]) 32 Try.underlying89 infoSpz rfl (by decide) (hB0.out _ _ _ _) hD1.out hD2.out ?_; intro v8 x8 ha8)); simp only [Act.put, sia, scs, scz])
         try any_goals exact undef
         refine Any.fin2 hv [1001, 7, 1000] ?_; clear hv; intro w9 hv
         go_wp2
         replace hv := Mem.yield (L1 := [_]) hv hW9.out
         simp only [List.cons_append, List.nil_append] at hv
         go_roundw
         case rel => exact ⟨k + 1, [x8], J ++ [(x, .slice (some ⟨x9.1, 0, none⟩) n9 c9, xd)], (1, .slice (some ⟨x9.1, 0, none⟩) n9 c9, cellsB xd) :: R', by have := HKV.out; omega, by go_num, Lib.hid (.inr ⟨by simp, x8, by rw [cellsS_snoc]; exact ha8, rfl⟩), hv.keep (.cons_cons _ (.cons _ (List.Sublist.refl _))), Lib.hid (fun q hq => by
           rcases List.mem_append.1 hq with hq | hq
           · exact Mem.s (HAJ.out q hq)
           · rw [List.mem_singleton.1 hq]; exact Mem.z), Lib.hid (by
           have := HEQ.out
           rw [HDK.out, merge_next (fun g => by
             have g2 := g.2
             rw [HJE.out, spOf_snoc, cont_last] at g2
             simp only [HZN.out] at g2
             exact HJN.out g2)] at this
           rw [spOf_snoc]
           exact this), Lib.hid (by have := HJK.out; simp; omega), Lib.hid (by
           have := HTO.out
           rw [HTK.out] at this
           rw [tot_app, tot_one]
           simp only at this ⊢
           omega), Lib.hid (fun q hq => by
           rcases List.mem_append.1 hq with hq | hq
           · exact HJB.out q hq
           · rw [List.mem_singleton.1 hq]; exact ⟨HBM.out.1, HBM.out.2.1⟩)⟩
         case measure => simp [intOf]; have := HKV.out; omega
   · have hki : ¬ (k : Int) < (vn : Int) := by omega
     have HDE : Hid (l'.drop k = []) := Lib.hid (List.drop_eq_nil_of_le (by rw [HLL.out]; omega))
     have HKE : Hid (k = vn) := Lib.hid (by omega)
     obtain ⟨ua, un, uc, rfl, _⟩ := id HOUT.out.own.slice
     clear hk hk2
     go_wp2
     try rw [Exit.noGoto_ret]
     go_ret
     refine ⟨ua, un, uc, J, R' ++ [(2, .slice va vn vc, cellsS l')], l', rfl, ?_, ?_, HPM.out, HSR.out, ?_, ?_, ?_⟩
     · rw [List.append_assoc]
       exact HOUT.out.own.yield (A := []) (B := L) hv
     · intro q hq
       rw [List.append_assoc]
       exact HAJ.out q hq
     · have := HEQ.out
       rw [HDE.out] at this
       rw [HC.out, ← this]
       rfl
     · have := HJK.out
       have := HKE.out
       have := HVN.out
       omega
     · have := HTO.out
       rw [HDE.out] at this
       simpa [tot] using this
end Go.Proofs.Ythenepdbgeafkaa
end

section
/-
 Take: what its last loop comes to, in plain words; clones that may be nil.
-/
namespace Go.Proofs.Wi
open Go Go.RowKit
def pcOf (next : Nat) (x : SpV) : PcV := ((next + x.1.toNat) % 4294967296, x.2.1, x.2.2)
def finT (next : Nat) : Nat → List Nat → Nat → List PcV → List SpV → Nat × List Nat × Nat × List PcV
 | nx, B, n, P, [] => (nx, B, n, P)
 | nx, B, n, P, x :: r => if x.1 = 0 then finT next ((nx + x.2.2.length) % 4294967296) (B ++ x.2.2) x.2.2.length P r else finT next nx B n (P ++ [pcOf next x]) r
theorem finT_zero {next nx n : Nat} {B : List Nat} {P : List PcV} {x : SpV} {r : List SpV} (h : x.1 = 0) : finT next nx B n P (x :: r) = finT next ((nx + x.2.2.length) % 4294967296) (B ++ x.2.2) x.2.2.length P r := by
 conv => lhs; unfold finT
 exact if_pos h
theorem finT_else {next nx n : Nat} {B : List Nat} {P : List PcV} {x : SpV} {r : List SpV} (h : ¬ x.1 = 0) : finT next nx B n P (x :: r) = finT next nx B n (P ++ [pcOf next x]) r := by
 conv => lhs; unfold finT
 exact if_neg h
theorem finT_rest {next nx n : Nat} {B : List Nat} : ∀ {J : List SpV} {P : List PcV}, (∀ x ∈ J, ¬ x.1 = 0) → finT next nx B n P J = (nx, B, n, P ++ J.map (pcOf next)) := by
 intro J
 induction J with
 | nil => intro P _; unfold finT; rw [List.map_nil, List.append_nil]
 | cons x r ih =>
   intro P h
   rw [finT_else (h x (List.mem_cons_self ..)), ih fun y hy => h y (List.mem_cons_of_mem _ hy), List.append_assoc]; rfl
theorem sep_nz {a : Int} {l : List Sp} (h0 : 0 ≤ a) (h : Sep a l) : ∀ x ∈ l, ¬ x.1 = 0 := fun x hx => by have := h.lo x hx; omega
theorem merge_ok {s : St} (h : chk s = true) {seq : Nat} {data : List Nat} {srt : List Sp} (hp : srt.Perm (allL s seq data)) (hs : srt.Pairwise fun x y => x.1 ≤ y.1) : ∀ x ∈ merge [] srt, 0 ≤ x.1 ∧ x.1 + x.2.length ≤ 256 ∧ x.2 ≠ [] := by
 obtain ⟨a1, a2, a3⟩ := all_cont h seq data
 have hr := (chk_spans h).2.2
 have hd : srt.Pairwise dis := hp.symm.pairwise_iff (fun h => dis_symm h) |>.1 a1
 have ho : Ord 0 srt := ord_of_sorted hs hd fun x hx => by
   have := a2 x (hp.mem_iff.1 hx)
   exact ⟨this.1, this.2.1⟩
 obtain ⟨m1, m2⟩ := merge_sep (a := -1) (Int.le_refl _) srt [] trivial (fun _ h => (List.not_mem_nil h).elim) (by simpa using ho)
 have hne : ∀ {a : Int} {l : List Sp}, Ord a l → ∀ x ∈ l, x.2 ≠ [] := fun {a l} ho x hx => by
   induction l generalizing a with
   | nil => cases hx
   | cons y r ih => exact (List.mem_cons.1 hx).elim (fun e => e ▸ ho.2.1) (ih ho.2.2)
 intro x hx
 have n1 := hne m1.ord x hx
 have n2 := m1.lo x hx
 have hxp := List.length_pos_iff.2 n1
 refine ⟨by omega, ?_, n1⟩
 have hc : cov x (x.1 + x.2.length - 1).toNat := by unfold cov; omega
 have hg := cont_of_mem m1.ord.dis hx hc
 obtain ⟨v, hv⟩ := cov_some hc
 rw [hv, m2, List.nil_append, cont_perm hp hd, a3] at hg
 have hlt : ((x.1 + x.2.length - 1).toNat : Int) < room s := by
   rcases Int.lt_or_le ((x.1 + x.2.length - 1).toNat : Int) (room s) with g | g
   · exact g
   · rw [gF_out (by omega)] at hg; cases hg
 omega
theorem spOf_cons {x : SpV} {l : List SpV} : spOf (x :: l) = (x.1, x.2.2) :: spOf l := rfl
theorem spOf_mem {l : List SpV} {x : SpV} (h : x ∈ l) : (x.1, x.2.2) ∈ spOf l := List.mem_map.2 ⟨x, h, rfl⟩
theorem finT_took {next : Nat} {bs : List Nat} {l : List PcV} (hnx : next < 4294967296) (h : chk (stOf next bs l) = true) {seq : Nat} {data : List Nat} {srt J : List SpV} (hp : (spOf srt).Perm (allL (stOf next bs l) seq data)) (hs : (spOf srt).Pairwise fun x y => x.1 ≤ y.1) (hJ : spOf J = merge [] (spOf srt))
   {nx n : Nat} {B : List Nat} {P : List PcV} (hf : finT next next bs 0 [] J = (nx, B, n, P)) : ∃ b rest, Took (gF (stOf next bs l) seq data) b rest ∧ B = bs ++ b ∧ n = b.length ∧ stOf nx B P = outS (stOf next bs l) b rest := by
 obtain ⟨b, rest, hm, ht⟩ := took_of_merge h hp hs
 have hz := sep_nz (by omega) ht.sep
 have key : ∀ {J' : List SpV}, spOf J' = rest → (∀ x ∈ J', ¬ x.1 = 0) := fun {J'} e x hx => by
   have := hz _ (e ▸ spOf_mem hx)
   exact this
 have pc : ∀ {J' : List SpV}, spOf J' = rest → (J'.map (pcOf next)).map (fun p => (p.1, p.2.2)) = rest.map fun x => ((next + x.1.toNat) % 4294967296, x.2) := fun {J'} e => by
   subst e
   simp [spOf, pcOf]
 rw [← hJ] at hm
 refine ⟨b, rest, ht, ?_⟩
 rcases hm with ⟨hb, e⟩ | ⟨rfl, e⟩
 · cases J with
   | nil => cases e
   | cons x r =>
     rw [spOf_cons] at e
     obtain ⟨e1, e2⟩ := List.cons.inj e
     obtain ⟨x1, xv, xd⟩ := x
     cases e1
     rw [finT_zero rfl, finT_rest (key e2), List.nil_append] at hf
     cases hf
     refine ⟨rfl, rfl, ?_⟩
     unfold stOf outS
     simp only
     rw [pc e2]
 · rw [finT_rest (key e), List.nil_append] at hf
   cases hf
   refine ⟨by rw [List.append_nil], rfl, ?_⟩
   unfold stOf outS
   simp only
   rw [pc e, List.append_nil, List.length_nil, Nat.add_zero, Nat.mod_eq_of_lt hnx]
end Go.Proofs.Wi
namespace Go
open Go.RowKit
theorem Any.VE.baseR {w0 w w1 : World} {L : LV} {R : LR} {E : Any.Env} (h : Any.VE ⟨w0, w.drewN 1, L.map (·.1)⟩ E w1) (hm : Mem w0 w L R) : Mem w1 w1 [] R :=
 ⟨⟨Below.refl _ _, fun p hp => (List.not_mem_nil hp).elim, List.nodup_nil⟩, fun x hx => by
   obtain ⟨h1, h2⟩ := Any.rd_start (k := x.1) (v := x.2.1) (c := x.2.2) hm hx
   exact ⟨h.rdold h1 h2, fun _ _ _ _ _ _ p hp => (List.not_mem_nil hp).elim⟩⟩
theorem perm_own {α : Type} (O L : List α) (x y : α) : (O ++ x :: y :: L).Perm (y :: x :: (O ++ L)) :=
 (List.perm_middle.trans (List.perm_middle.cons x)).trans (List.Perm.swap ..)
theorem perm_swap {α : Type} (O U L : List α) (x y z : α) : (x :: y :: z :: (O ++ (U ++ L))).Perm (U ++ (x :: y :: z :: (O ++ L))) := by
 have h := List.perm_append_comm_assoc (x :: y :: z :: O) U L
 exact h
end Go
namespace Go.Proofs.Ythenepdbgeafkaa
open Go.Proofs.Wi Go.RowKit
theorem SClone_own (ao : Option Addr) (n cap : Nat) (c : List Value) (w0 w : World) (L : LV) (R : LR) (hv : Mem w0 w L R) (hm : (2, .slice ao n cap, c) ∈ R) (h1 : ∀ x ∈ c, x.oneCell' = true) (hn : n ≤ 1000000) :
   Calls Try.prog 78 #[.slice ao n cap] w fun e w' => ∃ v O, e = .returned v ∧ OwnL 2 v c O ∧ Mem w0 w' (O ++ L) R := by
 cases ao with
 | none =>
   obtain ⟨ao', n', cap', e, g1, g2, g3, g4, g5⟩ := id (hv.rd hm)
   cases e
   obtain ⟨rfl, rfl⟩ := g4 rfl
   have hc : c = [] := List.length_eq_zero_iff.1 (by omega)
   subst hc
   refine (SClone_nil w).mono ?_
   rintro e w' ⟨rfl, rfl⟩
   exact ⟨_, [], rfl, OwnL.nil 2, hv⟩
 | some a =>
   refine (SClone_row a n cap c w (hv.rd hm) h1 hn).mono ?_
   rintro e w' ⟨v, x, rfl, hr, h2, h3, h4, h5⟩
   exact ⟨v, [x], rfl, OwnL.row hr, hv.lay' h3 h2 h4 h5⟩
theorem cellsS_one (l : List SpV) (hg : ∀ p ∈ l, p.2.1.oneCell' = true) : ∀ x ∈ cellsS l, x.oneCell' = true := by
 intro x hx
 obtain ⟨p, hp, hx⟩ := List.mem_flatMap.1 hx
 rcases List.mem_cons.1 hx with rfl | hx
 · rfl
 · rw [List.mem_singleton.1 hx]; exact hg p hp
theorem built_str (x : Int) (a : Option Addr) (n c : Nat) : Try.prog.built 27 [(0, .int .u32 x), (1, .slice a n c)] = some #[.int .u32 x, .slice a n c, .slice none 0 0] := by kernel_rfl
theorem built_pc (x : Int) (a : Option Addr) (n c : Nat) : Try.prog.built 95 [(0, .int .u32 x), (1, .slice a n c)] = some #[.int .u32 x, .slice a n c] := by kernel_rfl
theorem infoPcz : (Try.prog.info? 95).map (fun i => (i.zero, i.size, i.bytes)) = some (some (.agg #[.int .u32 0, .slice none 0 0]), 2, 32) := by kernel_rfl
end Go.Proofs.Ythenepdbgeafkaa
end
