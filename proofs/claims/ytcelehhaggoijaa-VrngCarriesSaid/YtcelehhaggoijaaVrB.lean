import Derived.Test.YtcelehhaggoijaaVrA
section
/-
  Entropy behind a ring (layer 11): the device.
-/
set_option linter.unusedVariables false
set_option linter.unusedSimpArgs false
namespace Go.Proofs.Qu
open Go Go.RowKit Go.Proofs.Nm
theorem getB_returnM {M : List Nat} {base n i id len p k : Nat} (hn : okN n) (hb : base + sizeN n ≤ M.length) (hp : base + sizeN n ≤ p) : getB (returnM M base n i id len) p k = getB M p k := by
  have h := returnM_room (i := i) hn hb
  have hs := hn.size.2.2
  have h2 := Nat.mod_lt i (show 0 < n by have := hn.le; omega)
  unfold returnM
  have hx : base + (backN n + (4 + 8 * (i % n))) + 8 ≤ base + sizeN n := by generalize i % n = r at *; omega
  generalize base + (backN n + (4 + 8 * (i % n))) = q at *
  have e1 := putN_len (M := M) (p := q) (k := 4) (a := id) (by omega)
  have e2 := putN_len (M := putB M q (leB id 4)) (p := q + 4) (k := 4) (a := len) (by omega)
  rw [getB_apart (by rw [leB_len]; omega) (.inr (by rw [leB_len]; omega)), getB_apart (by rw [leB_len]; omega) (.inr (by rw [leB_len]; omega)), getB_apart (by rw [leB_len]; omega) (.inr (by rw [leB_len]; omega))]
theorem apart_sub {ao : Option Addr} {n n' cap cap' : Nat} {c c' : List Value} {L : List (Nat × Array Value)} (h : Apart (.slice ao n cap) c L) (hc : c' ≠ [] → c ≠ []) : Apart (.slice ao n' cap') c' L := fun h1 b o m k e p hp => by
  cases e
  exact h (hc h1) b o n cap rfl p hp
theorem mem_takeB {w0 w : World} {L : List (Nat × Array Value)} {R : List (Nat × Value × List Value)} {ao : Option Addr} {n cap m : Nat} {D : List Nat} (h : Mem w0 w L R) (hm : (1, Value.slice ao n cap, cellsB D) ∈ R) (hle : m ≤ n) : Mem w0 w L ((1, .slice ao m cap, cellsB (D.take m)) :: R) := by
  obtain ⟨h1, h2⟩ := h.rds _ hm
  have e : cellsB (D.take m) = (cellsB D).take m := by unfold cellsB; exact List.map_take ..
  rw [e]
  refine h.add ?_ (apart_sub h2 fun hc he => hc (by rw [show cellsB D = [] from he]; exact List.take_nil))
  obtain ⟨ao', n', cap', e9, g1, g2, g3, g4, g5⟩ := id h1
  cases e9
  refine ⟨ao, m, cap, rfl, by rw [List.length_take, g1]; omega, by omega, g3, fun h0 => ⟨by have := g4 h0; omega, (g4 h0).2⟩, fun i hi => ?_⟩
  rw [List.length_take] at hi
  obtain ⟨b, o, q1, q2, q3⟩ := g5 i (by omega)
  exact ⟨b, o, q1, q2, by rw [q3, List.getElem?_take, if_pos (by omega)]⟩
theorem sliced_0 (ao : Option Addr) (n cap k : Nat) : sliced ao 0 n cap k = .slice ao n cap := by
  unfold sliced
  by_cases h : cap = 0
  · rw [if_pos h]; rfl
  · rw [if_neg h]
    cases ao with
    | none => rfl
    | some a => simp [Addr.add]
def PutWv (R0 : List (Nat × Value × List Value)) (mn : Nat) (M2 : List Nat) (v : Value) (R' : List (Nat × Value × List Value)) : Prop := ∃ b c : Nat, v = .tuple #[.agg #[.slice (some ⟨b, 0, none⟩) mn c], .int .i64 0] ∧ InM R' b 0 mn c M2 ∧ ∀ x ∈ R0, x ∈ R'
/-- What a device gave back waits. -/
def Brought (R : List (Nat × Value × List Value)) (vb vc : Nat) (M : List Nat) (hd av av1 : Nat) (D : List Nat) : Prop :=
  InM R vb 0 80 vc M ∧ getN M (0 + (backN 1 + 2)) 2 = av1 ∧ getN M (0 + (backN 1 + (4 + 8 * (av % 1)))) 4 = hd ∧ getN M (0 + (backN 1 + (4 + 8 * (av % 1))) + 4) 4 = D.length ∧ getB M 60 D.length = D ∧ D.length ≤ 16
theorem Brought.mono {R R' : List (Nat × Value × List Value)} {vb vc : Nat} {M : List Nat} {hd av av1 : Nat} {D : List Nat} (h : Brought R vb vc M hd av av1 D) (hs : ∀ x ∈ R, x ∈ R') : Brought R' vb vc M hd av av1 D := ⟨h.1.mono hs, h.2⟩
end Go.Proofs.Qu
namespace Go.Proofs.Ytcelehhaggoijaa
open Go.Proofs.Qu Go.Proofs.Nm Go.RowKit Go.Proofs
theorem Next_V {w0 w : World} {L : List (Nat × Array Value)} {R : List (Nat × Value × List Value)} (hv : Mem w0 w L R) {vb vc av av1 hd : Nat} {M : List Nat} (hm : InM R vb 0 80 vc M) (hav : av < 65536) (hav1 : (av + 1) % 65536 = av1) (g1 : getN M (0 + (16 * 1 + 2)) 2 = av1) (g2 : getN M (0 + (16 * 1 + (4 + 2 * (av % 1)))) 2 = hd) (hc : ChainAt 80 M 0 1 hd VL) : Calls Try.prog 17 #[.agg #[.slice (some ⟨vb, 0, none⟩) 80 vc], .agg #[.int .i64 0, .int .i64 1, .int .u16 (av : Nat), .int .u16 (av : Nat)]] w fun e w' => ∃ gb go gc R', e = .returned (.tuple #[.agg #[.int .i64 0, .int .i64 1, .int .u16 (av1 : Nat), .int .u16 (av : Nat)], .int .i64 (hd : Nat), .slice (some ⟨gb, go, none⟩) 1 gc, .int .i64 0]) ∧ Mem w0 w' L R' ∧ (3, .slice (some ⟨gb, go, none⟩) 1 gc, cellsPt VL) ∈ R' ∧ ∀ x ∈ R, x ∈ R' := by
  refine (Next_M hv hm 0 1 av av ok1 (by decide) hav g1 (by omega) g2 VL hc (by decide)).mono ?_
  rintro e w' ⟨v, R', rfl, hv1, hl, hs⟩
  obtain ⟨gb, go, gn, gc, rfl, hq⟩ := (hv1.rd hl).some (by decide)
  obtain ⟨_, _, _, e0, g, _⟩ := hv1.rd hl
  cases e0
  have hg : gn = 1 := by
    have : (3 : Nat) = gn * 3 := g
    omega
  subst hg
  rw [hav1]
  exact ⟨gb, go, gc, R', rfl, hv1, hl, hs⟩
theorem Give_V {w0 w : World} {L : List (Nat × Array Value)} {R : List (Nat × Value × List Value)} (hv : Mem w0 w L R) {vb vc av av1 hd n : Nat} {M D : List Nat} (hm : InM R vb 0 80 vc M) (hav : av < 65536) (hav1 : (av + 1) % 65536 = av1) (h1 : hd < 1) (hn : D.length = n) (h2 : n ≤ 16) (hg : getB M 60 D.length = D) : Calls Try.prog 19 #[.agg #[.slice (some ⟨vb, 0, none⟩) 80 vc], .agg #[.int .i64 0, .int .i64 1, .int .u16 (av1 : Nat), .int .u16 (av : Nat)], .int .i64 (hd : Nat), .int .i64 (n : Nat)] w fun e w' => ∃ b c R' M', e = .returned (.tuple #[.agg #[.slice (some ⟨b, 0, none⟩) 80 c], .agg #[.int .i64 0, .int .i64 1, .int .u16 (av1 : Nat), .int .u16 (av1 : Nat)], .int .i64 0]) ∧ Mem w0 w' L R' ∧ Brought R' b c M' hd av av1 D ∧ ∀ x ∈ R, x ∈ R' := by
  subst hn
  refine (Give_M hv hm 0 1 av1 av hd D.length ok1 (by decide) hav (by omega) (by omega)).mono ?_
  rintro e w' ⟨b, c, R', rfl, hv1, hi, hs⟩
  have hb : 0 + sizeN 1 ≤ M.length := by rw [hm.len]; decide
  have g1 := returnM_idx (i := av) (id := hd) (len := D.length) ok1 hb
  rw [hav1] at g1 ⊢
  exact ⟨b, c, R', _, rfl, hv1, ⟨hi, g1, returnM_id ok1 hb (by omega), returnM_ln ok1 hb (by omega), by rw [getB_returnM ok1 hb (by decide)]; exact hg, h2⟩, hs⟩
theorem Put_V {w0 w : World} {L : List (Nat × Array Value)} {R R0 : List (Nat × Value × List Value)} (hv : Mem w0 w L R) (hR : ∀ x ∈ R0, x ∈ R) {vb vc : Nat} {M D : List Nat} (hm : InM R0 vb 0 80 vc M) {dv : Value} (hd : (1, dv, cellsB D) ∈ R0) (hg : goodB D) (h2 : D.length ≤ 16) : Calls Try.prog 18 #[.agg #[.slice (some ⟨vb, 0, none⟩) 80 vc], .int .i64 60, dv] w fun e w' => ∃ v R', e = .returned v ∧ PutWv R0 80 (putB M 60 D) v R' ∧ Mem w0 w' L R' ∧ ∀ x ∈ R, x ∈ R' := by
  refine (Put_any hv (hm.mono hR) 60 (hR _ hd) hg (by omega)).mono ?_
  rintro e w' ⟨b, c, R', rfl, hv1, hi, hs⟩
  exact ⟨_, R', rfl, ⟨b, c, rfl, hi, fun x hx => hs x (hR x hx)⟩, hv1, hs⟩
set_option maxRecDepth 100000 in
set_option maxHeartbeats 16000000 in
theorem Bring_V {w0 w : World} {L : List (Nat × Array Value)} {R : List (Nat × Value × List Value)} (hv : Mem w0 w L R) {vb vc fc cc av av1 hdn n : Nat} {fa ca da : Option Addr} {dn dc : Nat} {M free D : List Nat} {c : Chn} (hA : Asked R vb vc (.slice fa 0 fc) (.slice ca 1 cc) M free c hdn av av1) (hav : av < 65536) (hav1 : (av + 1) % 65536 = av1) (hdr : (1, .slice da dn dc, cellsB D) ∈ R) (hg : goodB D) (hmin : min dn 16 = n) :
    Calls Try.prog 8 #[.agg #[.slice (some ⟨vb, 0, none⟩) 80 vc], .agg #[.int .i64 0, .int .i64 1, .int .u16 (av : Nat), .int .u16 (av : Nat)], .slice da dn dc] w fun e w' => ∃ b5 c5 R5 M5, e = .returned (.tuple #[.agg #[.slice (some ⟨b5, 0, none⟩) 80 c5], .agg #[.int .i64 0, .int .i64 1, .int .u16 (av1 : Nat), .int .u16 (av1 : Nat)], .int .i64 0]) ∧ Mem w0 w' L R5 ∧ Brought R5 b5 c5 M5 hdn av av1 (D.take n) ∧ ∀ x ∈ R, x ∈ R5 := by
  obtain ⟨hd, _, hch, hcl, hcr, g1, g2, gc, hh1⟩ := hA
  have HD := Lib.hid hd
  have G1 := Lib.hid g1
  have G2 := Lib.hid g2
  have GC := Lib.hid gc
  have HH1 := Lib.hid hh1
  have HAV := Lib.hid hav
  have HA1 := Lib.hid hav1
  have HDR := Lib.hid hdr
  have hdl : D.length = dn := by
    obtain ⟨_, _, _, e, g, _⟩ := hv.rd hdr
    cases e
    rw [cellsB_len] at g; omega
  have HNC : Hid (n ≤ dc) := Lib.hid (by
    obtain ⟨_, _, _, e, _, g, _⟩ := hv.rd hdr
    cases e; omega)
  have HN16 : Hid (n ≤ 16) := Lib.hid (by omega)
  have HND : Hid (n ≤ dn) := Lib.hid (by omega)
  have HDL : Hid ((D.take n).length = n) := Lib.hid (by rw [List.length_take]; omega)
  have HDT : Hid ((D.take n).length ≤ 16) := Lib.hid (by rw [List.length_take]; omega)
  have HGD : Hid (goodB (D.take n)) := Lib.hid (fun x hx => hg x (List.mem_of_mem_take hx))
  have HGB : Hid (getB (putB M 60 (D.take n)) 60 (D.take n).length = D.take n) := Lib.hid (by
    rw [getB_putB (by rw [hd.m.len, List.length_take]; omega) (Nat.le_refl _), List.take_length])
  have ymin : min (dn : Int) 16 = (n : Int) := by omega
  clear hd hch hcl hcr g1 g2 gc hh1 hav hav1 hdr hg hmin hdl
  go_enter Try.func8, Try.ntmps8
  go_wp2_with (first
    | ((with_reducible refine at_box (T := 25) (dst := some 3) ?_); refine wl_newb rfl #[.slice (some ⟨vb, 0, none⟩) 80 vc] 25 (fun _ => rfl) ?_; intro b3 w2 hm2; replace hv := hv.madeAt hm2; clear hm2)
    | ((with_reducible refine at_box (T := 37) (dst := some 4) ?_); refine wl_newb rfl #[.int .i64 0, .int .i64 1, .int .u16 (av : Nat), .int .u16 (av : Nat)] 37 (fun _ => rfl) ?_; intro b4 w2 hm2; replace hv := hv.madeAt hm2; clear hm2)
    | ((with_reducible refine at_alloc (T := 25) (dst := some 6) ?_); refine wl_newb rfl #[.slice none 0 0] 25 (fun _ => rfl) ?_; intro b6 w2 hm2; replace hv := hv.madeAt hm2; clear hm2)
    | ((with_reducible refine at_alloc (T := 37) (dst := some 7) ?_); refine wl_newb rfl #[.int .i64 0, .int .i64 0, .int .u16 0, .int .u16 0] 37 (fun _ => rfl) ?_; intro b7 w2 hm2; replace hv := hv.madeAt hm2; clear hm2)
    | ((with_reducible refine at_load (T := 25) ?_); refine wl_ldv rfl b3 rfl _ (hv.vars.row (by first | exact .head _ | exact .tail _ (.head _) | exact .tail _ (.tail _ (.head _)) | exact .tail _ (.tail _ (.tail _ (.head _))) | exact .tail _ (.tail _ (.tail _ (.tail _ (.head _)))) | exact .tail _ (.tail _ (.tail _ (.tail _ (.tail _ (.head _))))) | exact .tail _ (.tail _ (.tail _ (.tail _ (.tail _ (.tail _ (.head _)))))) | exact .tail _ (.tail _ (.tail _ (.tail _ (.tail _ (.tail _ (.tail _ (.head _))))))))) 1 _ Try.underlying25 rfl infoM (by decide) rfl ?_)
    | ((with_reducible refine at_load (T := 37) ?_); refine wl_ldv rfl b4 rfl _ (hv.vars.row (by first | exact .head _ | exact .tail _ (.head _) | exact .tail _ (.tail _ (.head _)) | exact .tail _ (.tail _ (.tail _ (.head _))) | exact .tail _ (.tail _ (.tail _ (.tail _ (.head _)))) | exact .tail _ (.tail _ (.tail _ (.tail _ (.tail _ (.head _))))) | exact .tail _ (.tail _ (.tail _ (.tail _ (.tail _ (.tail _ (.head _)))))) | exact .tail _ (.tail _ (.tail _ (.tail _ (.tail _ (.tail _ (.tail _ (.head _))))))))) 4 _ Try.underlying37 rfl infoS4 (by decide) rfl ?_)
    | (go_at_call 17; (with_reducible refine (Next_V hv HD.out.m HAV.out HA1.out G1.out G2.out GC.out).mono ?_); rintro e w1 ⟨gb, go_, gc, R3, rfl, hv1, hl1, hs1⟩; replace hv := hv1; have HL3 := Lib.hid hl1; have HS3 := Lib.hid hs1; clear hv1 hl1 hs1)
    | ((with_reducible refine at_store (T := 37) ?_); refine wl_stv rfl b4 rfl _ rfl _ (hv.vars.row (by first | exact .head _ | exact .tail _ (.head _) | exact .tail _ (.tail _ (.head _)) | exact .tail _ (.tail _ (.tail _ (.head _))) | exact .tail _ (.tail _ (.tail _ (.tail _ (.head _)))) | exact .tail _ (.tail _ (.tail _ (.tail _ (.tail _ (.head _))))) | exact .tail _ (.tail _ (.tail _ (.tail _ (.tail _ (.tail _ (.head _)))))) | exact .tail _ (.tail _ (.tail _ (.tail _ (.tail _ (.tail _ (.tail _ (.head _))))))) | exact .tail _ (.tail _ (.tail _ (.tail _ (.tail _ (.tail _ (.tail _ (.tail _ (.head _)))))))) | exact .tail _ (.tail _ (.tail _ (.tail _ (.tail _ (.tail _ (.tail _ (.tail _ (.tail _ (.head _))))))))) | exact .tail _ (.tail _ (.tail _ (.tail _ (.tail _ (.tail _ (.tail _ (.tail _ (.tail _ (.tail _ (.head _)))))))))) | exact .tail _ (.tail _ (.tail _ (.tail _ (.tail _ (.tail _ (.tail _ (.tail _ (.tail _ (.tail _ (.tail _ (.head _))))))))))))) (hv.vars.sft (by first | exact .head _ | exact .tail _ (.head _) | exact .tail _ (.tail _ (.head _)) | exact .tail _ (.tail _ (.tail _ (.head _))) | exact .tail _ (.tail _ (.tail _ (.tail _ (.head _)))) | exact .tail _ (.tail _ (.tail _ (.tail _ (.tail _ (.head _))))) | exact .tail _ (.tail _ (.tail _ (.tail _ (.tail _ (.tail _ (.head _)))))) | exact .tail _ (.tail _ (.tail _ (.tail _ (.tail _ (.tail _ (.tail _ (.head _))))))) | exact .tail _ (.tail _ (.tail _ (.tail _ (.tail _ (.tail _ (.tail _ (.tail _ (.head _)))))))) | exact .tail _ (.tail _ (.tail _ (.tail _ (.tail _ (.tail _ (.tail _ (.tail _ (.tail _ (.head _))))))))) | exact .tail _ (.tail _ (.tail _ (.tail _ (.tail _ (.tail _ (.tail _ (.tail _ (.tail _ (.tail _ (.head _)))))))))) | exact .tail _ (.tail _ (.tail _ (.tail _ (.tail _ (.tail _ (.tail _ (.tail _ (.tail _ (.tail _ (.tail _ (.head _))))))))))))) 4 infoS4 rfl rfl (by simp [Value.oneCell']) ?_; intro w2 hw2; (first | (replace hv := hv.set 0 rfl hw2) | (replace hv := hv.set 1 rfl hw2) | (replace hv := hv.set 2 rfl hw2) | (replace hv := hv.set 3 rfl hw2) | (replace hv := hv.set 4 rfl hw2) | (replace hv := hv.set 5 rfl hw2) | (replace hv := hv.set 6 rfl hw2) | (replace hv := hv.set 7 rfl hw2) | (replace hv := hv.set 8 rfl hw2) | (replace hv := hv.set 9 rfl hw2) | (replace hv := hv.set 10 rfl hw2) | (replace hv := hv.set 11 rfl hw2)); clear hw2; simp only [List.set] at hv)
    | ((with_reducible refine at_load (T := 4) ?_); refine wl_rd rfl (c := cellsPt VL) (hv.rd HL3.out) 2 rfl _ Try.underlying4 rfl (.bool true) rfl ?_)
    | ((with_reducible refine at_load (T := 3) ?_); refine wl_rd rfl (c := cellsPt VL) (hv.rd HL3.out) 1 rfl _ Try.underlying3 rfl (.int .i64 16) rfl ?_))
  have hv1 := mem_takeB hv (HS3.out _ HDR.out) HND.out
  replace hv := hv1
  clear hv1
  obtain ⟨R9, e9⟩ : ∃ R9, R9 = (1, Value.slice da n dc, cellsB (D.take n)) :: R3 := ⟨_, rfl⟩
  have HM9 : Hid (InM R9 vb 0 80 vc M) := Lib.hid (by rw [e9]; exact (HD.out.m.mono HS3.out).mono fun x hx => Mem.s hx)
  have HD9 : Hid ((1, Value.slice da n dc, cellsB (D.take n)) ∈ R9) := Lib.hid (by rw [e9]; exact Mem.z)
  have HL9 : Hid ((3, Value.slice (some ⟨gb, go_, none⟩) 1 gc, cellsPt VL) ∈ R9) := Lib.hid (by rw [e9]; exact Mem.s HL3.out)
  have HS9 : Hid (∀ x ∈ R, x ∈ R9) := Lib.hid (fun x hx => by rw [e9]; exact Mem.s (HS3.out x hx))
  rw [← e9] at hv
  clear e9
  have HSO : Hid (∃ v R', PutWv R9 80 (putB M 60 (D.take n)) v R') := Lib.hid (Bny.some_of (Put_V hv (fun x hx => hx) HM9.out HD9.out HGD.out HDT.out))
  have hv0 := hv
  clear hv
  have hv : Mem w0 _ ([(b7, #[.int .i64 0, .int .i64 0, .int .u16 0, .int .u16 0]), (b6, #[.slice none 0 0]), (b4, #[.int .i64 0, .int .i64 1, .int .u16 (av1 : Nat), .int .u16 (av : Nat)]), (b3, #[.slice (some ⟨vb, 0, none⟩) 80 vc])] ++ L) R9 := hv0
  clear hv0
  try simp only [Act.put]
  refine Bny.wp_region_walk [(b7, #[.int .i64 0, .int .i64 0, .int .u16 0, .int .u16 0]), (b6, #[.slice none 0 0]), (b4, #[.int .i64 0, .int .i64 1, .int .u16 (av1 : Nat), .int .u16 (av : Nat)]), (b3, #[.slice (some ⟨vb, 0, none⟩) 80 vc])] L [⟨[1003], none⟩, ⟨[], none⟩, ⟨[], none⟩, ⟨[], none⟩, ⟨[], none⟩, ⟨[], none⟩, ⟨[], none⟩, ⟨[], none⟩, ⟨[], some 8⟩, ⟨[], none⟩, ⟨[], none⟩, ⟨[], none⟩, ⟨[1003], some 1003⟩] [.val, .val, .val, .val, .val, .val, .val, .val, .mem (PutWv R9 80 (putB M 60 (D.take n))), .pure, .pure, .pure, .put] (by kernel_rfl) (by kernel_rfl) hv ?_
  simp only [List.length_cons, List.length_nil, Nat.zero_add, Any.someVals]
  iterate 13 apply Exists.intro
  repeat (first
    | (refine Bny.E_off rfl ?_; simp only [Act.put, List.setIfInBounds_toArray, List.set_cons_succ, List.set_cons_zero])
    | ((with_reducible refine Bny.at_estore (T := 25) ?_); refine Bny.E_putv (T := 25) rfl rfl rfl rfl rfl rfl 1 infoM rfl rfl (by simp [Value.oneCell']) ?_; simp only [Act.put, List.setIfInBounds_toArray, List.set_cons_succ, List.set_cons_zero])
    | ((with_reducible refine Bny.at_ecall ?_); refine Bny.E_callmem rfl rfl rfl (Go.Proofs.enters_of Try.func18 (by kernel_rfl) rfl) rfl [.agg #[.slice (some ⟨vb, 0, none⟩) 80 vc], .int .i64 60, .slice da n dc] rfl HSO.out R9 (fun x hx => .inl hx) (fun w0 w L R' hm hs => Put_V hm hs HM9.out HD9.out HGD.out HDT.out) ?_; rintro v R4 ⟨vb4, vc4, rfl, hi4, hs4⟩; have HI4 := Lib.hid hi4; have HS4 := Lib.hid hs4; clear hi4 hs4; simp only [Act.put, List.setIfInBounds_toArray, List.set_cons_succ, List.set_cons_zero])
    | (apply Bny.E_pureq rfl rfl rfl
       case h => intro K hK; go_big_quiet_op; (refine hK _ ?_; rfl)
       case hr => exact fun _ => rfl
       simp only [Act.put, List.setIfInBounds_toArray, List.set_cons_succ, List.set_cons_zero])
    | (apply Bny.E_val rfl rfl rfl rfl
       case h =>
         intro E' hA K hK
         first
           | ((with_reducible refine Bny.at_qload (T := 25) ?_); refine Bny.q_ldv 1003 hA (by decide) rfl rfl 1 _ Try.underlying25 rfl infoM (by decide) rfl ?_; refine hK _ ?_; rfl)
           | ((with_reducible refine Bny.at_qload (T := 3) ?_); refine Bny.q_rd (.inl HL9.out) hA 0 rfl _ Try.underlying3 rfl (.int .i64 60) rfl ?_; refine hK _ ?_; rfl)
           | ((with_reducible refine Any.at_qslice (T := 23) ?_); refine Any.q_slice rfl Try.underlying23 infoU81 none (some (.int .i64 (n : Nat))) none rfl rfl rfl 0 n dc (fun w => bounds_h HNC.out) (sliced_0 _ _ _ _) ?_; refine hK _ ?_; rfl)
           | (go_big_quiet_op; first
             | (refine hK _ ?_; rfl)
             | (refine ⟨_, fun _ _ => rfl, ?_⟩; refine hK _ ?_; rfl)
             | (apply Exists.intro; refine ⟨fun w1 hw1 => ?_, ?_⟩; · (first
                 | fail)
                refine hK _ ?_; rfl))
       case hD => rfl
       simp only [Act.put, List.setIfInBounds_toArray, List.set_cons_succ, List.set_cons_zero]))
  try any_goals exact undef
  refine Bny.E_nil ?_
  intro w9 hE9
  replace hv : Mem w0 w9 ([(b7, #[.int .i64 0, .int .i64 0, .int .u16 0, .int .u16 0]), (b6, #[.slice none 0 0]), (b4, #[.int .i64 0, .int .i64 1, .int .u16 (av1 : Nat), .int .u16 (av : Nat)]), (b3, #[.slice (some ⟨vb4, 0, none⟩) 80 vc4])] ++ L) R4 := hE9.mem1 [1000, 1001, 1002, 1003] (by decide) 8 rfl
  clear hE9
  simp only [List.cons_append, List.nil_append] at hv
  go_wp2_with (first
    | ((with_reducible refine at_load (T := 25) ?_); refine wl_ldv rfl b3 rfl _ (hv.vars.row (by first | exact .head _ | exact .tail _ (.head _) | exact .tail _ (.tail _ (.head _)) | exact .tail _ (.tail _ (.tail _ (.head _))) | exact .tail _ (.tail _ (.tail _ (.tail _ (.head _)))) | exact .tail _ (.tail _ (.tail _ (.tail _ (.tail _ (.head _))))) | exact .tail _ (.tail _ (.tail _ (.tail _ (.tail _ (.tail _ (.head _)))))) | exact .tail _ (.tail _ (.tail _ (.tail _ (.tail _ (.tail _ (.tail _ (.head _))))))) | exact .tail _ (.tail _ (.tail _ (.tail _ (.tail _ (.tail _ (.tail _ (.tail _ (.head _)))))))) | exact .tail _ (.tail _ (.tail _ (.tail _ (.tail _ (.tail _ (.tail _ (.tail _ (.tail _ (.head _))))))))) | exact .tail _ (.tail _ (.tail _ (.tail _ (.tail _ (.tail _ (.tail _ (.tail _ (.tail _ (.tail _ (.head _)))))))))) | exact .tail _ (.tail _ (.tail _ (.tail _ (.tail _ (.tail _ (.tail _ (.tail _ (.tail _ (.tail _ (.tail _ (.head _))))))))))))) 1 _ Try.underlying25 rfl infoM (by decide) rfl ?_)
    | ((with_reducible refine at_load (T := 37) ?_); refine wl_ldv rfl b4 rfl _ (hv.vars.row (by first | exact .head _ | exact .tail _ (.head _) | exact .tail _ (.tail _ (.head _)) | exact .tail _ (.tail _ (.tail _ (.head _))) | exact .tail _ (.tail _ (.tail _ (.tail _ (.head _)))) | exact .tail _ (.tail _ (.tail _ (.tail _ (.tail _ (.head _))))) | exact .tail _ (.tail _ (.tail _ (.tail _ (.tail _ (.tail _ (.head _)))))) | exact .tail _ (.tail _ (.tail _ (.tail _ (.tail _ (.tail _ (.tail _ (.head _))))))) | exact .tail _ (.tail _ (.tail _ (.tail _ (.tail _ (.tail _ (.tail _ (.tail _ (.head _)))))))) | exact .tail _ (.tail _ (.tail _ (.tail _ (.tail _ (.tail _ (.tail _ (.tail _ (.tail _ (.head _))))))))) | exact .tail _ (.tail _ (.tail _ (.tail _ (.tail _ (.tail _ (.tail _ (.tail _ (.tail _ (.tail _ (.head _)))))))))) | exact .tail _ (.tail _ (.tail _ (.tail _ (.tail _ (.tail _ (.tail _ (.tail _ (.tail _ (.tail _ (.tail _ (.head _))))))))))))) 4 _ Try.underlying37 rfl infoS4 (by decide) rfl ?_)
    | (go_at_call 19; (with_reducible refine (Give_V hv HI4.out HAV.out HA1.out HH1.out HDL.out HN16.out HGB.out).mono ?_); rintro e w1 ⟨vb5, vc5, R5, M5, rfl, hv1, hb5, hs1⟩; replace hv := hv1; have HB5 := Lib.hid hb5; have HS5 := Lib.hid hs1; clear hv1 hb5 hs1)
    | ((with_reducible refine at_store (T := 25) ?_); refine wl_stv rfl b3 rfl _ rfl _ (hv.vars.row (by first | exact .head _ | exact .tail _ (.head _) | exact .tail _ (.tail _ (.head _)) | exact .tail _ (.tail _ (.tail _ (.head _))) | exact .tail _ (.tail _ (.tail _ (.tail _ (.head _)))) | exact .tail _ (.tail _ (.tail _ (.tail _ (.tail _ (.head _))))) | exact .tail _ (.tail _ (.tail _ (.tail _ (.tail _ (.tail _ (.head _)))))) | exact .tail _ (.tail _ (.tail _ (.tail _ (.tail _ (.tail _ (.tail _ (.head _))))))) | exact .tail _ (.tail _ (.tail _ (.tail _ (.tail _ (.tail _ (.tail _ (.tail _ (.head _)))))))) | exact .tail _ (.tail _ (.tail _ (.tail _ (.tail _ (.tail _ (.tail _ (.tail _ (.tail _ (.head _))))))))) | exact .tail _ (.tail _ (.tail _ (.tail _ (.tail _ (.tail _ (.tail _ (.tail _ (.tail _ (.tail _ (.head _)))))))))) | exact .tail _ (.tail _ (.tail _ (.tail _ (.tail _ (.tail _ (.tail _ (.tail _ (.tail _ (.tail _ (.tail _ (.head _))))))))))))) (hv.vars.sft (by first | exact .head _ | exact .tail _ (.head _) | exact .tail _ (.tail _ (.head _)) | exact .tail _ (.tail _ (.tail _ (.head _))) | exact .tail _ (.tail _ (.tail _ (.tail _ (.head _)))) | exact .tail _ (.tail _ (.tail _ (.tail _ (.tail _ (.head _))))) | exact .tail _ (.tail _ (.tail _ (.tail _ (.tail _ (.tail _ (.head _)))))) | exact .tail _ (.tail _ (.tail _ (.tail _ (.tail _ (.tail _ (.tail _ (.head _))))))) | exact .tail _ (.tail _ (.tail _ (.tail _ (.tail _ (.tail _ (.tail _ (.tail _ (.head _)))))))) | exact .tail _ (.tail _ (.tail _ (.tail _ (.tail _ (.tail _ (.tail _ (.tail _ (.tail _ (.head _))))))))) | exact .tail _ (.tail _ (.tail _ (.tail _ (.tail _ (.tail _ (.tail _ (.tail _ (.tail _ (.tail _ (.head _)))))))))) | exact .tail _ (.tail _ (.tail _ (.tail _ (.tail _ (.tail _ (.tail _ (.tail _ (.tail _ (.tail _ (.tail _ (.head _))))))))))))) 1 infoM rfl rfl (by simp [Value.oneCell']) ?_; intro w2 hw2; (first | (replace hv := hv.set 0 rfl hw2) | (replace hv := hv.set 1 rfl hw2) | (replace hv := hv.set 2 rfl hw2) | (replace hv := hv.set 3 rfl hw2) | (replace hv := hv.set 4 rfl hw2) | (replace hv := hv.set 5 rfl hw2) | (replace hv := hv.set 6 rfl hw2) | (replace hv := hv.set 7 rfl hw2) | (replace hv := hv.set 8 rfl hw2) | (replace hv := hv.set 9 rfl hw2) | (replace hv := hv.set 10 rfl hw2) | (replace hv := hv.set 11 rfl hw2)); clear hw2; simp only [List.set] at hv)
    | ((with_reducible refine at_store (T := 37) ?_); refine wl_stv rfl b4 rfl _ rfl _ (hv.vars.row (by first | exact .head _ | exact .tail _ (.head _) | exact .tail _ (.tail _ (.head _)) | exact .tail _ (.tail _ (.tail _ (.head _))) | exact .tail _ (.tail _ (.tail _ (.tail _ (.head _)))) | exact .tail _ (.tail _ (.tail _ (.tail _ (.tail _ (.head _))))) | exact .tail _ (.tail _ (.tail _ (.tail _ (.tail _ (.tail _ (.head _)))))) | exact .tail _ (.tail _ (.tail _ (.tail _ (.tail _ (.tail _ (.tail _ (.head _))))))) | exact .tail _ (.tail _ (.tail _ (.tail _ (.tail _ (.tail _ (.tail _ (.tail _ (.head _)))))))) | exact .tail _ (.tail _ (.tail _ (.tail _ (.tail _ (.tail _ (.tail _ (.tail _ (.tail _ (.head _))))))))) | exact .tail _ (.tail _ (.tail _ (.tail _ (.tail _ (.tail _ (.tail _ (.tail _ (.tail _ (.tail _ (.head _)))))))))) | exact .tail _ (.tail _ (.tail _ (.tail _ (.tail _ (.tail _ (.tail _ (.tail _ (.tail _ (.tail _ (.tail _ (.head _))))))))))))) (hv.vars.sft (by first | exact .head _ | exact .tail _ (.head _) | exact .tail _ (.tail _ (.head _)) | exact .tail _ (.tail _ (.tail _ (.head _))) | exact .tail _ (.tail _ (.tail _ (.tail _ (.head _)))) | exact .tail _ (.tail _ (.tail _ (.tail _ (.tail _ (.head _))))) | exact .tail _ (.tail _ (.tail _ (.tail _ (.tail _ (.tail _ (.head _)))))) | exact .tail _ (.tail _ (.tail _ (.tail _ (.tail _ (.tail _ (.tail _ (.head _))))))) | exact .tail _ (.tail _ (.tail _ (.tail _ (.tail _ (.tail _ (.tail _ (.tail _ (.head _)))))))) | exact .tail _ (.tail _ (.tail _ (.tail _ (.tail _ (.tail _ (.tail _ (.tail _ (.tail _ (.head _))))))))) | exact .tail _ (.tail _ (.tail _ (.tail _ (.tail _ (.tail _ (.tail _ (.tail _ (.tail _ (.tail _ (.head _)))))))))) | exact .tail _ (.tail _ (.tail _ (.tail _ (.tail _ (.tail _ (.tail _ (.tail _ (.tail _ (.tail _ (.tail _ (.head _))))))))))))) 4 infoS4 rfl rfl (by simp [Value.oneCell']) ?_; intro w2 hw2; (first | (replace hv := hv.set 0 rfl hw2) | (replace hv := hv.set 1 rfl hw2) | (replace hv := hv.set 2 rfl hw2) | (replace hv := hv.set 3 rfl hw2) | (replace hv := hv.set 4 rfl hw2) | (replace hv := hv.set 5 rfl hw2) | (replace hv := hv.set 6 rfl hw2) | (replace hv := hv.set 7 rfl hw2) | (replace hv := hv.set 8 rfl hw2) | (replace hv := hv.set 9 rfl hw2) | (replace hv := hv.set 10 rfl hw2) | (replace hv := hv.set 11 rfl hw2)); clear hw2; simp only [List.set] at hv))
  have hv0 := hv
  clear hv
  have hv : Mem w0 _ ([(b7, #[.int .i64 0, .int .i64 0, .int .u16 0, .int .u16 0]), (b6, #[.slice none 0 0]), (b4, #[.int .i64 0, .int .i64 1, .int .u16 (av1 : Nat), .int .u16 (av1 : Nat)]), (b3, #[.slice (some ⟨vb5, 0, none⟩) 80 vc5])] ++ L) R5 := hv0
  clear hv0
  try simp only [Act.put]
  refine Bny.wp_region_walk [(b7, #[.int .i64 0, .int .i64 0, .int .u16 0, .int .u16 0]), (b6, #[.slice none 0 0]), (b4, #[.int .i64 0, .int .i64 1, .int .u16 (av1 : Nat), .int .u16 (av1 : Nat)]), (b3, #[.slice (some ⟨vb5, 0, none⟩) 80 vc5])] L [⟨[1003], none⟩, ⟨[1002], none⟩, ⟨[1001], some 1001⟩, ⟨[1000], some 1000⟩, ⟨[], none⟩] [.val, .val, .put, .put, .val] (by kernel_rfl) (by kernel_rfl) hv ?_
  simp only [List.length_cons, List.length_nil, Nat.zero_add, Any.someVals]
  iterate 5 apply Exists.intro
  repeat (first
    | (refine Bny.E_off rfl ?_; simp only [Act.put, List.setIfInBounds_toArray, List.set_cons_succ, List.set_cons_zero])
    | ((with_reducible refine Bny.at_estore (T := 25) ?_); refine Bny.E_putv (T := 25) rfl rfl rfl rfl rfl rfl 1 infoM rfl rfl (by simp [Value.oneCell']) ?_; simp only [Act.put, List.setIfInBounds_toArray, List.set_cons_succ, List.set_cons_zero])
    | ((with_reducible refine Bny.at_estore (T := 37) ?_); refine Bny.E_putv (T := 37) rfl rfl rfl rfl rfl rfl 4 infoS4 rfl rfl (by simp [Value.oneCell']) ?_; simp only [Act.put, List.setIfInBounds_toArray, List.set_cons_succ, List.set_cons_zero])
    | (apply Bny.E_pureq rfl rfl rfl
       case h => intro K hK; go_big_quiet_op; (refine hK _ ?_; rfl)
       case hr => exact fun _ => rfl
       simp only [Act.put, List.setIfInBounds_toArray, List.set_cons_succ, List.set_cons_zero])
    | (apply Bny.E_val rfl rfl rfl rfl
       case h =>
         intro E' hA K hK
         first
           | ((with_reducible refine Bny.at_qload (T := 25) ?_); refine Bny.q_ldv 1003 hA (by decide) rfl rfl 1 _ Try.underlying25 rfl infoM (by decide) rfl ?_; refine hK _ ?_; rfl)
           | ((with_reducible refine Bny.at_qload (T := 37) ?_); refine Bny.q_ldv 1002 hA (by decide) rfl rfl 4 _ Try.underlying37 rfl infoS4 (by decide) rfl ?_; refine hK _ ?_; rfl)
           | (go_big_quiet_op; first
             | (refine hK _ ?_; rfl)
             | (refine ⟨_, fun _ _ => rfl, ?_⟩; refine hK _ ?_; rfl)
             | (apply Exists.intro; refine ⟨fun w1 hw1 => ?_, ?_⟩; · (first
                 | fail)
                refine hK _ ?_; rfl))
       case hD => rfl
       simp only [Act.put, List.setIfInBounds_toArray, List.set_cons_succ, List.set_cons_zero]))
  try any_goals exact undef
  refine Bny.E_nil ?_
  intro w9 hE9
  replace hv : Mem w0 w9 ([(b7, #[.int .i64 0, .int .i64 1, .int .u16 (av1 : Nat), .int .u16 (av1 : Nat)]), (b6, #[.slice (some ⟨vb5, 0, none⟩) 80 vc5]), (b4, #[.int .i64 0, .int .i64 1, .int .u16 (av1 : Nat), .int .u16 (av1 : Nat)]), (b3, #[.slice (some ⟨vb5, 0, none⟩) 80 vc5])] ++ L) R5 := hE9.mem0 [1000, 1001, 1002, 1003] (by decide)
  clear hE9
  simp only [List.cons_append, List.nil_append] at hv
  go_wp2
  try simp only [Exit.inBlock, Exit.then]
  refine ret_cct (v := .agg #[.slice (some ⟨vb5, 0, none⟩) 80 vc5]) (v' := .agg #[.int .i64 0, .int .i64 1, .int .u16 (av1 : Nat), .int .u16 (av1 : Nat)]) (v1 := .int .i64 0) rfl rfl rfl (read_row _ b6 25 _ (hv.vars.row (b := b6) (by first | exact .head _ | exact .tail _ (.head _) | exact .tail _ (.tail _ (.head _)) | exact .tail _ (.tail _ (.tail _ (.head _))) | exact .tail _ (.tail _ (.tail _ (.tail _ (.head _)))) | exact .tail _ (.tail _ (.tail _ (.tail _ (.tail _ (.head _))))) | exact .tail _ (.tail _ (.tail _ (.tail _ (.tail _ (.tail _ (.head _)))))) | exact .tail _ (.tail _ (.tail _ (.tail _ (.tail _ (.tail _ (.tail _ (.head _))))))))) 1 _ Try.underlying25 rfl infoM (by decide) rfl) (read_row _ b7 37 _ (hv.vars.row (b := b7) (by first | exact .head _ | exact .tail _ (.head _) | exact .tail _ (.tail _ (.head _)) | exact .tail _ (.tail _ (.tail _ (.head _))) | exact .tail _ (.tail _ (.tail _ (.tail _ (.head _)))) | exact .tail _ (.tail _ (.tail _ (.tail _ (.tail _ (.head _))))) | exact .tail _ (.tail _ (.tail _ (.tail _ (.tail _ (.tail _ (.head _)))))) | exact .tail _ (.tail _ (.tail _ (.tail _ (.tail _ (.tail _ (.tail _ (.head _))))))))) 4 _ Try.underlying37 rfl infoS4 (by decide) rfl) rfl rfl ?_
  exact ⟨vb5, vc5, R5, M5, rfl, hv.keep (by exact List.sublist_append_right [_, _, _, _] L), HB5.out, fun x hx => HS5.out x (HS4.out x (HS9.out x hx))⟩
end Go.Proofs.Ytcelehhaggoijaa
end

section
/-
  Entropy behind a ring (layer 11): taking.
-/
set_option linter.unusedVariables false
set_option linter.unusedSimpArgs false
namespace Go.Proofs.Qu
open Go Go.RowKit Go.Proofs.Nm
def PollVW (R0 : List (Nat × Value × List Value)) (vb vc : Nat) (M : List Nat) (av1 hd n : Nat) (v : Value) (R' : List (Nat × Value × List Value)) : Prop :=
  ∃ (fc cc : Nat) (fa ca : Option Addr) (free : List Nat), v = .tuple #[.agg #[.int .i64 0, .int .i64 1, .slice fa 1 fc, .int .u16 (av1 : Nat), .int .u16 (av1 : Nat), .slice ca 0 cc], .int .i64 (hd : Nat), .int .i64 (n : Nat), .int .i64 0] ∧ Drv R' 80 vb vc (.slice fa 1 fc) (.slice ca 0 cc) M 1 free [] ∧ free.length = 1 ∧ ∀ x ∈ R0, x ∈ R'
def GetVW (R0 : List (Nat × Value × List Value)) (n : Nat) (D : List Nat) (v : Value) (R' : List (Nat × Value × List Value)) : Prop := ∃ b c : Nat, v = .tuple #[.slice (some ⟨b, 0, none⟩) n c, .int .i64 0] ∧ (1, Value.slice (some ⟨b, 0, none⟩) n c, cellsB D) ∈ R' ∧ ∀ x ∈ R0, x ∈ R'
def ZeroVW (R0 : List (Nat × Value × List Value)) (v : Value) (R' : List (Nat × Value × List Value)) : Prop := ∃ u, v = .tuple #[u, .int .i64 0] ∧ ∀ x ∈ R0, x ∈ R'
end Go.Proofs.Qu
namespace Go.Proofs.Ytcelehhaggoijaa
open Go.Proofs.Qu Go.Proofs.Nm Go.RowKit Go.Proofs
theorem Poll_V {w0 w : World} {L : List (Nat × Array Value)} {R R0 : List (Nat × Value × List Value)} (hv : Mem w0 w L R) (hR : ∀ x ∈ R0, x ∈ R) {vb vc fc cc av av1 hdn vb0 vc0 : Nat} {fa ca : Option Addr} {M M0 free D : List Nat} {c : Chn} (hA : Asked R0 vb0 vc0 (.slice fa 0 fc) (.slice ca 1 cc) M0 free c hdn av av1) (hB : Brought R0 vb vc M hdn av av1 D) (hav : av < 65536) (hav1 : (av + 1) % 65536 = av1) : Calls Try.prog 21 #[.agg #[.slice (some ⟨vb, 0, none⟩) 80 vc], .agg #[.int .i64 0, .int .i64 1, .slice fa 0 fc, .int .u16 (av1 : Nat), .int .u16 (av : Nat), .slice ca 1 cc]] w fun e w' => ∃ v R', e = .returned v ∧ PollVW R0 vb vc M av1 hdn D.length v R' ∧ Mem w0 w' L R' ∧ ∀ x ∈ R, x ∈ R' := by
  obtain ⟨hd, hfl, hch, hcd, hcr, _, _, _, hh⟩ := hA
  obtain ⟨hm, g1, g2, g3, g4, g5⟩ := hB
  refine (Poll_D (base := 0) (n := 1) (av := av1) (la := av) hv ⟨hm.mono hR, hd.q.mono hR, hd.ok⟩ (by decide) (us := av1) (ah := 1) g1 (by omega) hav (by decide) (Nat.le_refl 1) (id_ := hdn) (len_ := D.length) g2 g3 (at_ := 0) (c := c) (idxF_some (k := 0) (x := c) rfl (by rw [hch]; exact beq_self_eq_true _) (fun j hj => absurd hj (Nat.not_lt_zero _))) rfl (by rw [hcr]; exact g5)).mono ?_
  rintro e w' ⟨fa', fc', ca', cc', free', R', rfl, hv1, hd1, hp, hs, hr⟩
  rw [hcd, hfl] at hd1 ⊢
  rw [hav1]
  exact ⟨_, R', rfl, ⟨fc', cc', fa', ca', free', rfl, hd1, by rw [hp.length_eq, List.length_append, hfl, hcd], fun x hx => hr x (hR x hx)⟩, hv1, hr⟩
theorem Get_V {w0 w : World} {L : List (Nat × Array Value)} {R R0 : List (Nat × Value × List Value)} (hv : Mem w0 w L R) (hR : ∀ x ∈ R0, x ∈ R) {vb vc n : Nat} {M D : List Nat} (hm : InM R0 vb 0 80 vc M) (hn : D.length = n) (h0 : 0 < n) (h16 : n ≤ 16) (hg : getB M 60 D.length = D) : Calls Try.prog 12 #[.agg #[.slice (some ⟨vb, 0, none⟩) 80 vc], .int .i64 60, .int .i64 (n : Nat)] w fun e w' => ∃ v R', e = .returned v ∧ GetVW R0 n D v R' ∧ Mem w0 w' L R' ∧ ∀ x ∈ R, x ∈ R' := by
  refine (Get_ok hv (hm.mono hR) 60 n h0 (by omega)).mono ?_
  rintro e w' ⟨b, c, R', rfl, hv1, hi, hs⟩
  subst hn
  rw [hg] at hi
  exact ⟨_, R', rfl, ⟨b, c, rfl, hi, fun x hx => hs x (hR x hx)⟩, hv1, hs⟩
theorem GetZ_V {w0 w : World} {L : List (Nat × Array Value)} {R R0 : List (Nat × Value × List Value)} (hv : Mem w0 w L R) (hR : ∀ x ∈ R0, x ∈ R) {vb vc : Nat} {M : List Nat} (hm : InM R0 vb 0 80 vc M) : Calls Try.prog 12 #[.agg #[.slice (some ⟨vb, 0, none⟩) 80 vc], .int .i64 60, .int .i64 ((0 : Nat) : Int)] w fun e w' => ∃ v R', e = .returned v ∧ ZeroVW R0 v R' ∧ Mem w0 w' L R' ∧ ∀ x ∈ R, x ∈ R' := by
  refine (Get_zero hv (hm.mono hR) 60 (by decide)).mono ?_
  rintro e w' ⟨u, rfl, hn⟩
  exact ⟨_, R, rfl, ⟨u, rfl, hR⟩, hv.new hn, fun x hx => hx⟩
set_option maxRecDepth 100000 in
set_option maxHeartbeats 16000000 in
theorem Take1_yes {w0 w : World} {L : List (Nat × Array Value)} {R : List (Nat × Value × List Value)} {b n : Nat} {vb vc fc cc av av1 hdn vb0 vc0 : Nat} {fa ca : Option Addr} {M M0 free D : List Nat} {c : Chn} (hv : Mem w0 w ((b, #[.int .i64 0, .int .i64 1, .slice fa 0 fc, .int .u16 (av1 : Nat), .int .u16 (av : Nat), .slice ca 1 cc, .int .i64 60, .bool true, .slice (some ⟨vb, 0, none⟩) 80 vc, .slice none 0 0]) :: L) R) (hA : Asked R vb0 vc0 (.slice fa 0 fc) (.slice ca 1 cc) M0 free c hdn av av1) (hB : Brought R vb vc M hdn av av1 D) (hav : av < 65536) (hav1 : (av + 1) % 65536 = av1) (hn : D.length = n) (h0 : 0 < n) :
    Calls Try.prog 20 #[.pointer (some ⟨b, 0, none⟩)] w fun e w' => ∃ fc2 cc2 fa2 ca2 free2 R3 gb gc, e = .returned (.int .i64 0) ∧ Mem w0 w' ((b, #[.int .i64 0, .int .i64 1, .slice fa2 1 fc2, .int .u16 (av1 : Nat), .int .u16 (av1 : Nat), .slice ca2 0 cc2, .int .i64 60, .bool false, .slice (some ⟨vb, 0, none⟩) 80 vc, .slice (some ⟨gb, 0, none⟩) n gc]) :: L) R3 ∧ Drv R3 80 vb vc (.slice fa2 1 fc2) (.slice ca2 0 cc2) M 1 free2 [] ∧ free2.length = 1 ∧ (1, .slice (some ⟨gb, 0, none⟩) n gc, cellsB D) ∈ R3 ∧ ∀ x ∈ R, x ∈ R3 := by

  have HPO : Hid (∀ w0 w L R', Mem w0 w L R' → (∀ x ∈ R, x ∈ R') → Calls Try.prog 21 #[.agg #[.slice (some ⟨vb, 0, none⟩) 80 vc], .agg #[.int .i64 0, .int .i64 1, .slice fa 0 fc, .int .u16 (av1 : Nat), .int .u16 (av : Nat), .slice ca 1 cc]] w fun e w' => ∃ v R2, e = .returned v ∧ PollVW R vb vc M av1 hdn n v R2 ∧ Mem w0 w' L R2 ∧ ∀ x ∈ R', x ∈ R2) := Lib.hid (fun w0 w L R' hm hs => by have := Poll_V hm hs hA hB hav hav1; rw [hn] at this; exact this)
  have HSO : Hid (∃ v R', PollVW R vb vc M av1 hdn n v R') := Lib.hid (Bny.some_of (HPO.out _ _ _ _ hv (fun x hx => hx)))
  have HDL := Lib.hid hn
  have HN16 : Hid (n ≤ 16) := Lib.hid (by have := hB.2.2.2.2.2; omega)
  have HGB := Lib.hid hB.2.2.2.2.1
  have HM := Lib.hid hB.1
  have HN0 := Lib.hid h0
  have yn0 : ((n : Int) == 0) = false := beq_eq_false_iff_ne.2 (by omega)
  clear hA hB hav hav1 hn h0
  go_enter Try.func20, Try.ntmps20
  go_wp2
  have hv0 := hv
  clear hv
  have hv : Mem w0 _ ([(b, #[.int .i64 0, .int .i64 1, .slice fa 0 fc, .int .u16 (av1 : Nat), .int .u16 (av : Nat), .slice ca 1 cc, .int .i64 60, .bool true, .slice (some ⟨vb, 0, none⟩) 80 vc, .slice none 0 0])] ++ L) R := hv0
  clear hv0
  try simp only [Act.put]
  refine Bny.wp_region_walk [(b, #[.int .i64 0, .int .i64 1, .slice fa 0 fc, .int .u16 (av1 : Nat), .int .u16 (av : Nat), .slice ca 1 cc, .int .i64 60, .bool true, .slice (some ⟨vb, 0, none⟩) 80 vc, .slice none 0 0])] L [⟨[], none⟩, ⟨[], none⟩, ⟨[], none⟩, ⟨[1000], none⟩, ⟨[], none⟩, ⟨[], none⟩, ⟨[], none⟩, ⟨[], none⟩, ⟨[1000], none⟩, ⟨[], some 9⟩, ⟨[], none⟩, ⟨[], none⟩, ⟨[], none⟩, ⟨[], none⟩, ⟨[], none⟩, ⟨[], some 15⟩, ⟨[15], some 15⟩, ⟨[], none⟩, ⟨[], none⟩, ⟨[], none⟩] [.val, .val, .val, .val, .val, .val, .val, .val, .val, .mem (PollVW R vb vc M av1 hdn n), .pure, .pure, .pure, .pure, .pure, .lay #[.int .i64 0, .int .i64 0, .slice none 0 0, .int .u16 0, .int .u16 0, .slice none 0 0], .put, .pure, .pure, .pure] (by kernel_rfl) (by kernel_rfl) hv ?_
  simp only [List.length_cons, List.length_nil, Nat.zero_add, Any.someVals]
  iterate 20 apply Exists.intro
  repeat (first
    | (refine Bny.E_off rfl ?_; simp only [Act.put, List.setIfInBounds_toArray, List.set_cons_succ, List.set_cons_zero])
    | ((with_reducible refine Bny.at_ealloc ?_); refine Bny.E_lay (t := 30) rfl rfl rfl (fun _ => rfl) ?_; intro b15; simp only [Act.put, List.setIfInBounds_toArray, List.set_cons_succ, List.set_cons_zero])
    | ((with_reducible refine Bny.at_estore (T := 30) ?_); refine Bny.E_putv (T := 30) rfl rfl rfl rfl rfl rfl 6 infoQ rfl rfl (by simp [Value.oneCell']) ?_; simp only [Act.put, List.setIfInBounds_toArray, List.set_cons_succ, List.set_cons_zero])
    | ((with_reducible refine Bny.at_ecall ?_); refine Bny.E_callmem rfl rfl rfl (Go.Proofs.enters_of Try.func21 (by kernel_rfl) rfl) rfl [.agg #[.slice (some ⟨vb, 0, none⟩) 80 vc], .agg #[.int .i64 0, .int .i64 1, .slice fa 0 fc, .int .u16 (av1 : Nat), .int .u16 (av : Nat), .slice ca 1 cc]] rfl HSO.out R (fun x hx => .inl hx) (fun w0 w L R' hm hs => HPO.out w0 w L R' hm hs) ?_; rintro v R2 ⟨fc2, cc2, fa2, ca2, free2, rfl, hd2, hl2, hs2⟩; have HD2 := Lib.hid hd2; have HL2 := Lib.hid hl2; have HS2 := Lib.hid hs2; clear hd2 hl2 hs2; simp only [Act.put, List.setIfInBounds_toArray, List.set_cons_succ, List.set_cons_zero])
    | (apply Bny.E_pureq rfl rfl rfl
       case h => intro K hK; go_big_quiet_op; (refine hK _ ?_; rfl)
       case hr => exact fun _ => rfl
       simp only [Act.put, List.setIfInBounds_toArray, List.set_cons_succ, List.set_cons_zero])
    | (apply Bny.E_val rfl rfl rfl rfl
       case h =>
         intro E' hA K hK
         first
           | ((with_reducible refine Bny.at_qload (T := 25) ?_); refine Bny.q_ldp 1000 (o := 8) hA (by decide) rfl rfl 1 _ Try.underlying25 rfl infoM (by decide) (by show 8 + 1 ≤ 10; decide) #[.slice (some ⟨vb, 0, none⟩) 80 vc] rfl ?_; refine hK _ ?_; rfl)
           | ((with_reducible refine Bny.at_qload (T := 30) ?_); refine Bny.q_ldp 1000 (o := 0) hA (by decide) rfl rfl 6 _ Try.underlying30 rfl infoQ (by decide) (by show 0 + 6 ≤ 10; decide) #[.int .i64 0, .int .i64 1, .slice fa 0 fc, .int .u16 (av1 : Nat), .int .u16 (av : Nat), .slice ca 1 cc] rfl ?_; refine hK _ ?_; rfl)
           | (go_big_quiet_op; first
             | (refine hK _ ?_; rfl)
             | (refine ⟨_, fun _ _ => rfl, ?_⟩; refine hK _ ?_; rfl)
             | (apply Exists.intro; refine ⟨fun w1 hw1 => ?_, ?_⟩; · (first
                 | fail)
                refine hK _ ?_; rfl))
       case hD => rfl
       simp only [Act.put, List.setIfInBounds_toArray, List.set_cons_succ, List.set_cons_zero]))
  try any_goals exact undef
  refine Bny.E_nil ?_
  intro w9 hE9
  replace hv : Mem w0 w9 ([(b, #[.int .i64 0, .int .i64 1, .slice fa 0 fc, .int .u16 (av1 : Nat), .int .u16 (av : Nat), .slice ca 1 cc, .int .i64 60, .bool true, .slice (some ⟨vb, 0, none⟩) 80 vc, .slice none 0 0]), (b15, #[.int .i64 0, .int .i64 1, .slice fa2 1 fc2, .int .u16 (av1 : Nat), .int .u16 (av1 : Nat), .slice ca2 0 cc2])] ++ L) R2 := hE9.mem1 [1000, 15] (by decide) 9 rfl
  clear hE9
  simp only [List.cons_append, List.nil_append] at hv
  go_wp2_with (first
    | ((with_reducible refine at_load (T := 30) ?_); refine wl_ldv rfl b15 rfl _ (hv.vars.row (by first | exact .head _ | exact .tail _ (.head _) | exact .tail _ (.tail _ (.head _)) | exact .tail _ (.tail _ (.tail _ (.head _))) | exact .tail _ (.tail _ (.tail _ (.tail _ (.head _)))) | exact .tail _ (.tail _ (.tail _ (.tail _ (.tail _ (.head _))))) | exact .tail _ (.tail _ (.tail _ (.tail _ (.tail _ (.tail _ (.head _)))))) | exact .tail _ (.tail _ (.tail _ (.tail _ (.tail _ (.tail _ (.tail _ (.head _))))))))) 6 _ Try.underlying30 rfl infoQ (by decide) rfl ?_)
    | ((with_reducible refine at_store (T := 30) ?_); refine wl_stp rfl b 0 rfl _ rfl _ (hv.vars.row (by first | exact .head _ | exact .tail _ (.head _) | exact .tail _ (.tail _ (.head _)) | exact .tail _ (.tail _ (.tail _ (.head _))) | exact .tail _ (.tail _ (.tail _ (.tail _ (.head _)))) | exact .tail _ (.tail _ (.tail _ (.tail _ (.tail _ (.head _))))) | exact .tail _ (.tail _ (.tail _ (.tail _ (.tail _ (.tail _ (.head _)))))) | exact .tail _ (.tail _ (.tail _ (.tail _ (.tail _ (.tail _ (.tail _ (.head _))))))))) (hv.vars.sft (by first | exact .head _ | exact .tail _ (.head _) | exact .tail _ (.tail _ (.head _)) | exact .tail _ (.tail _ (.tail _ (.head _))) | exact .tail _ (.tail _ (.tail _ (.tail _ (.head _)))) | exact .tail _ (.tail _ (.tail _ (.tail _ (.tail _ (.head _))))) | exact .tail _ (.tail _ (.tail _ (.tail _ (.tail _ (.tail _ (.head _)))))) | exact .tail _ (.tail _ (.tail _ (.tail _ (.tail _ (.tail _ (.tail _ (.head _))))))))) 6 infoQ rfl (by show 0 + 6 ≤ 10; decide) (by simp [Value.oneCell']) #[.int .i64 0, .int .i64 1, .slice fa2 1 fc2, .int .u16 (av1 : Nat), .int .u16 (av1 : Nat), .slice ca2 0 cc2, .int .i64 60, .bool true, .slice (some ⟨vb, 0, none⟩) 80 vc, .slice none 0 0] (splice_10_0_6 _ _ _ _ _ _ _ _ _ _ _ _ _ _ _ _) ?_; intro w2 hw2; (first | (replace hv := hv.set 0 rfl hw2) | (replace hv := hv.set 1 rfl hw2) | (replace hv := hv.set 2 rfl hw2) | (replace hv := hv.set 3 rfl hw2)); clear hw2; simp only [List.set] at hv)
    | ((with_reducible refine at_store (T := 4) ?_); refine wl_stc rfl b 7 rfl (.bool false) rfl _ (hv.vars.row (by first | exact .head _ | exact .tail _ (.head _) | exact .tail _ (.tail _ (.head _)) | exact .tail _ (.tail _ (.tail _ (.head _))) | exact .tail _ (.tail _ (.tail _ (.tail _ (.head _)))) | exact .tail _ (.tail _ (.tail _ (.tail _ (.tail _ (.head _))))) | exact .tail _ (.tail _ (.tail _ (.tail _ (.tail _ (.tail _ (.head _)))))) | exact .tail _ (.tail _ (.tail _ (.tail _ (.tail _ (.tail _ (.tail _ (.head _))))))))) (hv.vars.sft (by first | exact .head _ | exact .tail _ (.head _) | exact .tail _ (.tail _ (.head _)) | exact .tail _ (.tail _ (.tail _ (.head _))) | exact .tail _ (.tail _ (.tail _ (.tail _ (.head _)))) | exact .tail _ (.tail _ (.tail _ (.tail _ (.tail _ (.head _))))) | exact .tail _ (.tail _ (.tail _ (.tail _ (.tail _ (.tail _ (.head _)))))) | exact .tail _ (.tail _ (.tail _ (.tail _ (.tail _ (.tail _ (.tail _ (.head _))))))))) (by kernel_rfl) rfl (by show 7 < 10; decide) ?_; intro w2 hw2; (first | (replace hv := hv.set 0 rfl hw2) | (replace hv := hv.set 1 rfl hw2) | (replace hv := hv.set 2 rfl hw2) | (replace hv := hv.set 3 rfl hw2)); clear hw2; simp only [List.set] at hv; simp only [List.setIfInBounds_toArray, List.set_cons_succ, List.set_cons_zero] at hv))
  have HM2 : Hid (InM R2 vb 0 80 vc M) := Lib.hid (HM.out.mono HS2.out)
  have HSO2 : Hid (∃ v R', (GetVW R2 n D) v R') := Lib.hid (Bny.some_of (Get_V hv (fun x hx => hx) HM2.out HDL.out HN0.out HN16.out HGB.out))
  have hv0 := hv
  clear hv
  have hv : Mem w0 _ ([(b, #[.int .i64 0, .int .i64 1, .slice fa2 1 fc2, .int .u16 (av1 : Nat), .int .u16 (av1 : Nat), .slice ca2 0 cc2, .int .i64 60, .bool false, .slice (some ⟨vb, 0, none⟩) 80 vc, .slice none 0 0]), (b15, #[.int .i64 0, .int .i64 1, .slice fa2 1 fc2, .int .u16 (av1 : Nat), .int .u16 (av1 : Nat), .slice ca2 0 cc2])] ++ L) R2 := hv0
  clear hv0
  try simp only [Act.put]
  refine Bny.wp_region_walk [(b, #[.int .i64 0, .int .i64 1, .slice fa2 1 fc2, .int .u16 (av1 : Nat), .int .u16 (av1 : Nat), .slice ca2 0 cc2, .int .i64 60, .bool false, .slice (some ⟨vb, 0, none⟩) 80 vc, .slice none 0 0]), (b15, #[.int .i64 0, .int .i64 1, .slice fa2 1 fc2, .int .u16 (av1 : Nat), .int .u16 (av1 : Nat), .slice ca2 0 cc2])] L [⟨[], none⟩, ⟨[], none⟩, ⟨[], none⟩, ⟨[1000], none⟩, ⟨[], none⟩, ⟨[], none⟩, ⟨[], none⟩, ⟨[], none⟩, ⟨[1000], none⟩, ⟨[], none⟩, ⟨[], some 10⟩, ⟨[], none⟩, ⟨[], none⟩, ⟨[], none⟩, ⟨[], none⟩, ⟨[], none⟩] [.val, .val, .val, .val, .val, .val, .val, .val, .val, .val, .mem (GetVW R2 n D), .pure, .pure, .pure, .pure, .pure] (by kernel_rfl) (by kernel_rfl) hv ?_
  simp only [List.length_cons, List.length_nil, Nat.zero_add, Any.someVals]
  iterate 16 apply Exists.intro
  repeat (first
    | (refine Bny.E_off rfl ?_; simp only [Act.put, List.setIfInBounds_toArray, List.set_cons_succ, List.set_cons_zero])
    | ((with_reducible refine Bny.at_ecall ?_); refine Bny.E_callmem rfl rfl rfl (Go.Proofs.enters_of Try.func12 (by kernel_rfl) rfl) rfl [.agg #[.slice (some ⟨vb, 0, none⟩) 80 vc], .int .i64 60, .int .i64 (n : Nat)] rfl HSO2.out R2 (fun x hx => .inl hx) (fun w0 w L R' hm hs => Get_V hm hs HM2.out HDL.out HN0.out HN16.out HGB.out) ?_; rintro v R3 ⟨gb, gc, rfl, hg3, hs3⟩; have HG3 := Lib.hid hg3; have HS3 := Lib.hid hs3; clear hg3 hs3; simp only [Act.put, List.setIfInBounds_toArray, List.set_cons_succ, List.set_cons_zero])
    | (apply Bny.E_pureq rfl rfl rfl
       case h => intro K hK; go_big_quiet_op; (refine hK _ ?_; rfl)
       case hr => exact fun _ => rfl
       simp only [Act.put, List.setIfInBounds_toArray, List.set_cons_succ, List.set_cons_zero])
    | (apply Bny.E_val rfl rfl rfl rfl
       case h =>
         intro E' hA K hK
         first
           | ((with_reducible refine Bny.at_qload (T := 25) ?_); refine Bny.q_ldp 1000 (o := 8) hA (by decide) rfl rfl 1 _ Try.underlying25 rfl infoM (by decide) (by show 8 + 1 ≤ 10; decide) #[.slice (some ⟨vb, 0, none⟩) 80 vc] rfl ?_; refine hK _ ?_; rfl)
           | ((with_reducible refine Bny.at_qload (T := 3) ?_); refine Bny.q_ldc 1000 hA (by decide) rfl rfl _ Try.underlying3 rfl (.int .i64 60) rfl ?_; refine hK _ ?_; rfl)
           | (go_big_quiet_op; first
             | (refine hK _ ?_; rfl)
             | (refine ⟨_, fun _ _ => rfl, ?_⟩; refine hK _ ?_; rfl)
             | (apply Exists.intro; refine ⟨fun w1 hw1 => ?_, ?_⟩; · (first
                 | fail)
                refine hK _ ?_; rfl))
       case hD => rfl
       simp only [Act.put, List.setIfInBounds_toArray, List.set_cons_succ, List.set_cons_zero]))
  try any_goals exact undef
  refine Bny.E_nil ?_
  intro w9 hE9
  replace hv : Mem w0 w9 ([(b, #[.int .i64 0, .int .i64 1, .slice fa2 1 fc2, .int .u16 (av1 : Nat), .int .u16 (av1 : Nat), .slice ca2 0 cc2, .int .i64 60, .bool false, .slice (some ⟨vb, 0, none⟩) 80 vc, .slice none 0 0]), (b15, #[.int .i64 0, .int .i64 1, .slice fa2 1 fc2, .int .u16 (av1 : Nat), .int .u16 (av1 : Nat), .slice ca2 0 cc2])] ++ L) R3 := hE9.mem1 [1000, 1001] (by decide) 10 rfl
  clear hE9
  simp only [List.cons_append, List.nil_append] at hv
  go_wp2_with (first
    | ((with_reducible refine at_store (T := 23) ?_); refine wl_stc rfl b 9 rfl (.slice (some ⟨gb, 0, none⟩) n gc) rfl _ (hv.vars.row (by first | exact .head _ | exact .tail _ (.head _) | exact .tail _ (.tail _ (.head _)) | exact .tail _ (.tail _ (.tail _ (.head _))) | exact .tail _ (.tail _ (.tail _ (.tail _ (.head _)))) | exact .tail _ (.tail _ (.tail _ (.tail _ (.tail _ (.head _))))) | exact .tail _ (.tail _ (.tail _ (.tail _ (.tail _ (.tail _ (.head _)))))) | exact .tail _ (.tail _ (.tail _ (.tail _ (.tail _ (.tail _ (.tail _ (.head _))))))))) (hv.vars.sft (by first | exact .head _ | exact .tail _ (.head _) | exact .tail _ (.tail _ (.head _)) | exact .tail _ (.tail _ (.tail _ (.head _))) | exact .tail _ (.tail _ (.tail _ (.tail _ (.head _)))) | exact .tail _ (.tail _ (.tail _ (.tail _ (.tail _ (.head _))))) | exact .tail _ (.tail _ (.tail _ (.tail _ (.tail _ (.tail _ (.head _)))))) | exact .tail _ (.tail _ (.tail _ (.tail _ (.tail _ (.tail _ (.tail _ (.head _))))))))) (by kernel_rfl) rfl (by show 9 < 10; decide) ?_; intro w2 hw2; (first | (replace hv := hv.set 0 rfl hw2) | (replace hv := hv.set 1 rfl hw2) | (replace hv := hv.set 2 rfl hw2) | (replace hv := hv.set 3 rfl hw2)); clear hw2; simp only [List.set] at hv; simp only [List.setIfInBounds_toArray, List.set_cons_succ, List.set_cons_zero] at hv))
  go_ret
  exact ⟨fc2, cc2, fa2, ca2, free2, R3, gb, gc, rfl, hv.keep (by exact List.Sublist.cons_cons _ (List.sublist_append_right [_] L)), HD2.out.mono HS3.out, HL2.out, HG3.out, fun x hx => HS3.out x (HS2.out x hx)⟩
set_option maxRecDepth 100000 in
set_option maxHeartbeats 16000000 in
theorem Take1_no {w0 w : World} {L : List (Nat × Array Value)} {R : List (Nat × Value × List Value)} {b n : Nat} {vb vc fc cc av av1 hdn vb0 vc0 : Nat} {fa ca : Option Addr} {M M0 free D : List Nat} {c : Chn} (hv : Mem w0 w ((b, #[.int .i64 0, .int .i64 1, .slice fa 0 fc, .int .u16 (av1 : Nat), .int .u16 (av : Nat), .slice ca 1 cc, .int .i64 60, .bool true, .slice (some ⟨vb, 0, none⟩) 80 vc, .slice none 0 0]) :: L) R) (hA : Asked R vb0 vc0 (.slice fa 0 fc) (.slice ca 1 cc) M0 free c hdn av av1) (hB : Brought R vb vc M hdn av av1 D) (hav : av < 65536) (hav1 : (av + 1) % 65536 = av1) (hn : D.length = n) (h0 : n = 0) :
    Calls Try.prog 20 #[.pointer (some ⟨b, 0, none⟩)] w fun e w' => ∃ fc2 cc2 fa2 ca2 free2 R3, e = .returned (.int .i64 180) ∧ Mem w0 w' ((b, #[.int .i64 0, .int .i64 1, .slice fa2 1 fc2, .int .u16 (av1 : Nat), .int .u16 (av1 : Nat), .slice ca2 0 cc2, .int .i64 60, .bool false, .slice (some ⟨vb, 0, none⟩) 80 vc, .slice none 0 0]) :: L) R3 ∧ Drv R3 80 vb vc (.slice fa2 1 fc2) (.slice ca2 0 cc2) M 1 free2 [] ∧ free2.length = 1 ∧ ∀ x ∈ R, x ∈ R3 := by
  subst h0
  obtain ⟨n, hn0⟩ : ∃ n : Nat, n = 0 := ⟨0, rfl⟩
  have HPO : Hid (∀ w0 w L R', Mem w0 w L R' → (∀ x ∈ R, x ∈ R') → Calls Try.prog 21 #[.agg #[.slice (some ⟨vb, 0, none⟩) 80 vc], .agg #[.int .i64 0, .int .i64 1, .slice fa 0 fc, .int .u16 (av1 : Nat), .int .u16 (av : Nat), .slice ca 1 cc]] w fun e w' => ∃ v R2, e = .returned v ∧ PollVW R vb vc M av1 hdn 0 v R2 ∧ Mem w0 w' L R2 ∧ ∀ x ∈ R', x ∈ R2) := Lib.hid (fun w0 w L R' hm hs => by have := Poll_V hm hs hA hB hav hav1; rw [hn] at this; exact this)
  have HSO : Hid (∃ v R', PollVW R vb vc M av1 hdn 0 v R') := Lib.hid (Bny.some_of (HPO.out _ _ _ _ hv (fun x hx => hx)))
  have HDL := Lib.hid hn
  have HN16 : Hid (0 ≤ 16) := Lib.hid (by have := hB.2.2.2.2.2; omega)
  have HGB := Lib.hid hB.2.2.2.2.1
  have HM := Lib.hid hB.1
  clear hA hB hav hav1 hn hn0
  go_enter Try.func20, Try.ntmps20
  go_wp2
  have hv0 := hv
  clear hv
  have hv : Mem w0 _ ([(b, #[.int .i64 0, .int .i64 1, .slice fa 0 fc, .int .u16 (av1 : Nat), .int .u16 (av : Nat), .slice ca 1 cc, .int .i64 60, .bool true, .slice (some ⟨vb, 0, none⟩) 80 vc, .slice none 0 0])] ++ L) R := hv0
  clear hv0
  try simp only [Act.put]
  refine Bny.wp_region_walk [(b, #[.int .i64 0, .int .i64 1, .slice fa 0 fc, .int .u16 (av1 : Nat), .int .u16 (av : Nat), .slice ca 1 cc, .int .i64 60, .bool true, .slice (some ⟨vb, 0, none⟩) 80 vc, .slice none 0 0])] L [⟨[], none⟩, ⟨[], none⟩, ⟨[], none⟩, ⟨[1000], none⟩, ⟨[], none⟩, ⟨[], none⟩, ⟨[], none⟩, ⟨[], none⟩, ⟨[1000], none⟩, ⟨[], some 9⟩, ⟨[], none⟩, ⟨[], none⟩, ⟨[], none⟩, ⟨[], none⟩, ⟨[], none⟩, ⟨[], some 15⟩, ⟨[15], some 15⟩, ⟨[], none⟩, ⟨[], none⟩, ⟨[], none⟩] [.val, .val, .val, .val, .val, .val, .val, .val, .val, .mem (PollVW R vb vc M av1 hdn 0), .pure, .pure, .pure, .pure, .pure, .lay #[.int .i64 0, .int .i64 0, .slice none 0 0, .int .u16 0, .int .u16 0, .slice none 0 0], .put, .pure, .pure, .pure] (by kernel_rfl) (by kernel_rfl) hv ?_
  simp only [List.length_cons, List.length_nil, Nat.zero_add, Any.someVals]
  iterate 20 apply Exists.intro
  repeat (first
    | (refine Bny.E_off rfl ?_; simp only [Act.put, List.setIfInBounds_toArray, List.set_cons_succ, List.set_cons_zero])
    | ((with_reducible refine Bny.at_ealloc ?_); refine Bny.E_lay (t := 30) rfl rfl rfl (fun _ => rfl) ?_; intro b15; simp only [Act.put, List.setIfInBounds_toArray, List.set_cons_succ, List.set_cons_zero])
    | ((with_reducible refine Bny.at_estore (T := 30) ?_); refine Bny.E_putv (T := 30) rfl rfl rfl rfl rfl rfl 6 infoQ rfl rfl (by simp [Value.oneCell']) ?_; simp only [Act.put, List.setIfInBounds_toArray, List.set_cons_succ, List.set_cons_zero])
    | ((with_reducible refine Bny.at_ecall ?_); refine Bny.E_callmem rfl rfl rfl (Go.Proofs.enters_of Try.func21 (by kernel_rfl) rfl) rfl [.agg #[.slice (some ⟨vb, 0, none⟩) 80 vc], .agg #[.int .i64 0, .int .i64 1, .slice fa 0 fc, .int .u16 (av1 : Nat), .int .u16 (av : Nat), .slice ca 1 cc]] rfl HSO.out R (fun x hx => .inl hx) (fun w0 w L R' hm hs => HPO.out w0 w L R' hm hs) ?_; rintro v R2 ⟨fc2, cc2, fa2, ca2, free2, rfl, hd2, hl2, hs2⟩; have HD2 := Lib.hid hd2; have HL2 := Lib.hid hl2; have HS2 := Lib.hid hs2; clear hd2 hl2 hs2; simp only [Act.put, List.setIfInBounds_toArray, List.set_cons_succ, List.set_cons_zero])
    | (apply Bny.E_pureq rfl rfl rfl
       case h => intro K hK; go_big_quiet_op; (refine hK _ ?_; rfl)
       case hr => exact fun _ => rfl
       simp only [Act.put, List.setIfInBounds_toArray, List.set_cons_succ, List.set_cons_zero])
    | (apply Bny.E_val rfl rfl rfl rfl
       case h =>
         intro E' hA K hK
         first
           | ((with_reducible refine Bny.at_qload (T := 25) ?_); refine Bny.q_ldp 1000 (o := 8) hA (by decide) rfl rfl 1 _ Try.underlying25 rfl infoM (by decide) (by show 8 + 1 ≤ 10; decide) #[.slice (some ⟨vb, 0, none⟩) 80 vc] rfl ?_; refine hK _ ?_; rfl)
           | ((with_reducible refine Bny.at_qload (T := 30) ?_); refine Bny.q_ldp 1000 (o := 0) hA (by decide) rfl rfl 6 _ Try.underlying30 rfl infoQ (by decide) (by show 0 + 6 ≤ 10; decide) #[.int .i64 0, .int .i64 1, .slice fa 0 fc, .int .u16 (av1 : Nat), .int .u16 (av : Nat), .slice ca 1 cc] rfl ?_; refine hK _ ?_; rfl)
           | (go_big_quiet_op; first
             | (refine hK _ ?_; rfl)
             | (refine ⟨_, fun _ _ => rfl, ?_⟩; refine hK _ ?_; rfl)
             | (apply Exists.intro; refine ⟨fun w1 hw1 => ?_, ?_⟩; · (first
                 | fail)
                refine hK _ ?_; rfl))
       case hD => rfl
       simp only [Act.put, List.setIfInBounds_toArray, List.set_cons_succ, List.set_cons_zero]))
  try any_goals exact undef
  refine Bny.E_nil ?_
  intro w9 hE9
  replace hv : Mem w0 w9 ([(b, #[.int .i64 0, .int .i64 1, .slice fa 0 fc, .int .u16 (av1 : Nat), .int .u16 (av : Nat), .slice ca 1 cc, .int .i64 60, .bool true, .slice (some ⟨vb, 0, none⟩) 80 vc, .slice none 0 0]), (b15, #[.int .i64 0, .int .i64 1, .slice fa2 1 fc2, .int .u16 (av1 : Nat), .int .u16 (av1 : Nat), .slice ca2 0 cc2])] ++ L) R2 := hE9.mem1 [1000, 15] (by decide) 9 rfl
  clear hE9
  simp only [List.cons_append, List.nil_append] at hv
  go_wp2_with (first
    | ((with_reducible refine at_load (T := 30) ?_); refine wl_ldv rfl b15 rfl _ (hv.vars.row (by first | exact .head _ | exact .tail _ (.head _) | exact .tail _ (.tail _ (.head _)) | exact .tail _ (.tail _ (.tail _ (.head _))) | exact .tail _ (.tail _ (.tail _ (.tail _ (.head _)))) | exact .tail _ (.tail _ (.tail _ (.tail _ (.tail _ (.head _))))) | exact .tail _ (.tail _ (.tail _ (.tail _ (.tail _ (.tail _ (.head _)))))) | exact .tail _ (.tail _ (.tail _ (.tail _ (.tail _ (.tail _ (.tail _ (.head _))))))))) 6 _ Try.underlying30 rfl infoQ (by decide) rfl ?_)
    | ((with_reducible refine at_store (T := 30) ?_); refine wl_stp rfl b 0 rfl _ rfl _ (hv.vars.row (by first | exact .head _ | exact .tail _ (.head _) | exact .tail _ (.tail _ (.head _)) | exact .tail _ (.tail _ (.tail _ (.head _))) | exact .tail _ (.tail _ (.tail _ (.tail _ (.head _)))) | exact .tail _ (.tail _ (.tail _ (.tail _ (.tail _ (.head _))))) | exact .tail _ (.tail _ (.tail _ (.tail _ (.tail _ (.tail _ (.head _)))))) | exact .tail _ (.tail _ (.tail _ (.tail _ (.tail _ (.tail _ (.tail _ (.head _))))))))) (hv.vars.sft (by first | exact .head _ | exact .tail _ (.head _) | exact .tail _ (.tail _ (.head _)) | exact .tail _ (.tail _ (.tail _ (.head _))) | exact .tail _ (.tail _ (.tail _ (.tail _ (.head _)))) | exact .tail _ (.tail _ (.tail _ (.tail _ (.tail _ (.head _))))) | exact .tail _ (.tail _ (.tail _ (.tail _ (.tail _ (.tail _ (.head _)))))) | exact .tail _ (.tail _ (.tail _ (.tail _ (.tail _ (.tail _ (.tail _ (.head _))))))))) 6 infoQ rfl (by show 0 + 6 ≤ 10; decide) (by simp [Value.oneCell']) #[.int .i64 0, .int .i64 1, .slice fa2 1 fc2, .int .u16 (av1 : Nat), .int .u16 (av1 : Nat), .slice ca2 0 cc2, .int .i64 60, .bool true, .slice (some ⟨vb, 0, none⟩) 80 vc, .slice none 0 0] (splice_10_0_6 _ _ _ _ _ _ _ _ _ _ _ _ _ _ _ _) ?_; intro w2 hw2; (first | (replace hv := hv.set 0 rfl hw2) | (replace hv := hv.set 1 rfl hw2) | (replace hv := hv.set 2 rfl hw2) | (replace hv := hv.set 3 rfl hw2)); clear hw2; simp only [List.set] at hv)
    | ((with_reducible refine at_store (T := 4) ?_); refine wl_stc rfl b 7 rfl (.bool false) rfl _ (hv.vars.row (by first | exact .head _ | exact .tail _ (.head _) | exact .tail _ (.tail _ (.head _)) | exact .tail _ (.tail _ (.tail _ (.head _))) | exact .tail _ (.tail _ (.tail _ (.tail _ (.head _)))) | exact .tail _ (.tail _ (.tail _ (.tail _ (.tail _ (.head _))))) | exact .tail _ (.tail _ (.tail _ (.tail _ (.tail _ (.tail _ (.head _)))))) | exact .tail _ (.tail _ (.tail _ (.tail _ (.tail _ (.tail _ (.tail _ (.head _))))))))) (hv.vars.sft (by first | exact .head _ | exact .tail _ (.head _) | exact .tail _ (.tail _ (.head _)) | exact .tail _ (.tail _ (.tail _ (.head _))) | exact .tail _ (.tail _ (.tail _ (.tail _ (.head _)))) | exact .tail _ (.tail _ (.tail _ (.tail _ (.tail _ (.head _))))) | exact .tail _ (.tail _ (.tail _ (.tail _ (.tail _ (.tail _ (.head _)))))) | exact .tail _ (.tail _ (.tail _ (.tail _ (.tail _ (.tail _ (.tail _ (.head _))))))))) (by kernel_rfl) rfl (by show 7 < 10; decide) ?_; intro w2 hw2; (first | (replace hv := hv.set 0 rfl hw2) | (replace hv := hv.set 1 rfl hw2) | (replace hv := hv.set 2 rfl hw2) | (replace hv := hv.set 3 rfl hw2)); clear hw2; simp only [List.set] at hv; simp only [List.setIfInBounds_toArray, List.set_cons_succ, List.set_cons_zero] at hv))
  have HM2 : Hid (InM R2 vb 0 80 vc M) := Lib.hid (HM.out.mono HS2.out)
  have HSO2 : Hid (∃ v R', (ZeroVW R2) v R') := Lib.hid (Bny.some_of (GetZ_V hv (fun x hx => hx) HM2.out))
  have hv0 := hv
  clear hv
  have hv : Mem w0 _ ([(b, #[.int .i64 0, .int .i64 1, .slice fa2 1 fc2, .int .u16 (av1 : Nat), .int .u16 (av1 : Nat), .slice ca2 0 cc2, .int .i64 60, .bool false, .slice (some ⟨vb, 0, none⟩) 80 vc, .slice none 0 0]), (b15, #[.int .i64 0, .int .i64 1, .slice fa2 1 fc2, .int .u16 (av1 : Nat), .int .u16 (av1 : Nat), .slice ca2 0 cc2])] ++ L) R2 := hv0
  clear hv0
  try simp only [Act.put]
  refine Bny.wp_region_walk [(b, #[.int .i64 0, .int .i64 1, .slice fa2 1 fc2, .int .u16 (av1 : Nat), .int .u16 (av1 : Nat), .slice ca2 0 cc2, .int .i64 60, .bool false, .slice (some ⟨vb, 0, none⟩) 80 vc, .slice none 0 0]), (b15, #[.int .i64 0, .int .i64 1, .slice fa2 1 fc2, .int .u16 (av1 : Nat), .int .u16 (av1 : Nat), .slice ca2 0 cc2])] L [⟨[], none⟩, ⟨[], none⟩, ⟨[], none⟩, ⟨[1000], none⟩, ⟨[], none⟩, ⟨[], none⟩, ⟨[], none⟩, ⟨[], none⟩, ⟨[1000], none⟩, ⟨[], none⟩, ⟨[], some 10⟩, ⟨[], none⟩, ⟨[], none⟩, ⟨[], none⟩, ⟨[], none⟩, ⟨[], none⟩] [.val, .val, .val, .val, .val, .val, .val, .val, .val, .val, .mem (ZeroVW R2), .pure, .pure, .pure, .pure, .pure] (by kernel_rfl) (by kernel_rfl) hv ?_
  simp only [List.length_cons, List.length_nil, Nat.zero_add, Any.someVals]
  iterate 16 apply Exists.intro
  repeat (first
    | (refine Bny.E_off rfl ?_; simp only [Act.put, List.setIfInBounds_toArray, List.set_cons_succ, List.set_cons_zero])
    | ((with_reducible refine Bny.at_ecall ?_); refine Bny.E_callmem rfl rfl rfl (Go.Proofs.enters_of Try.func12 (by kernel_rfl) rfl) rfl [.agg #[.slice (some ⟨vb, 0, none⟩) 80 vc], .int .i64 60, .int .i64 (0 : Nat)] rfl HSO2.out R2 (fun x hx => .inl hx) (fun w0 w L R' hm hs => GetZ_V hm hs HM2.out) ?_; rintro v R3 ⟨u9, rfl, hs3⟩; have HS3 := Lib.hid hs3; clear hs3; simp only [Act.put, List.setIfInBounds_toArray, List.set_cons_succ, List.set_cons_zero])
    | (apply Bny.E_pureq rfl rfl rfl
       case h => intro K hK; go_big_quiet_op; (refine hK _ ?_; rfl)
       case hr => exact fun _ => rfl
       simp only [Act.put, List.setIfInBounds_toArray, List.set_cons_succ, List.set_cons_zero])
    | (apply Bny.E_val rfl rfl rfl rfl
       case h =>
         intro E' hA K hK
         first
           | ((with_reducible refine Bny.at_qload (T := 25) ?_); refine Bny.q_ldp 1000 (o := 8) hA (by decide) rfl rfl 1 _ Try.underlying25 rfl infoM (by decide) (by show 8 + 1 ≤ 10; decide) #[.slice (some ⟨vb, 0, none⟩) 80 vc] rfl ?_; refine hK _ ?_; rfl)
           | ((with_reducible refine Bny.at_qload (T := 3) ?_); refine Bny.q_ldc 1000 hA (by decide) rfl rfl _ Try.underlying3 rfl (.int .i64 60) rfl ?_; refine hK _ ?_; rfl)
           | (go_big_quiet_op; first
             | (refine hK _ ?_; rfl)
             | (refine ⟨_, fun _ _ => rfl, ?_⟩; refine hK _ ?_; rfl)
             | (apply Exists.intro; refine ⟨fun w1 hw1 => ?_, ?_⟩; · (first
                 | fail)
                refine hK _ ?_; rfl))
       case hD => rfl
       simp only [Act.put, List.setIfInBounds_toArray, List.set_cons_succ, List.set_cons_zero]))
  try any_goals exact undef
  refine Bny.E_nil ?_
  intro w9 hE9
  replace hv : Mem w0 w9 ([(b, #[.int .i64 0, .int .i64 1, .slice fa2 1 fc2, .int .u16 (av1 : Nat), .int .u16 (av1 : Nat), .slice ca2 0 cc2, .int .i64 60, .bool false, .slice (some ⟨vb, 0, none⟩) 80 vc, .slice none 0 0]), (b15, #[.int .i64 0, .int .i64 1, .slice fa2 1 fc2, .int .u16 (av1 : Nat), .int .u16 (av1 : Nat), .slice ca2 0 cc2])] ++ L) R3 := hE9.mem1 [1000, 1001] (by decide) 10 rfl
  clear hE9
  simp only [List.cons_append, List.nil_append] at hv
  go_wp2
  go_ret
  exact ⟨fc2, cc2, fa2, ca2, free2, R3, rfl, hv.keep (by exact List.Sublist.cons_cons _ (List.sublist_append_right [_] L)), HD2.out.mono HS3.out, HL2.out, fun x hx => HS3.out x (HS2.out x hx)⟩
end Go.Proofs.Ytcelehhaggoijaa
end

section
/-
  Entropy behind a ring (layer 11): taking, whole; a new one.
-/
set_option linter.unusedVariables false
set_option linter.unusedSimpArgs false
namespace Go.Proofs.Ytcelehhaggoijaa
open Go.Proofs.Qu Go.Proofs.Nm Go.RowKit Go.Proofs
theorem Asked.drv {R : List (Nat × Value × List Value)} {vb vc : Nat} {fv cv : Value} {M free : List Nat} {c : Chn} {hd av av1 : Nat} (h : Asked R vb vc fv cv M free c hd av av1) : Drv R 80 vb vc fv cv M 1 free [c] := h.1
set_option maxRecDepth 100000 in
set_option maxHeartbeats 4000000 in
theorem doneTake_yes {w0 w : World} {L : List (Nat × Array Value)} {R : List (Nat × Value × List Value)} (hv : Mem w0 w L R) {vb vc fc cc av av1 hdn vb0 vc0 : Nat} {fa ca : Option Addr} {M M0 free D : List Nat} {c : Chn} {n : Nat} (hA : Asked R vb0 vc0 (.slice fa 0 fc) (.slice ca 1 cc) M0 free c hdn av av1) (hB : Brought R vb vc M hdn av av1 D) (hav : av < 65536) (hav1 : (av + 1) % 65536 = av1) (hn : D.length = n) (h0 : 0 < n) :
    Calls Try.prog 14 #[.agg #[.slice (some ⟨vb, 0, none⟩) 80 vc], .agg #[.int .i64 0, .int .i64 1, .slice fa 0 fc, .int .u16 (av1 : Nat), .int .u16 (av : Nat), .slice ca 1 cc, .int .i64 60, .bool true], .bool true, .func (.func 20) #[] #[]] w fun e w' => ∃ b fc2 cc2 fa2 ca2 free2 R3 gb gc, e = .returned (.tuple #[.pointer (some ⟨b, 0, none⟩), .int .i64 0]) ∧ Mem w0 w' ((b, #[.int .i64 0, .int .i64 1, .slice fa2 1 fc2, .int .u16 (av1 : Nat), .int .u16 (av1 : Nat), .slice ca2 0 cc2, .int .i64 60, .bool false, .slice (some ⟨vb, 0, none⟩) 80 vc, .slice (some ⟨gb, 0, none⟩) n gc]) :: L) R3 ∧ Drv R3 80 vb vc (.slice fa2 1 fc2) (.slice ca2 0 cc2) M 1 free2 [] ∧ free2.length = 1 ∧ (1, .slice (some ⟨gb, 0, none⟩) n gc, cellsB D) ∈ R3 ∧ ∀ x ∈ R, x ∈ R3 := by
  have HA := Lib.hid hA
  have HB := Lib.hid hB
  have HAV := Lib.hid hav
  have HA1 := Lib.hid hav1
  have HNN := Lib.hid hn
  have HN0 := Lib.hid h0
  clear hA hB hav hav1 hn h0
  go_enter Try.func14, Try.ntmps14
  go_wp2_with (first
    | ((with_reducible refine at_box (T := 25) (dst := some 4) ?_); refine wl_newb rfl #[.slice (some ⟨vb, 0, none⟩) 80 vc] 25 (fun _ => rfl) ?_; intro b4 w2 hm2; replace hv := hv.madeAt hm2; clear hm2)
    | ((with_reducible refine at_box (T := 32) (dst := some 5) ?_); refine wl_newb rfl #[.int .i64 0, .int .i64 1, .slice fa 0 fc, .int .u16 (av1 : Nat), .int .u16 (av : Nat), .slice ca 1 cc, .int .i64 60, .bool true] 32 (fun _ => rfl) ?_; intro b5 w2 hm2; replace hv := hv.madeAt hm2; clear hm2)
    | ((with_reducible refine at_load (T := 32) ?_); refine wl_ldv rfl b5 rfl _ (hv.vars.row (by first | exact .head _ | exact .tail _ (.head _) | exact .tail _ (.tail _ (.head _)) | exact .tail _ (.tail _ (.tail _ (.head _))) | exact .tail _ (.tail _ (.tail _ (.tail _ (.head _)))) | exact .tail _ (.tail _ (.tail _ (.tail _ (.tail _ (.head _))))) | exact .tail _ (.tail _ (.tail _ (.tail _ (.tail _ (.tail _ (.head _)))))) | exact .tail _ (.tail _ (.tail _ (.tail _ (.tail _ (.tail _ (.tail _ (.head _))))))))) 8 _ Try.underlying32 rfl infoV (by decide) rfl ?_)
    | ((with_reducible refine at_load (T := 25) ?_); refine wl_ldv rfl b4 rfl _ (hv.vars.row (by first | exact .head _ | exact .tail _ (.head _) | exact .tail _ (.tail _ (.head _)) | exact .tail _ (.tail _ (.tail _ (.head _))) | exact .tail _ (.tail _ (.tail _ (.tail _ (.head _)))) | exact .tail _ (.tail _ (.tail _ (.tail _ (.tail _ (.head _))))) | exact .tail _ (.tail _ (.tail _ (.tail _ (.tail _ (.tail _ (.head _)))))) | exact .tail _ (.tail _ (.tail _ (.tail _ (.tail _ (.tail _ (.tail _ (.head _))))))))) 1 _ Try.underlying25 rfl infoM (by decide) rfl ?_)
    | ((with_reducible refine at_build (T := 58) ?_); refine wl_build rfl _ rfl (built_vwk _ _ _ _ _ _ _) ?_)
    | ((with_reducible refine at_box (T := 58) (dst := some 14) ?_); refine wl_newb rfl #[.int .i64 0, .int .i64 1, .slice fa 0 fc, .int .u16 (av1 : Nat), .int .u16 (av : Nat), .slice ca 1 cc, .int .i64 60, .bool true, .slice (some ⟨vb, 0, none⟩) 80 vc, .slice none 0 0] 58 (fun _ => rfl) ?_; intro b14 w2 hm2; replace hv := hv.madeAt hm2; clear hm2)
    | (go_at_call 13; (with_reducible refine (VCk_busy hv (Asked.drv HA.out).q (Asked.drv HA.out).ok).mono ?_); rintro e w1 ⟨rfl, hn1⟩; replace hv := hv.new hn1; clear hn1)
    | ((with_reducible refine at_load (T := 4) ?_); refine wl_ldc rfl b5 7 rfl _ (hv.vars.row (by first | exact .head _ | exact .tail _ (.head _) | exact .tail _ (.tail _ (.head _)) | exact .tail _ (.tail _ (.tail _ (.head _))) | exact .tail _ (.tail _ (.tail _ (.tail _ (.head _)))) | exact .tail _ (.tail _ (.tail _ (.tail _ (.tail _ (.head _))))) | exact .tail _ (.tail _ (.tail _ (.tail _ (.tail _ (.tail _ (.head _)))))) | exact .tail _ (.tail _ (.tail _ (.tail _ (.tail _ (.tail _ (.tail _ (.head _))))))))) _ Try.underlying4 rfl (.bool true) rfl ?_)
    | ((with_reducible refine at_call ?_); refine wl_callv rfl (Go.Proofs.enters_of Try.func20 (by kernel_rfl) rfl) rfl [.pointer (some ⟨b14, 0, none⟩)] rfl (calls_cap0 (Take1_yes hv HA.out HB.out HAV.out HA1.out HNN.out HN0.out)) ?_; rintro e w1 ⟨fc2, cc2, fa2, ca2, free2, R3, gb, gc, rfl, hv1, hd2, hl2, hg3, hs3⟩; refine ⟨_, rfl, ?_⟩; replace hv := hv1; clear hv1; replace hd2 := Lib.hid hd2; replace hl2 := Lib.hid hl2; replace hs3 := Lib.hid hs3; replace hg3 := Lib.hid hg3))
  go_ret2
  exact ⟨b14, fc2, cc2, fa2, ca2, free2, R3, gb, gc, rfl, hv.keep (by exact List.Sublist.cons_cons _ (List.sublist_append_right [_, _] L)), hd2.out, hl2.out, hg3.out, hs3.out⟩
set_option maxRecDepth 100000 in
set_option maxHeartbeats 4000000 in
theorem doneTake_no {w0 w : World} {L : List (Nat × Array Value)} {R : List (Nat × Value × List Value)} (hv : Mem w0 w L R) {vb vc fc cc av av1 hdn vb0 vc0 : Nat} {fa ca : Option Addr} {M M0 free D : List Nat} {c : Chn} {n : Nat} (hA : Asked R vb0 vc0 (.slice fa 0 fc) (.slice ca 1 cc) M0 free c hdn av av1) (hB : Brought R vb vc M hdn av av1 D) (hav : av < 65536) (hav1 : (av + 1) % 65536 = av1) (hn : D.length = n) (h0 : n = 0) :
    Calls Try.prog 14 #[.agg #[.slice (some ⟨vb, 0, none⟩) 80 vc], .agg #[.int .i64 0, .int .i64 1, .slice fa 0 fc, .int .u16 (av1 : Nat), .int .u16 (av : Nat), .slice ca 1 cc, .int .i64 60, .bool true], .bool true, .func (.func 20) #[] #[]] w fun e w' => ∃ b fc2 cc2 fa2 ca2 free2 R3, e = .returned (.tuple #[.pointer (some ⟨b, 0, none⟩), .int .i64 180]) ∧ Mem w0 w' ((b, #[.int .i64 0, .int .i64 1, .slice fa2 1 fc2, .int .u16 (av1 : Nat), .int .u16 (av1 : Nat), .slice ca2 0 cc2, .int .i64 60, .bool false, .slice (some ⟨vb, 0, none⟩) 80 vc, .slice none 0 0]) :: L) R3 ∧ Drv R3 80 vb vc (.slice fa2 1 fc2) (.slice ca2 0 cc2) M 1 free2 [] ∧ free2.length = 1 ∧ ∀ x ∈ R, x ∈ R3 := by
  have HA := Lib.hid hA
  have HB := Lib.hid hB
  have HAV := Lib.hid hav
  have HA1 := Lib.hid hav1
  have HNN := Lib.hid hn
  have HN0 := Lib.hid h0
  clear hA hB hav hav1 hn h0
  go_enter Try.func14, Try.ntmps14
  go_wp2_with (first
    | ((with_reducible refine at_box (T := 25) (dst := some 4) ?_); refine wl_newb rfl #[.slice (some ⟨vb, 0, none⟩) 80 vc] 25 (fun _ => rfl) ?_; intro b4 w2 hm2; replace hv := hv.madeAt hm2; clear hm2)
    | ((with_reducible refine at_box (T := 32) (dst := some 5) ?_); refine wl_newb rfl #[.int .i64 0, .int .i64 1, .slice fa 0 fc, .int .u16 (av1 : Nat), .int .u16 (av : Nat), .slice ca 1 cc, .int .i64 60, .bool true] 32 (fun _ => rfl) ?_; intro b5 w2 hm2; replace hv := hv.madeAt hm2; clear hm2)
    | ((with_reducible refine at_load (T := 32) ?_); refine wl_ldv rfl b5 rfl _ (hv.vars.row (by first | exact .head _ | exact .tail _ (.head _) | exact .tail _ (.tail _ (.head _)) | exact .tail _ (.tail _ (.tail _ (.head _))) | exact .tail _ (.tail _ (.tail _ (.tail _ (.head _)))) | exact .tail _ (.tail _ (.tail _ (.tail _ (.tail _ (.head _))))) | exact .tail _ (.tail _ (.tail _ (.tail _ (.tail _ (.tail _ (.head _)))))) | exact .tail _ (.tail _ (.tail _ (.tail _ (.tail _ (.tail _ (.tail _ (.head _))))))))) 8 _ Try.underlying32 rfl infoV (by decide) rfl ?_)
    | ((with_reducible refine at_load (T := 25) ?_); refine wl_ldv rfl b4 rfl _ (hv.vars.row (by first | exact .head _ | exact .tail _ (.head _) | exact .tail _ (.tail _ (.head _)) | exact .tail _ (.tail _ (.tail _ (.head _))) | exact .tail _ (.tail _ (.tail _ (.tail _ (.head _)))) | exact .tail _ (.tail _ (.tail _ (.tail _ (.tail _ (.head _))))) | exact .tail _ (.tail _ (.tail _ (.tail _ (.tail _ (.tail _ (.head _)))))) | exact .tail _ (.tail _ (.tail _ (.tail _ (.tail _ (.tail _ (.tail _ (.head _))))))))) 1 _ Try.underlying25 rfl infoM (by decide) rfl ?_)
    | ((with_reducible refine at_build (T := 58) ?_); refine wl_build rfl _ rfl (built_vwk _ _ _ _ _ _ _) ?_)
    | ((with_reducible refine at_box (T := 58) (dst := some 14) ?_); refine wl_newb rfl #[.int .i64 0, .int .i64 1, .slice fa 0 fc, .int .u16 (av1 : Nat), .int .u16 (av : Nat), .slice ca 1 cc, .int .i64 60, .bool true, .slice (some ⟨vb, 0, none⟩) 80 vc, .slice none 0 0] 58 (fun _ => rfl) ?_; intro b14 w2 hm2; replace hv := hv.madeAt hm2; clear hm2)
    | (go_at_call 13; (with_reducible refine (VCk_busy hv (Asked.drv HA.out).q (Asked.drv HA.out).ok).mono ?_); rintro e w1 ⟨rfl, hn1⟩; replace hv := hv.new hn1; clear hn1)
    | ((with_reducible refine at_load (T := 4) ?_); refine wl_ldc rfl b5 7 rfl _ (hv.vars.row (by first | exact .head _ | exact .tail _ (.head _) | exact .tail _ (.tail _ (.head _)) | exact .tail _ (.tail _ (.tail _ (.head _))) | exact .tail _ (.tail _ (.tail _ (.tail _ (.head _)))) | exact .tail _ (.tail _ (.tail _ (.tail _ (.tail _ (.head _))))) | exact .tail _ (.tail _ (.tail _ (.tail _ (.tail _ (.tail _ (.head _)))))) | exact .tail _ (.tail _ (.tail _ (.tail _ (.tail _ (.tail _ (.tail _ (.head _))))))))) _ Try.underlying4 rfl (.bool true) rfl ?_)
    | ((with_reducible refine at_call ?_); refine wl_callv rfl (Go.Proofs.enters_of Try.func20 (by kernel_rfl) rfl) rfl [.pointer (some ⟨b14, 0, none⟩)] rfl (calls_cap0 (Take1_no hv HA.out HB.out HAV.out HA1.out HNN.out HN0.out)) ?_; rintro e w1 ⟨fc2, cc2, fa2, ca2, free2, R3, rfl, hv1, hd2, hl2, hs3⟩; refine ⟨_, rfl, ?_⟩; replace hv := hv1; clear hv1; replace hd2 := Lib.hid hd2; replace hl2 := Lib.hid hl2; replace hs3 := Lib.hid hs3))
  go_ret2
  exact ⟨b14, fc2, cc2, fa2, ca2, free2, R3, rfl, hv.keep (by exact List.Sublist.cons_cons _ (List.sublist_append_right [_, _] L)), hd2.out, hl2.out, hs3.out⟩
set_option maxRecDepth 100000 in
set_option maxHeartbeats 4000000 in
theorem Take_yes {w0 w : World} {L : List (Nat × Array Value)} {R : List (Nat × Value × List Value)} (hv : Mem w0 w L R) {vb vc fc cc av av1 hdn vb0 vc0 : Nat} {fa ca : Option Addr} {M M0 free D : List Nat} {c : Chn} {n : Nat} (hA : Asked R vb0 vc0 (.slice fa 0 fc) (.slice ca 1 cc) M0 free c hdn av av1) (hB : Brought R vb vc M hdn av av1 D) (hav : av < 65536) (hav1 : (av + 1) % 65536 = av1) (hn : D.length = n) (h0 : 0 < n) :
    Calls Try.prog 9 #[.agg #[.slice (some ⟨vb, 0, none⟩) 80 vc], .agg #[.int .i64 0, .int .i64 1, .slice fa 0 fc, .int .u16 (av1 : Nat), .int .u16 (av : Nat), .slice ca 1 cc, .int .i64 60, .bool true]] w fun e w' => ∃ fc2 cc2 fa2 ca2 free2 R3 gb gc, e = .returned (.tuple #[.agg #[.int .i64 0, .int .i64 1, .slice fa2 1 fc2, .int .u16 (av1 : Nat), .int .u16 (av1 : Nat), .slice ca2 0 cc2, .int .i64 60, .bool false], .slice (some ⟨gb, 0, none⟩) n gc, .int .i64 0]) ∧ Mem w0 w' L R3 ∧ Drv R3 80 vb vc (.slice fa2 1 fc2) (.slice ca2 0 cc2) M 1 free2 [] ∧ free2.length = 1 ∧ (1, .slice (some ⟨gb, 0, none⟩) n gc, cellsB D) ∈ R3 ∧ ∀ x ∈ R, x ∈ R3 := by
  have HA := Lib.hid hA
  have HB := Lib.hid hB
  have HAV := Lib.hid hav
  have HA1 := Lib.hid hav1
  have HNN := Lib.hid hn
  have HN0 := Lib.hid h0
  clear hA hB hav hav1 hn h0
  go_enter Try.func9, Try.ntmps9
  go_wp2_with (first
    | ((with_reducible refine at_box (T := 25) (dst := some 2) ?_); refine wl_newb rfl #[.slice (some ⟨vb, 0, none⟩) 80 vc] 25 (fun _ => rfl) ?_; intro b2 w2 hm2; replace hv := hv.madeAt hm2; clear hm2)
    | ((with_reducible refine at_box (T := 32) (dst := some 3) ?_); refine wl_newb rfl #[.int .i64 0, .int .i64 1, .slice fa 0 fc, .int .u16 (av1 : Nat), .int .u16 (av : Nat), .slice ca 1 cc, .int .i64 60, .bool true] 32 (fun _ => rfl) ?_; intro b3 w2 hm2; replace hv := hv.madeAt hm2; clear hm2)
    | ((with_reducible refine at_alloc (T := 32) (dst := some 4) ?_); refine wl_newb rfl #[.int .i64 0, .int .i64 0, .slice none 0 0, .int .u16 0, .int .u16 0, .slice none 0 0, .int .i64 0, .bool false] 32 (fun _ => rfl) ?_; intro b4 w2 hm2; replace hv := hv.madeAt hm2; clear hm2)
    | ((with_reducible refine at_load (T := 25) ?_); refine wl_ldv rfl b2 rfl _ (hv.vars.row (by first | exact .head _ | exact .tail _ (.head _) | exact .tail _ (.tail _ (.head _)) | exact .tail _ (.tail _ (.tail _ (.head _))) | exact .tail _ (.tail _ (.tail _ (.tail _ (.head _)))) | exact .tail _ (.tail _ (.tail _ (.tail _ (.tail _ (.head _))))) | exact .tail _ (.tail _ (.tail _ (.tail _ (.tail _ (.tail _ (.head _)))))) | exact .tail _ (.tail _ (.tail _ (.tail _ (.tail _ (.tail _ (.tail _ (.head _))))))))) 1 _ Try.underlying25 rfl infoM (by decide) rfl ?_)
    | ((with_reducible refine at_load (T := 32) ?_); refine wl_ldv rfl b3 rfl _ (hv.vars.row (by first | exact .head _ | exact .tail _ (.head _) | exact .tail _ (.tail _ (.head _)) | exact .tail _ (.tail _ (.tail _ (.head _))) | exact .tail _ (.tail _ (.tail _ (.tail _ (.head _)))) | exact .tail _ (.tail _ (.tail _ (.tail _ (.tail _ (.head _))))) | exact .tail _ (.tail _ (.tail _ (.tail _ (.tail _ (.tail _ (.head _)))))) | exact .tail _ (.tail _ (.tail _ (.tail _ (.tail _ (.tail _ (.tail _ (.head _))))))))) 8 _ Try.underlying32 rfl infoV (by decide) rfl ?_)
    | (go_at_call 14; (with_reducible refine (doneTake_yes hv HA.out HB.out HAV.out HA1.out HNN.out HN0.out).mono ?_); rintro e w1 ⟨b, fc2, cc2, fa2, ca2, free2, R3, gb, gc, rfl, hv1, hd2, hl2, hg3, hs3⟩; replace hv := hv1; clear hv1; replace hd2 := Lib.hid hd2; replace hl2 := Lib.hid hl2; replace hs3 := Lib.hid hs3; replace hg3 := Lib.hid hg3))
  have hv0 := hv
  clear hv
  have hv : Mem w0 _ ([(b, #[.int .i64 0, .int .i64 1, .slice fa2 1 fc2, .int .u16 (av1 : Nat), .int .u16 (av1 : Nat), .slice ca2 0 cc2, .int .i64 60, .bool false, .slice (some ⟨vb, 0, none⟩) 80 vc, .slice (some ⟨gb, 0, none⟩) n gc]), (b4, #[.int .i64 0, .int .i64 0, .slice none 0 0, .int .u16 0, .int .u16 0, .slice none 0 0, .int .i64 0, .bool false])] ++ ((b3, #[.int .i64 0, .int .i64 1, .slice fa 0 fc, .int .u16 (av1 : Nat), .int .u16 (av : Nat), .slice ca 1 cc, .int .i64 60, .bool true]) :: (b2, #[.slice (some ⟨vb, 0, none⟩) 80 vc]) :: L)) _ := hv0
  clear hv0
  try simp only [Act.put]
  refine Bny.wp_region_walk [(b, #[.int .i64 0, .int .i64 1, .slice fa2 1 fc2, .int .u16 (av1 : Nat), .int .u16 (av1 : Nat), .slice ca2 0 cc2, .int .i64 60, .bool false, .slice (some ⟨vb, 0, none⟩) 80 vc, .slice (some ⟨gb, 0, none⟩) n gc]), (b4, #[.int .i64 0, .int .i64 0, .slice none 0 0, .int .u16 0, .int .u16 0, .slice none 0 0, .int .i64 0, .bool false])] ((b3, #[.int .i64 0, .int .i64 1, .slice fa 0 fc, .int .u16 (av1 : Nat), .int .u16 (av : Nat), .slice ca 1 cc, .int .i64 60, .bool true]) :: (b2, #[.slice (some ⟨vb, 0, none⟩) 80 vc]) :: L) [⟨[], none⟩, ⟨[], none⟩, ⟨[], none⟩, ⟨[1000], none⟩, ⟨[], none⟩, ⟨[], none⟩, ⟨[], none⟩, ⟨[1000], none⟩, ⟨[], none⟩, ⟨[1001], some 1001⟩, ⟨[], none⟩, ⟨[], none⟩] [.val, .val, .val, .val, .val, .val, .val, .val, .val, .put, .val, .val] (by kernel_rfl) (by kernel_rfl) hv ?_
  simp only [List.length_cons, List.length_nil, Nat.zero_add, Any.someVals]
  iterate 12 apply Exists.intro
  repeat (first
    | (refine Bny.E_off rfl ?_; simp only [Act.put, List.setIfInBounds_toArray, List.set_cons_succ, List.set_cons_zero])
    | ((with_reducible refine Bny.at_estore (T := 32) ?_); refine Bny.E_putv (T := 32) rfl rfl rfl rfl rfl rfl 8 infoV rfl rfl (by simp [Value.oneCell']) ?_; simp only [Act.put, List.setIfInBounds_toArray, List.set_cons_succ, List.set_cons_zero])
    | (apply Bny.E_pureq rfl rfl rfl
       case h => intro K hK; go_big_quiet_op; (refine hK _ ?_; rfl)
       case hr => exact fun _ => rfl
       simp only [Act.put, List.setIfInBounds_toArray, List.set_cons_succ, List.set_cons_zero])
    | (apply Bny.E_val rfl rfl rfl rfl
       case h =>
         intro E' hA K hK
         first
           | ((with_reducible refine Bny.at_qload (T := 32) ?_); refine Bny.q_ldp 1000 (o := 0) hA (by decide) rfl rfl 8 _ Try.underlying32 rfl infoV (by decide) (by show 0 + 8 ≤ 10; decide) #[.int .i64 0, .int .i64 1, .slice fa2 1 fc2, .int .u16 (av1 : Nat), .int .u16 (av1 : Nat), .slice ca2 0 cc2, .int .i64 60, .bool false] rfl ?_; refine hK _ ?_; rfl)
           | ((with_reducible refine Bny.at_qload (T := 23) ?_); refine Bny.q_ldc 1000 hA (by decide) rfl rfl _ Try.underlying23 rfl (.slice (some ⟨gb, 0, none⟩) n gc) rfl ?_; refine hK _ ?_; rfl)
           | (go_big_quiet_op; first
             | (refine hK _ ?_; rfl)
             | (refine ⟨_, fun _ _ => rfl, ?_⟩; refine hK _ ?_; rfl)
             | (apply Exists.intro; refine ⟨fun w1 hw1 => ?_, ?_⟩; · (first
                 | fail)
                refine hK _ ?_; rfl))
       case hD => rfl
       simp only [Act.put, List.setIfInBounds_toArray, List.set_cons_succ, List.set_cons_zero]))
  try any_goals exact undef
  refine Bny.E_nil ?_
  intro w9 hE9
  replace hv : Mem w0 w9 ([(b, #[.int .i64 0, .int .i64 1, .slice fa2 1 fc2, .int .u16 (av1 : Nat), .int .u16 (av1 : Nat), .slice ca2 0 cc2, .int .i64 60, .bool false, .slice (some ⟨vb, 0, none⟩) 80 vc, .slice (some ⟨gb, 0, none⟩) n gc]), (b4, #[.int .i64 0, .int .i64 1, .slice fa2 1 fc2, .int .u16 (av1 : Nat), .int .u16 (av1 : Nat), .slice ca2 0 cc2, .int .i64 60, .bool false])] ++ ((b3, #[.int .i64 0, .int .i64 1, .slice fa 0 fc, .int .u16 (av1 : Nat), .int .u16 (av : Nat), .slice ca 1 cc, .int .i64 60, .bool true]) :: (b2, #[.slice (some ⟨vb, 0, none⟩) 80 vc]) :: L)) _ := hE9.mem0 [1000, 1001] (by decide)
  clear hE9
  simp only [List.cons_append, List.nil_append] at hv
  go_wp2
  try simp only [Exit.inBlock, Exit.then]
  refine ret_cell3 (v := .agg #[.int .i64 0, .int .i64 1, .slice fa2 1 fc2, .int .u16 (av1 : Nat), .int .u16 (av1 : Nat), .slice ca2 0 cc2, .int .i64 60, .bool false]) (v1 := .slice (some ⟨gb, 0, none⟩) n gc) (v2 := .int .i64 0) rfl rfl (read_row _ b4 32 _ (hv.vars.row (b := b4) (by first | exact .head _ | exact .tail _ (.head _) | exact .tail _ (.tail _ (.head _)) | exact .tail _ (.tail _ (.tail _ (.head _))) | exact .tail _ (.tail _ (.tail _ (.tail _ (.head _)))) | exact .tail _ (.tail _ (.tail _ (.tail _ (.tail _ (.head _))))) | exact .tail _ (.tail _ (.tail _ (.tail _ (.tail _ (.tail _ (.head _)))))) | exact .tail _ (.tail _ (.tail _ (.tail _ (.tail _ (.tail _ (.tail _ (.head _))))))))) 8 _ Try.underlying32 rfl infoV (by decide) rfl) rfl rfl rfl ?_
  exact ⟨fc2, cc2, fa2, ca2, free2, R3, gb, gc, rfl, hv.keep (by exact List.sublist_append_right [_, _, _, _] L), hd2.out, hl2.out, hg3.out, hs3.out⟩
set_option maxRecDepth 100000 in
set_option maxHeartbeats 4000000 in
theorem Take_no {w0 w : World} {L : List (Nat × Array Value)} {R : List (Nat × Value × List Value)} (hv : Mem w0 w L R) {vb vc fc cc av av1 hdn vb0 vc0 : Nat} {fa ca : Option Addr} {M M0 free D : List Nat} {c : Chn} {n : Nat} (hA : Asked R vb0 vc0 (.slice fa 0 fc) (.slice ca 1 cc) M0 free c hdn av av1) (hB : Brought R vb vc M hdn av av1 D) (hav : av < 65536) (hav1 : (av + 1) % 65536 = av1) (hn : D.length = n) (h0 : n = 0) :
    Calls Try.prog 9 #[.agg #[.slice (some ⟨vb, 0, none⟩) 80 vc], .agg #[.int .i64 0, .int .i64 1, .slice fa 0 fc, .int .u16 (av1 : Nat), .int .u16 (av : Nat), .slice ca 1 cc, .int .i64 60, .bool true]] w fun e w' => ∃ fc2 cc2 fa2 ca2 free2 R3, e = .returned (.tuple #[.agg #[.int .i64 0, .int .i64 1, .slice fa2 1 fc2, .int .u16 (av1 : Nat), .int .u16 (av1 : Nat), .slice ca2 0 cc2, .int .i64 60, .bool false], .slice none 0 0, .int .i64 180]) ∧ Mem w0 w' L R3 ∧ Drv R3 80 vb vc (.slice fa2 1 fc2) (.slice ca2 0 cc2) M 1 free2 [] ∧ free2.length = 1 ∧ ∀ x ∈ R, x ∈ R3 := by
  have HA := Lib.hid hA
  have HB := Lib.hid hB
  have HAV := Lib.hid hav
  have HA1 := Lib.hid hav1
  have HNN := Lib.hid hn
  have HN0 := Lib.hid h0
  clear hA hB hav hav1 hn h0
  go_enter Try.func9, Try.ntmps9
  go_wp2_with (first
    | ((with_reducible refine at_box (T := 25) (dst := some 2) ?_); refine wl_newb rfl #[.slice (some ⟨vb, 0, none⟩) 80 vc] 25 (fun _ => rfl) ?_; intro b2 w2 hm2; replace hv := hv.madeAt hm2; clear hm2)
    | ((with_reducible refine at_box (T := 32) (dst := some 3) ?_); refine wl_newb rfl #[.int .i64 0, .int .i64 1, .slice fa 0 fc, .int .u16 (av1 : Nat), .int .u16 (av : Nat), .slice ca 1 cc, .int .i64 60, .bool true] 32 (fun _ => rfl) ?_; intro b3 w2 hm2; replace hv := hv.madeAt hm2; clear hm2)
    | ((with_reducible refine at_alloc (T := 32) (dst := some 4) ?_); refine wl_newb rfl #[.int .i64 0, .int .i64 0, .slice none 0 0, .int .u16 0, .int .u16 0, .slice none 0 0, .int .i64 0, .bool false] 32 (fun _ => rfl) ?_; intro b4 w2 hm2; replace hv := hv.madeAt hm2; clear hm2)
    | ((with_reducible refine at_load (T := 25) ?_); refine wl_ldv rfl b2 rfl _ (hv.vars.row (by first | exact .head _ | exact .tail _ (.head _) | exact .tail _ (.tail _ (.head _)) | exact .tail _ (.tail _ (.tail _ (.head _))) | exact .tail _ (.tail _ (.tail _ (.tail _ (.head _)))) | exact .tail _ (.tail _ (.tail _ (.tail _ (.tail _ (.head _))))) | exact .tail _ (.tail _ (.tail _ (.tail _ (.tail _ (.tail _ (.head _)))))) | exact .tail _ (.tail _ (.tail _ (.tail _ (.tail _ (.tail _ (.tail _ (.head _))))))))) 1 _ Try.underlying25 rfl infoM (by decide) rfl ?_)
    | ((with_reducible refine at_load (T := 32) ?_); refine wl_ldv rfl b3 rfl _ (hv.vars.row (by first | exact .head _ | exact .tail _ (.head _) | exact .tail _ (.tail _ (.head _)) | exact .tail _ (.tail _ (.tail _ (.head _))) | exact .tail _ (.tail _ (.tail _ (.tail _ (.head _)))) | exact .tail _ (.tail _ (.tail _ (.tail _ (.tail _ (.head _))))) | exact .tail _ (.tail _ (.tail _ (.tail _ (.tail _ (.tail _ (.head _)))))) | exact .tail _ (.tail _ (.tail _ (.tail _ (.tail _ (.tail _ (.tail _ (.head _))))))))) 8 _ Try.underlying32 rfl infoV (by decide) rfl ?_)
    | (go_at_call 14; (with_reducible refine (doneTake_no hv HA.out HB.out HAV.out HA1.out HNN.out HN0.out).mono ?_); rintro e w1 ⟨b, fc2, cc2, fa2, ca2, free2, R3, rfl, hv1, hd2, hl2, hs3⟩; replace hv := hv1; clear hv1; replace hd2 := Lib.hid hd2; replace hl2 := Lib.hid hl2; replace hs3 := Lib.hid hs3))
  have hv0 := hv
  clear hv
  have hv : Mem w0 _ ([(b, #[.int .i64 0, .int .i64 1, .slice fa2 1 fc2, .int .u16 (av1 : Nat), .int .u16 (av1 : Nat), .slice ca2 0 cc2, .int .i64 60, .bool false, .slice (some ⟨vb, 0, none⟩) 80 vc, .slice none 0 0]), (b4, #[.int .i64 0, .int .i64 0, .slice none 0 0, .int .u16 0, .int .u16 0, .slice none 0 0, .int .i64 0, .bool false])] ++ ((b3, #[.int .i64 0, .int .i64 1, .slice fa 0 fc, .int .u16 (av1 : Nat), .int .u16 (av : Nat), .slice ca 1 cc, .int .i64 60, .bool true]) :: (b2, #[.slice (some ⟨vb, 0, none⟩) 80 vc]) :: L)) _ := hv0
  clear hv0
  try simp only [Act.put]
  refine Bny.wp_region_walk [(b, #[.int .i64 0, .int .i64 1, .slice fa2 1 fc2, .int .u16 (av1 : Nat), .int .u16 (av1 : Nat), .slice ca2 0 cc2, .int .i64 60, .bool false, .slice (some ⟨vb, 0, none⟩) 80 vc, .slice none 0 0]), (b4, #[.int .i64 0, .int .i64 0, .slice none 0 0, .int .u16 0, .int .u16 0, .slice none 0 0, .int .i64 0, .bool false])] ((b3, #[.int .i64 0, .int .i64 1, .slice fa 0 fc, .int .u16 (av1 : Nat), .int .u16 (av : Nat), .slice ca 1 cc, .int .i64 60, .bool true]) :: (b2, #[.slice (some ⟨vb, 0, none⟩) 80 vc]) :: L) [⟨[], none⟩, ⟨[], none⟩, ⟨[], none⟩, ⟨[1000], none⟩, ⟨[], none⟩, ⟨[], none⟩, ⟨[], none⟩, ⟨[1000], none⟩, ⟨[], none⟩, ⟨[1001], some 1001⟩, ⟨[], none⟩, ⟨[], none⟩] [.val, .val, .val, .val, .val, .val, .val, .val, .val, .put, .val, .val] (by kernel_rfl) (by kernel_rfl) hv ?_
  simp only [List.length_cons, List.length_nil, Nat.zero_add, Any.someVals]
  iterate 12 apply Exists.intro
  repeat (first
    | (refine Bny.E_off rfl ?_; simp only [Act.put, List.setIfInBounds_toArray, List.set_cons_succ, List.set_cons_zero])
    | ((with_reducible refine Bny.at_estore (T := 32) ?_); refine Bny.E_putv (T := 32) rfl rfl rfl rfl rfl rfl 8 infoV rfl rfl (by simp [Value.oneCell']) ?_; simp only [Act.put, List.setIfInBounds_toArray, List.set_cons_succ, List.set_cons_zero])
    | (apply Bny.E_pureq rfl rfl rfl
       case h => intro K hK; go_big_quiet_op; (refine hK _ ?_; rfl)
       case hr => exact fun _ => rfl
       simp only [Act.put, List.setIfInBounds_toArray, List.set_cons_succ, List.set_cons_zero])
    | (apply Bny.E_val rfl rfl rfl rfl
       case h =>
         intro E' hA K hK
         first
           | ((with_reducible refine Bny.at_qload (T := 32) ?_); refine Bny.q_ldp 1000 (o := 0) hA (by decide) rfl rfl 8 _ Try.underlying32 rfl infoV (by decide) (by show 0 + 8 ≤ 10; decide) #[.int .i64 0, .int .i64 1, .slice fa2 1 fc2, .int .u16 (av1 : Nat), .int .u16 (av1 : Nat), .slice ca2 0 cc2, .int .i64 60, .bool false] rfl ?_; refine hK _ ?_; rfl)
           | ((with_reducible refine Bny.at_qload (T := 23) ?_); refine Bny.q_ldc 1000 hA (by decide) rfl rfl _ Try.underlying23 rfl (.slice none 0 0) rfl ?_; refine hK _ ?_; rfl)
           | (go_big_quiet_op; first
             | (refine hK _ ?_; rfl)
             | (refine ⟨_, fun _ _ => rfl, ?_⟩; refine hK _ ?_; rfl)
             | (apply Exists.intro; refine ⟨fun w1 hw1 => ?_, ?_⟩; · (first
                 | fail)
                refine hK _ ?_; rfl))
       case hD => rfl
       simp only [Act.put, List.setIfInBounds_toArray, List.set_cons_succ, List.set_cons_zero]))
  try any_goals exact undef
  refine Bny.E_nil ?_
  intro w9 hE9
  replace hv : Mem w0 w9 ([(b, #[.int .i64 0, .int .i64 1, .slice fa2 1 fc2, .int .u16 (av1 : Nat), .int .u16 (av1 : Nat), .slice ca2 0 cc2, .int .i64 60, .bool false, .slice (some ⟨vb, 0, none⟩) 80 vc, .slice none 0 0]), (b4, #[.int .i64 0, .int .i64 1, .slice fa2 1 fc2, .int .u16 (av1 : Nat), .int .u16 (av1 : Nat), .slice ca2 0 cc2, .int .i64 60, .bool false])] ++ ((b3, #[.int .i64 0, .int .i64 1, .slice fa 0 fc, .int .u16 (av1 : Nat), .int .u16 (av : Nat), .slice ca 1 cc, .int .i64 60, .bool true]) :: (b2, #[.slice (some ⟨vb, 0, none⟩) 80 vc]) :: L)) _ := hE9.mem0 [1000, 1001] (by decide)
  clear hE9
  simp only [List.cons_append, List.nil_append] at hv
  go_wp2
  try simp only [Exit.inBlock, Exit.then]
  refine ret_cell3 (v := .agg #[.int .i64 0, .int .i64 1, .slice fa2 1 fc2, .int .u16 (av1 : Nat), .int .u16 (av1 : Nat), .slice ca2 0 cc2, .int .i64 60, .bool false]) (v1 := .slice none 0 0) (v2 := .int .i64 180) rfl rfl (read_row _ b4 32 _ (hv.vars.row (b := b4) (by first | exact .head _ | exact .tail _ (.head _) | exact .tail _ (.tail _ (.head _)) | exact .tail _ (.tail _ (.tail _ (.head _))) | exact .tail _ (.tail _ (.tail _ (.tail _ (.head _)))) | exact .tail _ (.tail _ (.tail _ (.tail _ (.tail _ (.head _))))) | exact .tail _ (.tail _ (.tail _ (.tail _ (.tail _ (.tail _ (.head _)))))) | exact .tail _ (.tail _ (.tail _ (.tail _ (.tail _ (.tail _ (.tail _ (.head _))))))))) 8 _ Try.underlying32 rfl infoV (by decide) rfl) rfl rfl rfl ?_
  exact ⟨fc2, cc2, fa2, ca2, free2, R3, rfl, hv.keep (by exact List.sublist_append_right [_, _, _, _] L), hd2.out, hl2.out, hs3.out⟩
set_option maxRecDepth 100000 in
set_option maxHeartbeats 4000000 in
theorem Take_idle {w0 w : World} {L : List (Nat × Array Value)} {R : List (Nat × Value × List Value)} (hv : Mem w0 w L R) {vb vc fc cc nf av la : Nat} {fa ca : Option Addr} {free : List Nat} {chs : List Chn} (hq : InQ R (.slice fa nf fc) (.slice ca 0 cc) free chs) (ho : OkQ 1 free chs) :
    Calls Try.prog 9 #[.agg #[.slice (some ⟨vb, 0, none⟩) 80 vc], .agg #[.int .i64 0, .int .i64 1, .slice fa nf fc, .int .u16 (av : Nat), .int .u16 (la : Nat), .slice ca 0 cc, .int .i64 60, .bool false]] w fun e w' => e = .returned (.tuple #[.agg #[.int .i64 0, .int .i64 1, .slice fa nf fc, .int .u16 (av : Nat), .int .u16 (la : Nat), .slice ca 0 cc, .int .i64 60, .bool false], .slice none 0 0, .int .i64 8]) ∧ Mem w0 w' L R := by
  have HQ := Lib.hid hq
  have HO := Lib.hid ho
  clear hq ho
  go_enter Try.func9, Try.ntmps9
  go_wp2_with (first
    | ((with_reducible refine at_box (T := 25) (dst := some 2) ?_); refine wl_newb rfl #[.slice (some ⟨vb, 0, none⟩) 80 vc] 25 (fun _ => rfl) ?_; intro b2 w2 hm2; replace hv := hv.madeAt hm2; clear hm2)
    | ((with_reducible refine at_box (T := 32) (dst := some 3) ?_); refine wl_newb rfl #[.int .i64 0, .int .i64 1, .slice fa nf fc, .int .u16 (av : Nat), .int .u16 (la : Nat), .slice ca 0 cc, .int .i64 60, .bool false] 32 (fun _ => rfl) ?_; intro b3 w2 hm2; replace hv := hv.madeAt hm2; clear hm2)
    | ((with_reducible refine at_alloc (T := 32) (dst := some 4) ?_); refine wl_newb rfl #[.int .i64 0, .int .i64 0, .slice none 0 0, .int .u16 0, .int .u16 0, .slice none 0 0, .int .i64 0, .bool false] 32 (fun _ => rfl) ?_; intro b4 w2 hm2; replace hv := hv.madeAt hm2; clear hm2)
    | ((with_reducible refine at_load (T := 25) ?_); refine wl_ldv rfl b2 rfl _ (hv.vars.row (by first | exact .head _ | exact .tail _ (.head _) | exact .tail _ (.tail _ (.head _)) | exact .tail _ (.tail _ (.tail _ (.head _))) | exact .tail _ (.tail _ (.tail _ (.tail _ (.head _)))) | exact .tail _ (.tail _ (.tail _ (.tail _ (.tail _ (.head _))))) | exact .tail _ (.tail _ (.tail _ (.tail _ (.tail _ (.tail _ (.head _)))))) | exact .tail _ (.tail _ (.tail _ (.tail _ (.tail _ (.tail _ (.tail _ (.head _))))))))) 1 _ Try.underlying25 rfl infoM (by decide) rfl ?_)
    | ((with_reducible refine at_load (T := 32) ?_); refine wl_ldv rfl b3 rfl _ (hv.vars.row (by first | exact .head _ | exact .tail _ (.head _) | exact .tail _ (.tail _ (.head _)) | exact .tail _ (.tail _ (.tail _ (.head _))) | exact .tail _ (.tail _ (.tail _ (.tail _ (.head _)))) | exact .tail _ (.tail _ (.tail _ (.tail _ (.tail _ (.head _))))) | exact .tail _ (.tail _ (.tail _ (.tail _ (.tail _ (.tail _ (.head _)))))) | exact .tail _ (.tail _ (.tail _ (.tail _ (.tail _ (.tail _ (.tail _ (.head _))))))))) 8 _ Try.underlying32 rfl infoV (by decide) rfl ?_)
    | (go_at_call 14; (with_reducible refine (doneIdle_V hv HQ.out HO.out _).mono ?_); rintro e w1 ⟨b, rfl, hv1⟩; replace hv := hv1; clear hv1))
  have hv0 := hv
  clear hv
  have hv : Mem w0 _ ([(b, #[.int .i64 0, .int .i64 1, .slice fa nf fc, .int .u16 (av : Nat), .int .u16 (la : Nat), .slice ca 0 cc, .int .i64 60, .bool false, .slice (some ⟨vb, 0, none⟩) 80 vc, .slice none 0 0]), (b4, #[.int .i64 0, .int .i64 0, .slice none 0 0, .int .u16 0, .int .u16 0, .slice none 0 0, .int .i64 0, .bool false])] ++ ((b3, #[.int .i64 0, .int .i64 1, .slice fa nf fc, .int .u16 (av : Nat), .int .u16 (la : Nat), .slice ca 0 cc, .int .i64 60, .bool false]) :: (b2, #[.slice (some ⟨vb, 0, none⟩) 80 vc]) :: L)) _ := hv0
  clear hv0
  try simp only [Act.put]
  refine Bny.wp_region_walk [(b, #[.int .i64 0, .int .i64 1, .slice fa nf fc, .int .u16 (av : Nat), .int .u16 (la : Nat), .slice ca 0 cc, .int .i64 60, .bool false, .slice (some ⟨vb, 0, none⟩) 80 vc, .slice none 0 0]), (b4, #[.int .i64 0, .int .i64 0, .slice none 0 0, .int .u16 0, .int .u16 0, .slice none 0 0, .int .i64 0, .bool false])] ((b3, #[.int .i64 0, .int .i64 1, .slice fa nf fc, .int .u16 (av : Nat), .int .u16 (la : Nat), .slice ca 0 cc, .int .i64 60, .bool false]) :: (b2, #[.slice (some ⟨vb, 0, none⟩) 80 vc]) :: L) [⟨[], none⟩, ⟨[], none⟩, ⟨[], none⟩, ⟨[1000], none⟩, ⟨[], none⟩, ⟨[], none⟩, ⟨[], none⟩, ⟨[1000], none⟩, ⟨[], none⟩, ⟨[1001], some 1001⟩, ⟨[], none⟩, ⟨[], none⟩] [.val, .val, .val, .val, .val, .val, .val, .val, .val, .put, .val, .val] (by kernel_rfl) (by kernel_rfl) hv ?_
  simp only [List.length_cons, List.length_nil, Nat.zero_add, Any.someVals]
  iterate 12 apply Exists.intro
  repeat (first
    | (refine Bny.E_off rfl ?_; simp only [Act.put, List.setIfInBounds_toArray, List.set_cons_succ, List.set_cons_zero])
    | ((with_reducible refine Bny.at_estore (T := 32) ?_); refine Bny.E_putv (T := 32) rfl rfl rfl rfl rfl rfl 8 infoV rfl rfl (by simp [Value.oneCell']) ?_; simp only [Act.put, List.setIfInBounds_toArray, List.set_cons_succ, List.set_cons_zero])
    | (apply Bny.E_pureq rfl rfl rfl
       case h => intro K hK; go_big_quiet_op; (refine hK _ ?_; rfl)
       case hr => exact fun _ => rfl
       simp only [Act.put, List.setIfInBounds_toArray, List.set_cons_succ, List.set_cons_zero])
    | (apply Bny.E_val rfl rfl rfl rfl
       case h =>
         intro E' hA K hK
         first
           | ((with_reducible refine Bny.at_qload (T := 32) ?_); refine Bny.q_ldp 1000 (o := 0) hA (by decide) rfl rfl 8 _ Try.underlying32 rfl infoV (by decide) (by show 0 + 8 ≤ 10; decide) #[.int .i64 0, .int .i64 1, .slice fa nf fc, .int .u16 (av : Nat), .int .u16 (la : Nat), .slice ca 0 cc, .int .i64 60, .bool false] rfl ?_; refine hK _ ?_; rfl)
           | ((with_reducible refine Bny.at_qload (T := 23) ?_); refine Bny.q_ldc 1000 hA (by decide) rfl rfl _ Try.underlying23 rfl (.slice none 0 0) rfl ?_; refine hK _ ?_; rfl)
           | (go_big_quiet_op; first
             | (refine hK _ ?_; rfl)
             | (refine ⟨_, fun _ _ => rfl, ?_⟩; refine hK _ ?_; rfl)
             | (apply Exists.intro; refine ⟨fun w1 hw1 => ?_, ?_⟩; · (first
                 | fail)
                refine hK _ ?_; rfl))
       case hD => rfl
       simp only [Act.put, List.setIfInBounds_toArray, List.set_cons_succ, List.set_cons_zero]))
  try any_goals exact undef
  refine Bny.E_nil ?_
  intro w9 hE9
  replace hv : Mem w0 w9 ([(b, #[.int .i64 0, .int .i64 1, .slice fa nf fc, .int .u16 (av : Nat), .int .u16 (la : Nat), .slice ca 0 cc, .int .i64 60, .bool false, .slice (some ⟨vb, 0, none⟩) 80 vc, .slice none 0 0]), (b4, #[.int .i64 0, .int .i64 1, .slice fa nf fc, .int .u16 (av : Nat), .int .u16 (la : Nat), .slice ca 0 cc, .int .i64 60, .bool false])] ++ ((b3, #[.int .i64 0, .int .i64 1, .slice fa nf fc, .int .u16 (av : Nat), .int .u16 (la : Nat), .slice ca 0 cc, .int .i64 60, .bool false]) :: (b2, #[.slice (some ⟨vb, 0, none⟩) 80 vc]) :: L)) _ := hE9.mem0 [1000, 1001] (by decide)
  clear hE9
  simp only [List.cons_append, List.nil_append] at hv
  go_wp2
  try simp only [Exit.inBlock, Exit.then]
  refine ret_cell3 (v := .agg #[.int .i64 0, .int .i64 1, .slice fa nf fc, .int .u16 (av : Nat), .int .u16 (la : Nat), .slice ca 0 cc, .int .i64 60, .bool false]) (v1 := .slice none 0 0) (v2 := .int .i64 8) rfl rfl (read_row _ b4 32 _ (hv.vars.row (b := b4) (by first | exact .head _ | exact .tail _ (.head _) | exact .tail _ (.tail _ (.head _)) | exact .tail _ (.tail _ (.tail _ (.head _))) | exact .tail _ (.tail _ (.tail _ (.tail _ (.head _)))) | exact .tail _ (.tail _ (.tail _ (.tail _ (.tail _ (.head _))))) | exact .tail _ (.tail _ (.tail _ (.tail _ (.tail _ (.tail _ (.head _)))))) | exact .tail _ (.tail _ (.tail _ (.tail _ (.tail _ (.tail _ (.tail _ (.head _))))))))) 8 _ Try.underlying32 rfl infoV (by decide) rfl) rfl rfl rfl ?_
  exact ⟨rfl, hv.keep (by exact List.sublist_append_right [_, _, _, _] L)⟩
theorem Get_N {w0 w : World} {L : List (Nat × Array Value)} {R : List (Nat × Value × List Value)} (hv : Mem w0 w L R) {vb vc : Nat} {M : List Nat} (hm : InM R vb 0 80 vc M) : Calls Try.prog 12 #[.agg #[.slice (some ⟨vb, 0, none⟩) 80 vc], .int .i64 60, .int .i64 16] w fun e w' => ∃ gb gc R', e = .returned (.tuple #[.slice (some ⟨gb, 0, none⟩) 16 gc, .int .i64 0]) ∧ Mem w0 w' L R' ∧ ∀ x ∈ R, x ∈ R' := by
  refine (Get_ok hv hm 60 16 (by decide) (by decide)).mono ?_
  rintro e w' ⟨b, c, R', rfl, hv1, _, hs⟩
  exact ⟨b, c, R', rfl, hv1, hs⟩
theorem built_vrng (f : Value) (fc : Nat) : Try.prog.built 32 [(0, .agg #[.int .i64 0, .int .i64 1, f, .int .u16 0, .int .u16 0, .slice none 0 0]), (1, .int .i64 60)] = some #[.int .i64 0, .int .i64 1, f, .int .u16 0, .int .u16 0, .slice none 0 0, .int .i64 60, .bool false] := by kernel_rfl
set_option maxRecDepth 100000 in
set_option maxHeartbeats 4000000 in
theorem VNew_V {w0 w : World} {L : List (Nat × Array Value)} {R : List (Nat × Value × List Value)} (hv : Mem w0 w L R) {mb mc : Nat} (hm : InM R mb 0 80 mc VM0) : Calls Try.prog 4 #[.agg #[.slice (some ⟨mb, 0, none⟩) 80 mc], .int .i64 0, .int .i64 60] w fun e w' => ∃ vb vc fa fc R' M free, e = .returned (.tuple #[.agg #[.slice (some ⟨vb, 0, none⟩) 80 vc], .agg #[.int .i64 0, .int .i64 1, .slice fa 1 fc, .int .u16 0, .int .u16 0, .slice none 0 0, .int .i64 60, .bool false], .int .i64 0]) ∧ Mem w0 w' L R' ∧ Drv R' 80 vb vc (.slice fa 1 fc) (.slice none 0 0) M 1 free [] ∧ free.length = 1 ∧ ∀ x ∈ R, x ∈ R' := by
  have HM := Lib.hid hm
  clear hm
  go_enter Try.func4, Try.ntmps4
  go_wp2_with (first
    | ((with_reducible refine at_box (T := 25) (dst := some 3) ?_); refine wl_newb rfl #[.slice (some ⟨mb, 0, none⟩) 80 mc] 25 (fun _ => rfl) ?_; intro b3 w2 hm2; replace hv := hv.madeAt hm2; clear hm2)
    | ((with_reducible refine at_alloc (T := 25) (dst := some 6) ?_); refine wl_newb rfl #[.slice none 0 0] 25 (fun _ => rfl) ?_; intro b6 w2 hm2; replace hv := hv.madeAt hm2; clear hm2)
    | ((with_reducible refine at_alloc (T := 32) (dst := some 7) ?_); refine wl_newb rfl #[.int .i64 0, .int .i64 0, .slice none 0 0, .int .u16 0, .int .u16 0, .slice none 0 0, .int .i64 0, .bool false] 32 (fun _ => rfl) ?_; intro b7 w2 hm2; replace hv := hv.madeAt hm2; clear hm2)
    | ((with_reducible refine at_load (T := 25) ?_); refine wl_ldv rfl b3 rfl _ (hv.vars.row (by first | exact .head _ | exact .tail _ (.head _) | exact .tail _ (.tail _ (.head _)) | exact .tail _ (.tail _ (.tail _ (.head _))) | exact .tail _ (.tail _ (.tail _ (.tail _ (.head _)))) | exact .tail _ (.tail _ (.tail _ (.tail _ (.tail _ (.head _))))) | exact .tail _ (.tail _ (.tail _ (.tail _ (.tail _ (.tail _ (.head _)))))) | exact .tail _ (.tail _ (.tail _ (.tail _ (.tail _ (.tail _ (.tail _ (.head _))))))))) 1 _ Try.underlying25 rfl infoM (by decide) rfl ?_)
    | (go_at_call 11; (with_reducible refine (New_V hv HM.out).mono ?_); rintro e w1 ⟨vb, vc, fa, fc, R1, M, free, rfl, hv1, hd1, hl1, hs1⟩; replace hv := hv1; have HD := Lib.hid hd1; have HFL := Lib.hid hl1; have HSB := Lib.hid hs1; clear hv1 hd1 hl1 hs1)
    | ((with_reducible refine at_alloc (T := 25) (dst := some 9) ?_); refine wl_newb rfl #[.slice none 0 0] 25 (fun _ => rfl) ?_; intro b9 w2 hm2; replace hv := hv.madeAt hm2; clear hm2)
    | ((with_reducible refine at_alloc (T := 30) (dst := some 10) ?_); refine wl_newb rfl #[.int .i64 0, .int .i64 0, .slice none 0 0, .int .u16 0, .int .u16 0, .slice none 0 0] 30 (fun _ => rfl) ?_; intro b10 w2 hm2; replace hv := hv.madeAt hm2; clear hm2)
    | ((with_reducible refine at_store (T := 25) ?_); refine wl_stv rfl b9 rfl _ rfl _ (hv.vars.row (by first | exact .head _ | exact .tail _ (.head _) | exact .tail _ (.tail _ (.head _)) | exact .tail _ (.tail _ (.tail _ (.head _))) | exact .tail _ (.tail _ (.tail _ (.tail _ (.head _)))) | exact .tail _ (.tail _ (.tail _ (.tail _ (.tail _ (.head _))))) | exact .tail _ (.tail _ (.tail _ (.tail _ (.tail _ (.tail _ (.head _)))))) | exact .tail _ (.tail _ (.tail _ (.tail _ (.tail _ (.tail _ (.tail _ (.head _))))))) | exact .tail _ (.tail _ (.tail _ (.tail _ (.tail _ (.tail _ (.tail _ (.tail _ (.head _)))))))) | exact .tail _ (.tail _ (.tail _ (.tail _ (.tail _ (.tail _ (.tail _ (.tail _ (.tail _ (.head _))))))))) | exact .tail _ (.tail _ (.tail _ (.tail _ (.tail _ (.tail _ (.tail _ (.tail _ (.tail _ (.tail _ (.head _)))))))))) | exact .tail _ (.tail _ (.tail _ (.tail _ (.tail _ (.tail _ (.tail _ (.tail _ (.tail _ (.tail _ (.tail _ (.head _))))))))))))) (hv.vars.sft (by first | exact .head _ | exact .tail _ (.head _) | exact .tail _ (.tail _ (.head _)) | exact .tail _ (.tail _ (.tail _ (.head _))) | exact .tail _ (.tail _ (.tail _ (.tail _ (.head _)))) | exact .tail _ (.tail _ (.tail _ (.tail _ (.tail _ (.head _))))) | exact .tail _ (.tail _ (.tail _ (.tail _ (.tail _ (.tail _ (.head _)))))) | exact .tail _ (.tail _ (.tail _ (.tail _ (.tail _ (.tail _ (.tail _ (.head _))))))) | exact .tail _ (.tail _ (.tail _ (.tail _ (.tail _ (.tail _ (.tail _ (.tail _ (.head _)))))))) | exact .tail _ (.tail _ (.tail _ (.tail _ (.tail _ (.tail _ (.tail _ (.tail _ (.tail _ (.head _))))))))) | exact .tail _ (.tail _ (.tail _ (.tail _ (.tail _ (.tail _ (.tail _ (.tail _ (.tail _ (.tail _ (.head _)))))))))) | exact .tail _ (.tail _ (.tail _ (.tail _ (.tail _ (.tail _ (.tail _ (.tail _ (.tail _ (.tail _ (.tail _ (.head _))))))))))))) 1 infoM rfl rfl (by simp [Value.oneCell']) ?_; intro w2 hw2; (first | (replace hv := hv.set 0 rfl hw2) | (replace hv := hv.set 1 rfl hw2) | (replace hv := hv.set 2 rfl hw2) | (replace hv := hv.set 3 rfl hw2) | (replace hv := hv.set 4 rfl hw2) | (replace hv := hv.set 5 rfl hw2) | (replace hv := hv.set 6 rfl hw2) | (replace hv := hv.set 7 rfl hw2) | (replace hv := hv.set 8 rfl hw2) | (replace hv := hv.set 9 rfl hw2) | (replace hv := hv.set 10 rfl hw2) | (replace hv := hv.set 11 rfl hw2)); clear hw2; simp only [List.set] at hv)
    | ((with_reducible refine at_store (T := 30) ?_); refine wl_stv rfl b10 rfl _ rfl _ (hv.vars.row (by first | exact .head _ | exact .tail _ (.head _) | exact .tail _ (.tail _ (.head _)) | exact .tail _ (.tail _ (.tail _ (.head _))) | exact .tail _ (.tail _ (.tail _ (.tail _ (.head _)))) | exact .tail _ (.tail _ (.tail _ (.tail _ (.tail _ (.head _))))) | exact .tail _ (.tail _ (.tail _ (.tail _ (.tail _ (.tail _ (.head _)))))) | exact .tail _ (.tail _ (.tail _ (.tail _ (.tail _ (.tail _ (.tail _ (.head _))))))) | exact .tail _ (.tail _ (.tail _ (.tail _ (.tail _ (.tail _ (.tail _ (.tail _ (.head _)))))))) | exact .tail _ (.tail _ (.tail _ (.tail _ (.tail _ (.tail _ (.tail _ (.tail _ (.tail _ (.head _))))))))) | exact .tail _ (.tail _ (.tail _ (.tail _ (.tail _ (.tail _ (.tail _ (.tail _ (.tail _ (.tail _ (.head _)))))))))) | exact .tail _ (.tail _ (.tail _ (.tail _ (.tail _ (.tail _ (.tail _ (.tail _ (.tail _ (.tail _ (.tail _ (.head _))))))))))))) (hv.vars.sft (by first | exact .head _ | exact .tail _ (.head _) | exact .tail _ (.tail _ (.head _)) | exact .tail _ (.tail _ (.tail _ (.head _))) | exact .tail _ (.tail _ (.tail _ (.tail _ (.head _)))) | exact .tail _ (.tail _ (.tail _ (.tail _ (.tail _ (.head _))))) | exact .tail _ (.tail _ (.tail _ (.tail _ (.tail _ (.tail _ (.head _)))))) | exact .tail _ (.tail _ (.tail _ (.tail _ (.tail _ (.tail _ (.tail _ (.head _))))))) | exact .tail _ (.tail _ (.tail _ (.tail _ (.tail _ (.tail _ (.tail _ (.tail _ (.head _)))))))) | exact .tail _ (.tail _ (.tail _ (.tail _ (.tail _ (.tail _ (.tail _ (.tail _ (.tail _ (.head _))))))))) | exact .tail _ (.tail _ (.tail _ (.tail _ (.tail _ (.tail _ (.tail _ (.tail _ (.tail _ (.tail _ (.head _)))))))))) | exact .tail _ (.tail _ (.tail _ (.tail _ (.tail _ (.tail _ (.tail _ (.tail _ (.tail _ (.tail _ (.tail _ (.head _))))))))))))) 6 infoQ rfl rfl (by simp [Value.oneCell']) ?_; intro w2 hw2; (first | (replace hv := hv.set 0 rfl hw2) | (replace hv := hv.set 1 rfl hw2) | (replace hv := hv.set 2 rfl hw2) | (replace hv := hv.set 3 rfl hw2) | (replace hv := hv.set 4 rfl hw2) | (replace hv := hv.set 5 rfl hw2) | (replace hv := hv.set 6 rfl hw2) | (replace hv := hv.set 7 rfl hw2) | (replace hv := hv.set 8 rfl hw2) | (replace hv := hv.set 9 rfl hw2) | (replace hv := hv.set 10 rfl hw2) | (replace hv := hv.set 11 rfl hw2)); clear hw2; simp only [List.set] at hv)
    | (go_at_call 12; (with_reducible refine (Get_N hv (HM.out.mono HSB.out)).mono ?_); rintro e w1 ⟨gb, gc, R2, rfl, hv1, hs1⟩; replace hv := hv1; have HS2 := Lib.hid hs1; clear hv1 hs1))
  have hv0 := hv
  clear hv
  have hv : Mem w0 _ ([(b10, #[.int .i64 0, .int .i64 1, .slice fa 1 fc, .int .u16 0, .int .u16 0, .slice none 0 0]), (b9, #[.slice (some ⟨vb, 0, none⟩) 80 vc]), (b7, #[.int .i64 0, .int .i64 0, .slice none 0 0, .int .u16 0, .int .u16 0, .slice none 0 0, .int .i64 0, .bool false]), (b6, #[.slice none 0 0])] ++ ((b3, #[.slice (some ⟨mb, 0, none⟩) 80 mc]) :: L)) _ := hv0
  clear hv0
  try simp only [Act.put]
  refine Bny.wp_region_walk [(b10, #[.int .i64 0, .int .i64 1, .slice fa 1 fc, .int .u16 0, .int .u16 0, .slice none 0 0]), (b9, #[.slice (some ⟨vb, 0, none⟩) 80 vc]), (b7, #[.int .i64 0, .int .i64 0, .slice none 0 0, .int .u16 0, .int .u16 0, .slice none 0 0, .int .i64 0, .bool false]), (b6, #[.slice none 0 0])] ((b3, #[.slice (some ⟨mb, 0, none⟩) 80 mc]) :: L) [⟨[1001], none⟩, ⟨[1000], none⟩, ⟨[], none⟩, ⟨[], none⟩, ⟨[1003], some 1003⟩, ⟨[1002], some 1002⟩, ⟨[], none⟩] [.val, .val, .val, .val, .put, .put, .val] (by kernel_rfl) (by kernel_rfl) hv ?_
  simp only [List.length_cons, List.length_nil, Nat.zero_add, Any.someVals]
  iterate 7 apply Exists.intro
  repeat (first
    | (refine Bny.E_off rfl ?_; simp only [Act.put, List.setIfInBounds_toArray, List.set_cons_succ, List.set_cons_zero])
    | ((with_reducible refine Bny.at_estore (T := 25) ?_); refine Bny.E_putv (T := 25) rfl rfl rfl rfl rfl rfl 1 infoM rfl rfl (by simp [Value.oneCell']) ?_; simp only [Act.put, List.setIfInBounds_toArray, List.set_cons_succ, List.set_cons_zero])
    | ((with_reducible refine Bny.at_estore (T := 32) ?_); refine Bny.E_putv (T := 32) rfl rfl rfl rfl rfl rfl 8 infoV rfl rfl (by simp [Value.oneCell']) ?_; simp only [Act.put, List.setIfInBounds_toArray, List.set_cons_succ, List.set_cons_zero])
    | (apply Bny.E_pureq rfl rfl rfl
       case h => intro K hK; go_big_quiet_op; (refine hK _ ?_; rfl)
       case hr => exact fun _ => rfl
       simp only [Act.put, List.setIfInBounds_toArray, List.set_cons_succ, List.set_cons_zero])
    | (apply Bny.E_val rfl rfl rfl rfl
       case h =>
         intro E' hA K hK
         first
           | ((with_reducible refine Bny.at_qload (T := 25) ?_); refine Bny.q_ldv 1001 hA (by decide) rfl rfl 1 _ Try.underlying25 rfl infoM (by decide) rfl ?_; refine hK _ ?_; rfl)
           | ((with_reducible refine Bny.at_qload (T := 30) ?_); refine Bny.q_ldv 1000 hA (by decide) rfl rfl 6 _ Try.underlying30 rfl infoQ (by decide) rfl ?_; refine hK _ ?_; rfl)
           | ((with_reducible refine Any.at_qbuild (T := 32) ?_); refine Any.q_build _ rfl (built_vrng _ fc) ?_; refine hK _ ?_; rfl)
           | (go_big_quiet_op; first
             | (refine hK _ ?_; rfl)
             | (refine ⟨_, fun _ _ => rfl, ?_⟩; refine hK _ ?_; rfl)
             | (apply Exists.intro; refine ⟨fun w1 hw1 => ?_, ?_⟩; · (first
                 | fail)
                refine hK _ ?_; rfl))
       case hD => rfl
       simp only [Act.put, List.setIfInBounds_toArray, List.set_cons_succ, List.set_cons_zero]))
  try any_goals exact undef
  refine Bny.E_nil ?_
  intro w9 hE9
  replace hv : Mem w0 w9 ([(b10, #[.int .i64 0, .int .i64 1, .slice fa 1 fc, .int .u16 0, .int .u16 0, .slice none 0 0]), (b9, #[.slice (some ⟨vb, 0, none⟩) 80 vc]), (b7, #[.int .i64 0, .int .i64 1, .slice fa 1 fc, .int .u16 0, .int .u16 0, .slice none 0 0, .int .i64 60, .bool false]), (b6, #[.slice (some ⟨vb, 0, none⟩) 80 vc])] ++ ((b3, #[.slice (some ⟨mb, 0, none⟩) 80 mc]) :: L)) _ := hE9.mem0 [1000, 1001, 1002, 1003] (by decide)
  clear hE9
  simp only [List.cons_append, List.nil_append] at hv
  go_wp2
  try simp only [Exit.inBlock, Exit.then]
  refine ret_cct (v := .agg #[.slice (some ⟨vb, 0, none⟩) 80 vc]) (v' := .agg #[.int .i64 0, .int .i64 1, .slice fa 1 fc, .int .u16 0, .int .u16 0, .slice none 0 0, .int .i64 60, .bool false]) (v1 := .int .i64 0) rfl rfl rfl (read_row _ b6 25 _ (hv.vars.row (b := b6) (by first | exact .head _ | exact .tail _ (.head _) | exact .tail _ (.tail _ (.head _)) | exact .tail _ (.tail _ (.tail _ (.head _))) | exact .tail _ (.tail _ (.tail _ (.tail _ (.head _)))) | exact .tail _ (.tail _ (.tail _ (.tail _ (.tail _ (.head _))))) | exact .tail _ (.tail _ (.tail _ (.tail _ (.tail _ (.tail _ (.head _)))))) | exact .tail _ (.tail _ (.tail _ (.tail _ (.tail _ (.tail _ (.tail _ (.head _))))))))) 1 _ Try.underlying25 rfl infoM (by decide) rfl) (read_row _ b7 32 _ (hv.vars.row (b := b7) (by first | exact .head _ | exact .tail _ (.head _) | exact .tail _ (.tail _ (.head _)) | exact .tail _ (.tail _ (.tail _ (.head _))) | exact .tail _ (.tail _ (.tail _ (.tail _ (.head _)))) | exact .tail _ (.tail _ (.tail _ (.tail _ (.tail _ (.head _))))) | exact .tail _ (.tail _ (.tail _ (.tail _ (.tail _ (.tail _ (.head _)))))) | exact .tail _ (.tail _ (.tail _ (.tail _ (.tail _ (.tail _ (.tail _ (.head _))))))))) 8 _ Try.underlying32 rfl infoV (by decide) rfl) rfl rfl ?_
  exact ⟨vb, vc, fa, fc, R2, M, free, rfl, hv.keep (by exact List.sublist_append_right [_, _, _, _, _] L), HD.out.mono HS2.out, HFL.out, fun x hx => HS2.out x (HSB.out x hx)⟩
end Go.Proofs.Ytcelehhaggoijaa
end
