/-
 TcpOpens: two ends come together, whichever segments are lost.
-/
import Derived.Test.YthenepdbgeafkaaTcPb
import Derived.Test.YthenepdbgeafkaaGAD
set_option maxRecDepth 100000
set_option maxHeartbeats 30000000
set_option linter.unusedVariables false
set_option linter.unusedSimpArgs false
namespace Go.Proofs.Tp
open Go Go.RowKit Go.Proofs.Wi
def tZ : T := ⟨0, 0, 0, 0, 0, 0, 0, [], 0, false, false, ⟨0, [], []⟩, false, 0, 0, 0, 0⟩
theorem zp_row : (#[.int .i64 0, .int .i64 0, .int .u32 0, .int .i64 0, .int .u32 0, .int .u32 0, .int .u32 0, .slice none 0 0, .int .i64 0, .bool false, .bool false, .int .u32 0, .slice none 0 0, .slice none 0 0, .bool false, .int .u64 0, .int .i64 0, .int .i64 0, .int .i64 0, .slice none 0 0, .int .i64 0, .slice none 0 0, .int .i64 0, .int .i64 0, .int .u32 0, .int .i64 0, .int .u32 0, .int .u32 0, .int .u32 0, .slice none 0 0, .int .i64 0, .bool false, .bool false, .int .u32 0, .slice none 0 0, .slice none 0 0, .bool false, .int .u64 0, .int .i64 0, .int .i64 0, .int .i64 0, .slice none 0 0, .int .i64 0, .slice none 0 0] : Array Value) = rowP (rowT tZ (.slice none 0 0) (.slice none 0 0) (.slice none 0 0)) (.slice none 0 0) 0 (.slice none 0 0) (rowT tZ (.slice none 0 0) (.slice none 0 0) (.slice none 0 0)) (.slice none 0 0) 0 (.slice none 0 0) := by
 unfold rowP rowT tZ
 simp
theorem connect_out (lo ip po iss now : Nat) : (connect lo ip po iss now).out.length = 1 := rfl
theorem accept_out (lo ip iss now : Nat) (g : G) : (accept lo ip iss now g).out.length = 1 := rfl
theorem conG_ck {own peer lo po : Nat} {g : Ga} (hl : 1 ≤ lo ∧ lo ≤ 65535) (hp : 1 ≤ po ∧ po ≤ 65535) (h : smallG g = true) : chkG (conG own peer lo po g) = true ∧ (conG own peer lo po g).seq < 4294967296 ∧ (conG own peer lo po g).ack < 4294967296 := by
 obtain ⟨h1, h2, h3⟩ := smallG_facts h
 refine ⟨?_, Tp.u32_lt _, ?_⟩
 · unfold chkG conG
   rw [decide_eq_true_eq]
   refine ⟨hl.1, hl.2, hp.1, hp.2, ?_, by show 256 ≤ 65535; decide, by show 0 ≤ 64; decide⟩
   show g.fl ≤ 31
   omega
 · show (if has g.fl 16 then Tp.u32 (peer + g.ack) else 0) < 4294967296
   split
   · exact Tp.u32_lt _
   · decide
section
variable {iss irs k : Nat} {s : Sa} {ta tb : T} {qa qb r : List G} {g : G} {R : LR} {sa : Option Addr} {sn sk : Nat}
theorem OpI.segB (h : OpI iss irs s ta tb qa (g :: r)) (hc : comes k s = true) (hd : (1, Value.slice sa sn sk, cellsB g.data) ∈ R) : InG R g sa sn sk := by
 have hg : g ∈ s.qb.map (conG iss irs 7 80) := by rw [← h.fqb]; exact List.mem_cons_self ..
 obtain ⟨x, hx, rfl⟩ := List.mem_map.1 hg
 obtain ⟨h1, h2, h3⟩ := conG_ck (own := iss) (peer := irs) (lo := 7) (po := 80) (by decide) (by decide) ((smallA_facts (comes_small hc)).2.2.2.1 x hx)
 exact ⟨hd, h1, h2, h3⟩
theorem OpI.segA (h : OpI iss irs s ta tb (g :: r) qb) (hc : comes k s = true) (hd : (1, Value.slice sa sn sk, cellsB g.data) ∈ R) : InG R g sa sn sk := by
 have hg : g ∈ s.qa.map (conG irs iss 80 7) := by rw [← h.fqa]; exact List.mem_cons_self ..
 obtain ⟨x, hx, rfl⟩ := List.mem_map.1 hg
 obtain ⟨h1, h2, h3⟩ := conG_ck (own := irs) (peer := iss) (lo := 80) (po := 7) (by decide) (by decide) ((smallA_facts (comes_small hc)).2.2.1 x hx)
 exact ⟨hd, h1, h2, h3⟩
theorem OpI.time2 (h : OpI iss irs s ta tb [] []) (hc : comes (k + 1) s = true) (hn : ¬ (ta.st = 3 ∧ s.begun = true ∧ tb.st = 3)) (hb : s.begun = true) {n : Nat} (hnx : n = (if 0 < ta.tm ∧ 0 < tb.tm then min ta.tm tb.tm else max ta.tm tb.tm)) :
   n ≠ 0 ∧ n ≤ 2000 ∧ ∃ s', OpI iss irs s' (tick n ⟨ta, []⟩).t (tick n ⟨tb, []⟩).t (tick n ⟨tb, []⟩).out (tick n ⟨ta, []⟩).out ∧ comes k s' = true ∧ s'.begun = s.begun ∧ s'.now = n ∧ s'.la = s.la ∧ s'.lb = s.lb := by
 have h1 := h.time hc hn (n := n) (by rw [if_pos hb]; exact hnx)
 rwa [if_pos hb, if_pos hb] at h1
theorem OpI.time1 (h : OpI iss irs s ta tb [] []) (hc : comes (k + 1) s = true) (hn : ¬ (ta.st = 3 ∧ s.begun = true ∧ tb.st = 3)) (hb : s.begun = false) {n : Nat} (hnx : n = ta.tm) :
   n ≠ 0 ∧ n ≤ 2000 ∧ ∃ s', OpI iss irs s' (tick n ⟨ta, []⟩).t tb [] (tick n ⟨ta, []⟩).out ∧ comes k s' = true ∧ s'.begun = s.begun ∧ s'.now = n ∧ s'.la = s.la ∧ s'.lb = s.lb := by
 have hb' : ¬ s.begun = true := by rw [hb]; decide
 have h1 := h.time hc hn (n := n) (by rw [if_neg hb', if_neg (by omega), hnx]; omega)
 rwa [if_neg hb', if_neg hb'] at h1
end
theorem slots5 {b : Nat} {r : Array Value} {s1 s2 s3 s4 : Bny.Slot} (h1 : s1.reads = []) (h2 : s2.reads = []) (h3 : s3.reads = []) (h4 : s4.reads = []) : ∀ s ∈ [Bny.Slot.row b r, s1, s2, s3, s4], s.reads = [] := by
 intro s hs
 simp only [List.mem_cons, List.not_mem_nil, or_false] at hs
 rcases hs with rfl | rfl | rfl | rfl | rfl
 · rfl
 · exact h1
 · exact h2
 · exact h3
 · exact h4
theorem slots7 {b b' b9 : Nat} {r r' r9 : Array Value} {s1 s2 s3 s4 : Bny.Slot} (h1 : s1.reads = []) (h2 : s2.reads = []) (h3 : s3.reads = []) (h4 : s4.reads = []) : ∀ s ∈ [Bny.Slot.row b r, Bny.Slot.row b' r', Bny.Slot.row b9 r9, s1, s2, s3, s4], s.reads = [] := by
 intro s hs
 simp only [List.mem_cons, List.not_mem_nil, or_false] at hs
 rcases hs with rfl | rfl | rfl | rfl | rfl | rfl | rfl
 · rfl
 · rfl
 · rfl
 · exact h1
 · exact h2
 · exact h3
 · exact h4
theorem QQ.app {R : LR} {gs g5 : List Gv} {q q2 : List G} {v : Value} {sl : Bny.Slot} (h : Bny.QS 7 (cellsG gs ++ cellsG g5) v sl) (ha : AllG R gs) (hb : AllG R g5) (e1 : gs.map (·.1) = q) (e2 : g5.map (·.1) = q2) : QQ R (q ++ q2) v sl :=
 ⟨gs ++ g5, by rw [cellsG_app]; exact h, fun y hy => by
   rcases List.mem_append.1 hy with hy | hy
   · exact ha y hy
   · exact hb y hy, by rw [List.map_append, e1, e2]⟩
theorem lit0 {w0 w w' : World} {L : LV} {R : LR} {b : Nat} (h : Mem w0 w L R) (hm : MadeAt w w' b #[]) : ∃ R', Mem w0 w' L R' ∧ (∀ x ∈ R, x ∈ R') ∧ QO R' (.slice (some ⟨b, 0, none⟩) 0 0) [] :=
 ⟨_, h.bsl' (k := 7) (n := 0) (c := []) hm rfl rfl (Nat.zero_le _), fun x hx => Mem.s hx, [], Mem.z, fun _ h => (List.not_mem_nil h).elim, rfl⟩
end Go.Proofs.Tp
namespace Go.Proofs.Ythenepdbgeafkaa
open Go.Proofs.Wi Go.RowKit Go.Proofs Go.Proofs.Tp
theorem Connect_Q1 {w0 w : World} {L : LV} {R : LR} (hv : Mem w0 w L R) {iss : Nat} (his : iss < 4294967296) : Calls Try.prog 18 #[.int .i64 7, .int .u32 5, .int .i64 80, .int .u32 iss, .int .u64 1] w (QPO (fun a b => .tuple #[a, b]) w0 L R (connect 7 5 80 iss 1)) := by
 refine (Connect_T hv (lo := 7) (ip := 5) (po := 80) (nw := 1) (by decide) (by decide) (by decide) his).mono ?_
 rintro e w' ⟨R', vt, ov, he, h⟩
 exact QPO.of h he
theorem Accept_Q1 {w0 w : World} {L : LV} {R : LR} (hv : Mem w0 w L R) {irs nw : Nat} {g : G} {sa : Option Addr} {sn sk : Nat} (hg : InG R g sa sn sk) (hb : has g.fl 2 = true ∧ has g.fl 16 = false ∧ has g.fl 4 = false ∧ g.dst = 80) (his : irs < 4294967296) : Calls Try.prog 20 #[.int .i64 80, .int .u32 6, .int .u32 irs, .agg #[.int .i64 g.src, .int .i64 g.dst, .int .u32 g.seq, .int .u32 g.ack, .int .i64 g.fl, .int .i64 g.wnd, .slice sa sn sk], .int .u64 nw] w (QP (fun a b => .tuple #[a, b, .bool true]) w0 L R (accept 80 6 irs nw g)) := by
 refine (Accept_T hv (lo := 80) (ip := 6) (nw := nw) hg hb.2.2.2 hb.1 hb.2.1 hb.2.2.1 (by decide) his).mono ?_
 rintro e w' ⟨R', vt, ov, he, h⟩
 exact QP.of h he
theorem Opens_c (za : Option Addr) (ln lc iss irs : Nat) (bl : List Bool) (w : World) (R : LR) (hv : Mem w w [] R) (hl : (1, .slice za ln lc, bl.map Value.bool) ∈ R) (his : iss < 4294967296) (hir : irs < 4294967296) : Calls Try.prog 5 #[.int .u32 iss, .int .u32 irs, .slice za ln lc] w (fun e w' => e = .returned (.bool true) ∧ New w w') := by
 have hv2 := (hv.add (k := 2) (v := .slice none 0 0) (c := cellsP []) (Rd.nil _ _) (fun h => absurd rfl h)).add (k := 1) (v := .slice none 0 0) (c := cellsB []) (Rd.nil _ _) (fun h => absurd rfl h)
 obtain ⟨R2, hR2⟩ : ∃ R2, R2 = (1, Value.slice none 0 0, cellsB []) :: (2, Value.slice none 0 0, cellsP []) :: R := ⟨_, rfl⟩
 rw [← hR2] at hv2
 clear hv
 have hv := hv2
 clear hv2
 have HIZ : Hid (InC R2 tZ none 0 0 none 0 0 none 0 0 []) := Lib.hid (by rw [hR2]; exact ⟨Mem.z, ⟨Mem.z, Mem.s Mem.z, fun p hp => (List.not_mem_nil hp).elim, rfl⟩, rfl, ⟨by decide, by decide, by decide, by decide, by decide⟩⟩)
 have HLM : Hid ((1, .slice za ln lc, bl.map Value.bool) ∈ R2) := Lib.hid (by rw [hR2]; exact Mem.s (Mem.s hl))
 have hst := fun tb : T => OpI.start (iss := iss) (irs := irs) (tb := tb) his
 obtain ⟨c1, hc1⟩ : ∃ c, connect 7 5 80 iss 1 = c := ⟨_, rfl⟩
 have HCO : Hid ((connect 7 5 80 iss 1).out.length = 1) := Lib.hid (connect_out _ _ _ _ _)
 have HST := Lib.hid (hst tZ)
 have HIS := Lib.hid his
 have HIR := Lib.hid hir
 have y0 : (((1 : Nat) : Int) != 1) = false := rfl
 clear hl his hir hst hR2 hc1 c1
 go_enter Try.func5, Try.ntmps5
 try simp only [List.append_eq, List.cons_append, List.nil_append]
 go_wp2_with (first
   | (go_at_call 18; (with_reducible refine (Connect_Q1 hv HIS.out).mono ?_); rintro e w1 ⟨R3, da1, dn1, dk1, ba1, bn1, bk1, pa1, pn1, pk1, l1, oa1, on1, ok1, sl1, rfl, hm4, hs3, hi3, hq3⟩; clear hv; have hv := hm4; clear hm4; obtain ⟨_, _, _, e4, hon⟩ := hq3.slice'; cases e4; rw [HCO.out] at hon; subst hon; have HS3 := Lib.hid hs3; have HI3 := Lib.hid hi3; have HQ3 := Lib.hid hq3; clear hs3 hi3 hq3; simp only [List.append_assoc, List.cons_append, List.nil_append] at hv)
   | ((with_reducible refine gAl 31 7 ?_); refine nwB hv #[.int .i64 0, .int .i64 0, .int .u32 0, .int .i64 0, .int .u32 0, .int .u32 0, .int .u32 0, .slice none 0 0, .int .i64 0, .bool false, .bool false, .int .u32 0, .slice none 0 0, .slice none 0 0, .bool false, .int .u64 0, .int .i64 0, .int .i64 0, .int .i64 0] 31 ?_; clear hv; intro b_7 w2 hv)
   | ((with_reducible refine gSt 31 ?_); refine stV hv b_7 19 infoT19 ?_ (h1 := (rowT_one _ _ _ _ _ _ _ _ _ _)); clear hv; intro w2 hv)
   | ((with_reducible refine gAl 35 9 ?_); refine nwB hv #[.int .i64 0, .int .i64 0, .int .u32 0, .int .i64 0, .int .u32 0, .int .u32 0, .int .u32 0, .slice none 0 0, .int .i64 0, .bool false, .bool false, .int .u32 0, .slice none 0 0, .slice none 0 0, .bool false, .int .u64 0, .int .i64 0, .int .i64 0, .int .i64 0, .slice none 0 0, .int .i64 0, .slice none 0 0, .int .i64 0, .int .i64 0, .int .u32 0, .int .i64 0, .int .u32 0, .int .u32 0, .int .u32 0, .slice none 0 0, .int .i64 0, .bool false, .bool false, .int .u32 0, .slice none 0 0, .slice none 0 0, .bool false, .int .u64 0, .int .i64 0, .int .i64 0, .int .i64 0, .slice none 0 0, .int .i64 0, .slice none 0 0] 35 ?_; clear hv; intro b_9 w2 hv; rw [zp_row] at hv)
   | ((with_reducible refine gLd 31 ?_); refine ldV hv b_7 19 Try.underlying31 infoT19 ?_)
   | ((with_reducible refine at_store (T := 31) ?_); refine wl_stp rfl b_9 0 rfl _ rfl _ hv.vars.ro hv.vars.so 19 infoT19 rfl (by rw [rowP_size (rowT_size _ _ _ _) (rowT_size _ _ _ _)]; decide) (rowT_one _ _ _ _ _ _ _ _ _ _) _ (rowP_s0 (rowT_size _ _ _ _) (rowT_size _ _ _ _) (rowT_size _ _ _ _)) ?_; intro w2 hw2; replace hv := hv.sets (by repeat first | exact .z | apply SetM.s) hw2; clear hw2)
   | ((with_reducible refine gSt 32 ?_); refine stC hv b_9 41 (.slice oa1 1 ok1) ?_ (hs := ⟨SetM.z, rowP_set41 (rowT_size _ _ _ _) (rowT_size _ _ _ _)⟩) (h0 := by rw [rowP_size (rowT_size _ _ _ _) (rowT_size _ _ _ _)]; decide); clear hv; intro w2 hv))
 go_loopw [10, 11, 12, 13] (fun nv kv bv sv wr => ∃ (n k nw la lb : Nat) (bg : Bool) (s : Sa) (ta tb : T) (qa qb : List G) (R5 : LR), sv = .int .i64 n ∧ kv = .int .i64 k ∧ nv = .int .u64 nw ∧ bv = .bool bg ∧ n ≤ 200 ∧ k ≤ n ∧ PM w wr b_9 ta tb qa qb la lb [] [] R5 ∧ Hid (OpI iss irs s ta tb qa qb) ∧ Hid (comes (200 - n) s = true) ∧ Hid (bg = false → tb = tZ ∧ qa = [] ∧ ta.st ≠ 3) ∧ Hid (qa.length + qb.length ≤ 302 * n + 1) ∧ Hid (s.begun = bg ∧ s.now = nw ∧ s.la = la ∧ s.lb = lb) ∧ Hid (∀ x ∈ R2, x ∈ R5)) (fun _ _ _ sv _ => 200 - (intOf sv).toNat)
 case atStart =>
   exact ⟨0, 0, 1, 0, 0, false, startA, _, tZ, [], _, R3, rfl, rfl, rfl, rfl, Nat.zero_le _, Nat.le_refl _, ⟨da1, dn1, dk1, ba1, bn1, bk1, pa1, pn1, pk1, l1, none, 0, 0, none, 0, 0, none, 0, 0, [], _, _, _, _, .none, sl1, .none, .none, (hv.keep (by first | exact List.Sublist.cons_cons _ (List.sublist_cons_self ..) | exact List.Sublist.refl _)).castL (by simp [Bny.Slot.rows]), HI3.out, HIZ.out.mono HS3.out, QQ.empty _, HQ3.out, .inl ⟨none, rfl, rfl, rfl⟩, .inl ⟨none, rfl, rfl, rfl⟩⟩, HST, Lib.hid they_come, Lib.hid (fun _ => ⟨rfl, rfl, by rw [connect_st]; decide⟩), Lib.hid (by rw [HCO.out]; decide), Lib.hid ⟨rfl, rfl, rfl, rfl⟩, HS3⟩
 case round =>
   clear hv
   obtain ⟨n, k, nw, la, lb, bg, s, ta, tb, qa, qb, R5, rfl, rfl, rfl, rfl, hn200, hkn, hpm, HK, HCM, HTZ, HQL, HSE, HS⟩ := hrel
   obtain ⟨da1, dn1, dk1, ba1, bn1, bk1, pa1, pn1, pk1, l1, da2, dn2, dk2, ba2, bn2, bk2, pa2, pn2, pk2, l2, x1, x2, y1, y2, s1, s2, t1, t2, hv, hI1, hI2, hQ1, hQ2, hG1, hG2⟩ := hpm
   have HI1 := Lib.hid hI1
   have HI2 := Lib.hid hI2
   obtain ⟨ya1, yn1, yk1, rfl, _⟩ := hG1.own.slice
   obtain ⟨ya2, yn2, yk2, rfl, _⟩ := hG2.own.slice
   clear hI1 hI2
   by_cases hn : n < 200
   · have y7 : decide ((n : Int) < 200) = true := decide_eq_true (by omega)
     have z7 : decide (n < 200) = true := decide_eq_true hn
     obtain ⟨m, hm⟩ : ∃ m, 199 - n = m := ⟨_, rfl⟩
     have hcm : comes (m + 1) s = true := by
       have h := HCM.out
       rwa [show 200 - n = m + 1 from by omega] at h
     by_cases hdone : ta.st = 3 ∧ s.begun = true ∧ tb.st = 3
     · as_aux_lemma =>
       obtain ⟨d1, d2, d3⟩ := hdone
       obtain rfl : bg = true := by rw [← HSE.out.1]; exact d2
       obtain ⟨e1, e2⟩ := HK.out.done hcm d1 d2 d3
       have y1 : ((ta.st : Int) == 3) = true := by rw [d1]; rfl
       have y2 : ((tb.st : Int) == 3) = true := by rw [d3]; rfl
       have q1 : IntKind.u32.wrap ((irs : Int) + 1) = (ta.inn.next : Int) := by rw [e1]; unfold Tp.u32; simp [IntKind.wrap, IntKind.bits, IntKind.signed]
       have q2 : IntKind.u32.wrap ((iss : Int) + 1) = (tb.inn.next : Int) := by rw [e2]; unfold Tp.u32; simp [IntKind.wrap, IntKind.bits, IntKind.signed]
       have y3 : ((ta.inn.next : Int) == (ta.inn.next : Int)) = true := by simp
       have y4 : ((tb.inn.next : Int) == (tb.inn.next : Int)) = true := by simp
       clear d1 d2 d3 e1 e2 hcm hm hn hn200 hkn
       go_wp2_with (first
         | ((with_reducible refine gLd 3 ?_); refine ldC hv b_9 0 (.int .i64 ta.st) Try.underlying3 ?_ (hc := (rowP_a (rowT_size _ _ _ _) (by decide)).trans rfl))
         | ((with_reducible refine gLd 3 ?_); refine ldC hv b_9 22 (.int .i64 tb.st) Try.underlying3 ?_ (hc := (rowP_b (rowT_size _ _ _ _) (rowT_size _ _ _ _) (k := 0) (by decide)).trans rfl))
         | ((with_reducible refine gLd 22 ?_); refine ldC hv b_9 11 (.int .u32 ta.inn.next) Try.underlying22 ?_ (hc := (rowP_a (rowT_size _ _ _ _) (by decide)).trans rfl))
         | ((with_reducible refine gLd 22 ?_); refine ldC hv b_9 33 (.int .u32 tb.inn.next) Try.underlying22 ?_ (hc := (rowP_b (rowT_size _ _ _ _) (rowT_size _ _ _ _) (k := 11) (by decide)).trans rfl))
         | (go_at_call 9; (with_reducible refine (heads26 _).mono ?_); rintro e w1 ⟨rfl, hn1⟩; replace hv := hv.new hn1; clear hn1))
       go_ret
       exact ⟨rfl, hv.below⟩
     · have hsm := smallA_facts (comes_small hcm)
       have hl2a : la ≤ 2 := by rw [← HSE.out.2.2.1]; exact hsm.2.2.2.2.2.2.1
       have hl2b : lb ≤ 2 := by rw [← HSE.out.2.2.2]; exact hsm.2.2.2.2.2.2.2
       have HCC := Lib.hid hcm
       have HDN := Lib.hid hdone
       clear hsm hcm hdone
       have q9 : IntKind.i64.wrap ((n : Int) + 1) = ((n + 1 : Nat) : Int) := by rw [IntWalk.i64_in _ (by omega)]; omega
       cases bg with
       | false =>
         have hz := HTZ.out rfl
         have y1 : ((ta.st : Int) == 3) = false := by
           rw [beq_eq_false_iff_ne]
           have := hz.2.2
           omega
         clear hz
         rcases qb with _ | ⟨g, r⟩
         · obtain rfl : qa = [] := (HTZ.out rfl).2.1
           as_aux_lemma =>
           have HZ := Lib.hid (HTZ.out rfl)
           obtain ⟨xa1, n1, xk1, rfl, hn1⟩ := hQ1.slice'
           obtain ⟨xa2, n2, xk2, rfl, hn2⟩ := hQ2.slice'
           have y2 : decide ((0 : Int) < (n2 : Int)) = false := decide_eq_false (by rw [← hn2]; decide)
           have z2 : decide (0 < n2) = false := decide_eq_false (by rw [← hn2]; decide)
           have y3 : ((n1 : Int) == 0) = true := by rw [← hn1]; rfl
           have HCA := Lib.hid (HK.out.chkA HIS.out HCC.out)

           have HQ1 := Lib.hid hQ1
           have HQ2 := Lib.hid hQ2
           have HG1 := Lib.hid hG1
           have HG2 := Lib.hid hG2
           clear hn1 hn2 hQ1 hQ2 hG1 hG2 hl2a hl2b
           go_wp2_with (first
             | ((with_reducible refine gLd 3 ?_); refine ldC hv b_9 0 (.int .i64 ta.st) Try.underlying3 ?_ (hc := (rowP_a (rowT_size _ _ _ _) (by decide)).trans rfl))
             | ((with_reducible refine gLd 3 ?_); refine ldC hv b_9 22 (.int .i64 tb.st) Try.underlying3 ?_ (hc := (rowP_b (rowT_size _ _ _ _) (rowT_size _ _ _ _) (k := 0) (by decide)).trans rfl))
             | ((with_reducible refine gLd 32 ?_); refine ldC hv b_9 41 (.slice xa2 n2 xk2) Try.underlying32 ?_ (hc := rowP_i1 (rowT_size _ _ _ _) (rowT_size _ _ _ _)))
             | ((with_reducible refine gLd 32 ?_); refine ldC hv b_9 19 (.slice xa1 n1 xk1) Try.underlying32 ?_ (hc := rowP_i0 (rowT_size _ _ _ _))))
           replace hv : Mem w _ ([(b_9, (rowP (rowT ta (.slice da1 dn1 dk1) (.slice ba1 bn1 bk1) (.slice pa1 pn1 pk1)) (.slice xa1 n1 xk1) la (.slice ya1 yn1 yk1) (rowT tb (.slice da2 dn2 dk2) (.slice ba2 bn2 bk2) (.slice pa2 pn2 pk2)) (.slice xa2 n2 xk2) lb (.slice ya2 yn2 yk2)))] ++ (s1.rows ++ (s2.rows ++ (t1.rows ++ t2.rows)))) _ := hv
           try simp only [Act.put]
           refine Bny.wp_region_walk _ _ [⟨[], none⟩, ⟨[], none⟩, ⟨[], none⟩, ⟨[1000], none⟩, ⟨[], none⟩, ⟨[], none⟩, ⟨[], none⟩, ⟨[1000], none⟩] [.val] (by kernel_rfl) (by kernel_rfl) hv ?_
           simp only [List.length_cons, List.length_nil, Nat.zero_add, Any.someVals]
           iterate 10 apply Exists.intro
           repeat (first
             | (refine Bny.E_off rfl ?_; simp only [Act.put, sia, scs, scz])
             | ((with_reducible refine Bny.gE 28 ?_); refine Bny.eC 1000 (.int .u64 ta.tm) Try.underlying28 ?_ (hc := (rowP_a (rowT_size _ _ _ _) (k := 15) (by decide)).trans rfl); simp only [Act.put, sia, scs, scz])
             | ((with_reducible refine Bny.gE 28 ?_); refine Bny.eC 1000 (.int .u64 tb.tm) Try.underlying28 ?_ (hc := (rowP_b (rowT_size _ _ _ _) (rowT_size _ _ _ _) (k := 15) (by decide)).trans rfl); simp only [Act.put, sia, scs, scz])
             | (apply Bny.E_pureq rfl rfl rfl
                case h => intro K hK; go_big_quiet_op; (refine hK _ ?_; rfl)
                case hr => exact fun _ => rfl
                simp only [Act.put, sia, scs, scz])
             | (apply Bny.E_val rfl rfl rfl rfl
                case h =>
                  intro E' hA K hK
                  first
                    | (go_big_quiet_op; first
                      | (refine hK _ ?_; rfl)
                      | (refine ⟨_, fun _ _ => rfl, ?_⟩; refine hK _ ?_; rfl)
                      | (apply Exists.intro; refine ⟨fun w1 hw1 => ?_, ?_⟩; · (first
                          | fail)
                         refine hK _ ?_; rfl))
                case hD => rfl
                simp only [Act.put, sia, scs, scz]))
           try any_goals exact undef
           refine Bny.E_nil ?_
           intro w9 hE9
           replace hv : Mem w w9 ([(b_9, (rowP (rowT ta (.slice da1 dn1 dk1) (.slice ba1 bn1 bk1) (.slice pa1 pn1 pk1)) (.slice xa1 n1 xk1) la (.slice ya1 yn1 yk1) (rowT tb (.slice da2 dn2 dk2) (.slice ba2 bn2 bk2) (.slice pa2 pn2 pk2)) (.slice xa2 n2 xk2) lb (.slice ya2 yn2 yk2)))] ++ (s1.rows ++ (s2.rows ++ (t1.rows ++ t2.rows)))) R5 := hE9.mem0 [1000] (by decide)
           clear hE9
           simp only [List.cons_append, List.nil_append] at hv
           have htz : tb.tm = 0 := by rw [HZ.out.1]; rfl
           obtain ⟨N, hN⟩ : ∃ N, N = ta.tm := ⟨_, rfl⟩
           obtain ⟨hN0, hN2, s', hk', hc', e1, e2, e3, e4⟩ := HK.out.time1 HCC.out HDN.out HSE.out.1 hN
           have HK' := Lib.hid hk'
           have HC' := Lib.hid hc'
           have HE' := Lib.hid (And.intro e1 (And.intro e2 (And.intro e3 e4)))
           have y23 : ((N : Int) == 0) = false := by rw [beq_eq_false_iff_ne]; omega
           have y24 : decide ((2000 : Int) < (N : Int)) = false := decide_eq_false (by omega)
           have z24 : decide (2000 < N) = false := decide_eq_false (by omega)
           clear hk' hc' e1 e2 e3 e4
           have q20 : max (ta.tm : Int) (tb.tm : Int) = (N : Int) := by omega
           have y21 : decide ((0 : Int) < (ta.tm : Int)) = true := decide_eq_true (by omega)
           have y22 : decide ((0 : Int) < (tb.tm : Int)) = false := decide_eq_false (by omega)
           have z21 : decide (0 < ta.tm) = true := decide_eq_true (by omega)
           have z22 : decide (0 < tb.tm) = false := decide_eq_false (by omega)
           clear htz hN hN0 hN2
           go_wp2_with (first
             | ((with_reducible refine at_load (T := 31) ?_); refine wl_ldp rfl b_9 0 rfl _ hv.vars.ro 19 _ Try.underlying31 rfl infoT19 (by decide) (by rw [rowP_size (rowT_size _ _ _ _) (rowT_size _ _ _ _)]; decide) (rowT ta (.slice da1 dn1 dk1) (.slice ba1 bn1 bk1) (.slice pa1 pn1 pk1)) (rowP_t0 (rowT_size _ _ _ _) (rowT_size _ _ _ _)) ?_)
             | ((with_reducible refine at_load (T := 31) ?_); refine wl_ldp rfl b_9 22 rfl _ hv.vars.ro 19 _ Try.underlying31 rfl infoT19 (by decide) (by rw [rowP_size (rowT_size _ _ _ _) (rowT_size _ _ _ _)]; decide) (rowT tb (.slice da2 dn2 dk2) (.slice ba2 bn2 bk2) (.slice pa2 pn2 pk2)) (rowP_t1 (rowT_size _ _ _ _) (rowT_size _ _ _ _)) ?_)
             | (go_at_call 19; (with_reducible refine (Tick_Q hv HI1.out HCA.out (nw := N)).mono ?_); rintro e w1 ⟨R6, da5, dn5, dk5, ba5, bn5, bk5, pa5, pn5, pk5, l5, ov5, rfl, hm, hs5, hi5, ho5⟩; clear hv; have hv := hm; clear hm; have HS6 := Lib.hid hs5; have HI5 := Lib.hid hi5; have HO5 := Lib.hid ho5; clear hs5 hi5 ho5)
             | ((with_reducible refine gAl 31 17 ?_); refine nwB hv #[.int .i64 0, .int .i64 0, .int .u32 0, .int .i64 0, .int .u32 0, .int .u32 0, .int .u32 0, .slice none 0 0, .int .i64 0, .bool false, .bool false, .int .u32 0, .slice none 0 0, .slice none 0 0, .bool false, .int .u64 0, .int .i64 0, .int .i64 0, .int .i64 0] 31 ?_; clear hv; intro b_17 w2 hv)
             | ((with_reducible refine gSt 31 ?_); refine stV hv b_17 19 infoT19 ?_ (h1 := (rowT_one _ _ _ _ _ _ _ _ _ _)); clear hv; intro w2 hv)
             | ((with_reducible refine gAl 31 19 ?_); obtain ⟨R7, hv7, hs7, ho7⟩ := lit0 hv ⟨rfl, made_alloc _ #[] 42⟩; clear hv; have hv := hv7; clear hv7; have HS7 := Lib.hid hs7; have HO7 := Lib.hid ho7; clear hs7 ho7; refine nwB hv #[.int .i64 0, .int .i64 0, .int .u32 0, .int .i64 0, .int .u32 0, .int .u32 0, .int .u32 0, .slice none 0 0, .int .i64 0, .bool false, .bool false, .int .u32 0, .slice none 0 0, .slice none 0 0, .bool false, .int .u64 0, .int .i64 0, .int .i64 0, .int .i64 0] 31 ?_; clear hv; intro b_19 w2 hv)
             | ((with_reducible refine gSt 31 ?_); refine stV hv b_19 19 infoT19 ?_ (h1 := (rowT_one _ _ _ _ _ _ _ _ _ _)); clear hv; intro w2 hv))
           replace hv : Mem w _ ([(b_19, (rowT tb (.slice da2 dn2 dk2) (.slice ba2 bn2 bk2) (.slice pa2 pn2 pk2))), (b_17, (rowT (Tp.tick N ⟨ta, []⟩).t (.slice da5 dn5 dk5) (.slice ba5 bn5 bk5) (.slice pa5 pn5 pk5))), (b_9, (rowP (rowT ta (.slice da1 dn1 dk1) (.slice ba1 bn1 bk1) (.slice pa1 pn1 pk1)) (.slice xa1 n1 xk1) la (.slice ya1 yn1 yk1) (rowT tb (.slice da2 dn2 dk2) (.slice ba2 bn2 bk2) (.slice pa2 pn2 pk2)) (.slice xa2 n2 xk2) lb (.slice ya2 yn2 yk2)))] ++ (s1.rows ++ (s2.rows ++ (t1.rows ++ t2.rows)))) _ := hv
           try simp only [Act.put]
           refine Bny.wp_region_walk _ _ [⟨[1001], none⟩, ⟨[1000], none⟩, ⟨[], none⟩, ⟨[], none⟩, ⟨[1002], some 1002⟩, ⟨[], none⟩, ⟨[], none⟩, ⟨[1002], some 1002⟩] [.val, .val, .val, .val, .put, .val, .val, .put] (by kernel_rfl) (by kernel_rfl) hv ?_
           simp only [List.length_cons, List.length_nil, Nat.zero_add, Any.someVals]
           iterate 8 apply Exists.intro
           repeat (first
             | (refine Bny.E_off rfl ?_; simp only [Act.put, sia, scs, scz])
             | ((with_reducible refine Bny.at_estore (T := 31) ?_); refine Bny.E_putp (T := 31) (off := 0) rfl rfl rfl rfl rfl rfl 19 infoT19 rfl (by rw [rowP_size (rowT_size _ _ _ _) (rowT_size _ _ _ _)]; decide) (rowT_one _ _ _ _ _ _ _ _ _ _) (rowP_s0 (rowT_size _ _ _ _) (rowT_size _ _ _ _) (rowT_size _ _ _ _)) ?_; simp only [Act.put, sia, scs, scz])
             | ((with_reducible refine Bny.at_estore (T := 31) ?_); refine Bny.E_putp (T := 31) (off := 22) rfl rfl rfl rfl rfl rfl 19 infoT19 rfl (by rw [rowP_size (rowT_size _ _ _ _) (rowT_size _ _ _ _)]; decide) (rowT_one _ _ _ _ _ _ _ _ _ _) (rowP_s1 (rowT_size _ _ _ _) (rowT_size _ _ _ _) (rowT_size _ _ _ _)) ?_; simp only [Act.put, sia, scs, scz])
             | (apply Bny.E_pureq rfl rfl rfl
                case h => intro K hK; go_big_quiet_op; (refine hK _ ?_; rfl)
                case hr => exact fun _ => rfl
                simp only [Act.put, sia, scs, scz])
             | (apply Bny.E_val rfl rfl rfl rfl
                case h =>
                  intro E' hA K hK
                  first
                    | ((with_reducible refine Bny.at_qload (T := 31) ?_); refine Bny.q_ldv 1001 hA (by decide) rfl rfl 19 _ Try.underlying31 rfl infoT19 (by decide) rfl ?_; refine hK _ ?_; rfl)
                    | ((with_reducible refine Bny.at_qload (T := 31) ?_); refine Bny.q_ldv 1000 hA (by decide) rfl rfl 19 _ Try.underlying31 rfl infoT19 (by decide) rfl ?_; refine hK _ ?_; rfl)
                    | (go_big_quiet_op; first
                      | (refine hK _ ?_; rfl)
                      | (refine ⟨_, fun _ _ => rfl, ?_⟩; refine hK _ ?_; rfl)
                      | (apply Exists.intro; refine ⟨fun w1 hw1 => ?_, ?_⟩; · (first
                          | fail)
                         refine hK _ ?_; rfl))
                case hD => rfl
                simp only [Act.put, sia, scs, scz]))
           try any_goals exact undef
           refine Bny.E_nil ?_
           intro w9 hE9
           replace hv : Mem w w9 ([(b_19, (rowT tb (.slice da2 dn2 dk2) (.slice ba2 bn2 bk2) (.slice pa2 pn2 pk2))), (b_17, (rowT (Tp.tick N ⟨ta, []⟩).t (.slice da5 dn5 dk5) (.slice ba5 bn5 bk5) (.slice pa5 pn5 pk5))), (b_9, (rowP (rowT (Tp.tick N ⟨ta, []⟩).t (.slice da5 dn5 dk5) (.slice ba5 bn5 bk5) (.slice pa5 pn5 pk5)) (.slice xa1 n1 xk1) la (.slice ya1 yn1 yk1) (rowT tb (.slice da2 dn2 dk2) (.slice ba2 bn2 bk2) (.slice pa2 pn2 pk2)) (.slice xa2 n2 xk2) lb (.slice ya2 yn2 yk2)))] ++ (s1.rows ++ (s2.rows ++ (t1.rows ++ t2.rows)))) R7 := hE9.mem0 [1000, 1001, 1002] (by decide)
           clear hE9
           simp only [List.cons_append, List.nil_append] at hv
           replace hv := hv.drop.drop
           go_wp2
           obtain ⟨gs2, hq2, ha2, he2⟩ := HQ2.out
           obtain ⟨gs1, hq1, ha1, he1⟩ := HQ1.out
           obtain ⟨g5, ho5, ha5, he5⟩ := HO5.out.mono HS7.out
           obtain ⟨g6, ho6, ha6, he6⟩ := HO7.out
           obtain ⟨o5, m5, k5, rfl, _⟩ := hv.rd ho5
           obtain ⟨o6, m6, k6, e6, _⟩ := hv.rd ho6
           clear e6
           have HQS2 := Lib.hid hq2
           have HQS1 := Lib.hid hq1
           have HOM5 := Lib.hid ho5
           have HOM6 := Lib.hid ho6
           have HLG5 : Hid (∃ m, (cellsG g5).length = m * 7) := Lib.hid ⟨_, cellsG_len _⟩
           have HLG6 : Hid (∃ m, (cellsG g6).length = m * 7) := Lib.hid ⟨_, cellsG_len _⟩
           have HOC5 := Lib.hid (cellsG_oneQ ha5 hv)
           have HOC6 := Lib.hid (cellsG_oneQ ha6 hv)
           have HBG2 : Hid (gs2.length + g5.length ≤ 100000) := Lib.hid (by
             have h1 := congrArg List.length he2
             have h2 := congrArg List.length he5
             have h3 := tick_len N ta
             rw [List.length_map] at h1 h2
             simp only [List.length_nil] at h1
             omega)
           have HBG1 : Hid (gs1.length + g6.length ≤ 100000) := Lib.hid (by
             have h1 := congrArg List.length he1
             have h2 := congrArg List.length he6
             have h3 := tick_len N tb
             rw [List.length_map] at h1 h2
             simp only [List.length_nil] at h1 h2
             omega)
           have HR1 := Lib.hid hq1.reads
           have HR2 := Lib.hid hq2.reads
           have HR3 := Lib.hid HG1.out.reads
           have HR4 := Lib.hid HG2.out.reads
           have HSN : Hid (∀ x ∈ R5, x ∈ R7) := Lib.hid (fun x hx => HS7.out x (HS6.out x hx))
           have HA2 := Lib.hid (ha2.mono HSN.out)
           have HA1 := Lib.hid (ha1.mono HSN.out)
           have HA5 := Lib.hid ha5
           have HA6 := Lib.hid ha6
           have HE2 := Lib.hid he2
           have HE1 := Lib.hid he1
           have HE5 := Lib.hid he5
           have HE6 := Lib.hid he6
           clear hq2 ha2 he2 hq1 ha1 he1 ho5 ha5 he5 ho6 ha6 he6
           have hv0 := Mem.cast hv (show _ = (([.row b_9 (rowP (rowT (Tp.tick N ⟨ta, []⟩).t (.slice da5 dn5 dk5) (.slice ba5 bn5 bk5) (.slice pa5 pn5 pk5)) (.slice xa1 n1 xk1) la (.slice ya1 yn1 yk1) (rowT tb (.slice da2 dn2 dk2) (.slice ba2 bn2 bk2) (.slice pa2 pn2 pk2)) (.slice xa2 n2 xk2) lb (.slice ya2 yn2 yk2)), s1, s2, t1, t2] : List Bny.Slot).flatMap Bny.Slot.rows ++ []) from by simp [Bny.Slot.rows])
           clear hv
           try simp only [Act.put]
           refine Bny.wp_region_walkS [.row b_9 (rowP (rowT (Tp.tick N ⟨ta, []⟩).t (.slice da5 dn5 dk5) (.slice ba5 bn5 bk5) (.slice pa5 pn5 pk5)) (.slice xa1 n1 xk1) la (.slice ya1 yn1 yk1) (rowT tb (.slice da2 dn2 dk2) (.slice ba2 bn2 bk2) (.slice pa2 pn2 pk2)) (.slice xa2 n2 xk2) lb (.slice ya2 yn2 yk2)), s1, s2, t1, t2] [] [⟨[], none⟩, ⟨[], none⟩, ⟨[1000], none⟩, ⟨[], none⟩, ⟨[], some 1002⟩, ⟨[], none⟩, ⟨[], none⟩, ⟨[1000], none⟩, ⟨[], none⟩, ⟨[], some 1001⟩, ⟨[], none⟩, ⟨[], none⟩, ⟨[1000], some 1000⟩, ⟨[], none⟩, ⟨[], none⟩, ⟨[1000], some 1000⟩] [.val, .val, .val, .val, .slot (Bny.QS 7 (cellsG gs2 ++ cellsG g5)), .val, .val, .val, .val, .slot (Bny.QS 7 (cellsG gs1 ++ cellsG g6)), .val, .val, .put, .val, .val, .put] (by kernel_rfl) (by kernel_rfl) hv0 (by exact slots5 HR1.out HR2.out HR3.out HR4.out) ?_
           clear hv0
           simp only [List.length_cons, List.length_nil, Nat.zero_add, Any.someVals]
           iterate 16 apply Exists.intro
           repeat (first
             | (refine Bny.E_off rfl ?_; simp only [Act.put, sia, scs, scz])
             | ((with_reducible refine Bny.gE 32 ?_); refine Bny.eC 1000 (.slice xa2 n2 xk2) Try.underlying32 ?_ (hc := rowP_i1 (rowT_size _ _ _ _) (rowT_size _ _ _ _)); simp only [Act.put, sia, scs, scz])
             | ((with_reducible refine Bny.gE 32 ?_); refine Bny.eC 1000 (.slice xa1 n1 xk1) Try.underlying32 ?_ (hc := rowP_i0 (rowT_size _ _ _ _)); simp only [Act.put, sia, scs, scz])
             | ((with_reducible refine Bny.at_eappQ (t := 32) (dst := some 150) ?_); refine Bny.E_appQ rfl rfl rfl rfl rfl HQS2.out rfl (Or.inl HOM5.out) (.agg #[.int .i64 0, .int .i64 0, .int .u32 0, .int .u32 0, .int .i64 0, .int .i64 0, .slice none 0 0]) 64 Try.underlying32 infoGz rfl (by decide) HLG5.out HOC5.out (app_bq HBG2.out).1 (app_bq HBG2.out).2 ?_; intro v9 sl9 hq9; obtain ⟨x9, n9, k9, rfl, hn9⟩ := hq9.own.slice; clear hn9; have HQ9 := Lib.hid hq9; clear hq9; simp only [Act.put, sia, scs, scz])
             | ((with_reducible refine Bny.at_eappQ (t := 32) (dst := some 155) ?_); refine Bny.E_appQ rfl rfl rfl rfl rfl HQS1.out rfl (Or.inl HOM6.out) (.agg #[.int .i64 0, .int .i64 0, .int .u32 0, .int .u32 0, .int .i64 0, .int .i64 0, .slice none 0 0]) 64 Try.underlying32 infoGz rfl (by decide) HLG6.out HOC6.out (app_bq HBG1.out).1 (app_bq HBG1.out).2 ?_; intro v9 sl8 hq9; obtain ⟨x8, n8, k8, rfl, hn9⟩ := hq9.own.slice; clear hn9; have HQ8 := Lib.hid hq9; clear hq9; simp only [Act.put, sia, scs, scz])
             | ((with_reducible refine Bny.at_estore (T := 32) ?_); refine Bny.eP 41 (rowP_set41 (rowT_size _ _ _ _) (rowT_size _ _ _ _)) (Nat.lt_of_lt_of_eq (by decide : 41 < 44) (rowP_size (rowT_size _ _ _ _) (rowT_size _ _ _ _)).symm) (by kernel_rfl) ?_; simp only [Act.put, sia, scs, scz])
             | ((with_reducible refine Bny.at_estore (T := 32) ?_); refine Bny.eP 19 (rowP_set19 (rowT_size _ _ _ _) (rowT_size _ _ _ _)) (Nat.lt_of_lt_of_eq (by decide : 19 < 44) (rowP_size (rowT_size _ _ _ _) (rowT_size _ _ _ _)).symm) (by kernel_rfl) ?_; simp only [Act.put, sia, scs, scz])
             | (apply Bny.E_pureq rfl rfl rfl
                case h => intro K hK; go_big_quiet_op; (refine hK _ ?_; rfl)
                case hr => exact fun _ => rfl
                simp only [Act.put, sia, scs, scz])
             | (apply Bny.E_val rfl rfl rfl rfl
                case h =>
                  intro E' hA K hK
                  first
                    | (go_big_quiet_op; first
                      | (refine hK _ ?_; rfl)
                      | (refine ⟨_, fun _ _ => rfl, ?_⟩; refine hK _ ?_; rfl)
                      | (apply Exists.intro; refine ⟨fun w1 hw1 => ?_, ?_⟩; · (first
                          | fail)
                         refine hK _ ?_; rfl))
                case hD => rfl
                simp only [Act.put, sia, scs, scz]))
           try any_goals exact undef
           refine Bny.E_nil ?_
           intro w9 hE9
           have hv : Mem w w9 (((b_9, (rowP (rowT (Tp.tick N ⟨ta, []⟩).t (.slice da5 dn5 dk5) (.slice ba5 bn5 bk5) (.slice pa5 pn5 pk5)) (.slice x8 n8 k8) la (.slice ya1 yn1 yk1) (rowT tb (.slice da2 dn2 dk2) (.slice ba2 bn2 bk2) (.slice pa2 pn2 pk2)) (.slice x9 n9 k9) lb (.slice ya2 yn2 yk2))) :: (sl8.rows ++ (sl9.rows ++ (t1.rows ++ (t2.rows ++ []))))) ++ []) R7 := hE9.mem0 [1000, 1001, 1002, 1003, 1004] (by decide)
           clear hE9
           simp only [List.cons_append, List.nil_append, List.append_nil] at hv
           go_wp2
           refine ⟨?rel, ?measure⟩
           case rel =>
             refine ⟨n + 1, k, N, la, lb, false, s', (Tp.tick N ⟨ta, []⟩).t, tb, [] ++ [], [] ++ (Tp.tick N ⟨ta, []⟩).out, R7, rfl, rfl, rfl, rfl, by omega, by omega, ⟨da5, dn5, dk5, ba5, bn5, bk5, pa5, pn5, pk5, l5, da2, dn2, dk2, ba2, bn2, bk2, pa2, pn2, pk2, l2, _, _, _, _, sl8, sl9, t1, t2, hv, HI5.out.mono HS7.out, HI2.out.mono HSN.out, QQ.app HQ8.out HA1.out HA6.out HE1.out HE6.out, QQ.app HQ9.out HA2.out HA5.out HE2.out HE5.out, HG1.out, HG2.out⟩, HK', Lib.hid (by rw [show 200 - (n + 1) = m from by omega]; exact HC'.out), Lib.hid (fun _ => ⟨HZ.out.1, rfl, tick_st3 HZ.out.2.2⟩), Lib.hid (by
               have h1 := tick_len N ta
               skip
               simp only [List.length_append, List.length_nil]
               omega), Lib.hid ⟨HE'.out.1.trans HSE.out.1, HE'.out.2.1, HE'.out.2.2.1.trans HSE.out.2.2.1, HE'.out.2.2.2.trans HSE.out.2.2.2⟩, Lib.hid (fun x hx => HSN.out x (HS.out x hx))⟩
           case measure =>
             show 200 - ((n : Int) + 1).toNat < 200 - ((n : Nat) : Int).toNat
             omega
         · as_aux_lemma =>
           obtain ⟨xa1, n1, xk1, rfl, hn1⟩ := hQ1.slice'
           obtain ⟨xb, xo, xk, sa, sn, sk, gr, e, hqs, hgd, hga, hgr⟩ := hQ2.head hv.q3
           subst e
           obtain ⟨n2, hn2⟩ : ∃ n, r.length + 1 = n := ⟨_, rfl⟩
           rw [hn2] at hv hqs hQ2
           have y2 : decide ((0 : Int) < (n2 : Int)) = true := decide_eq_true (by omega)
           have z2 : decide (0 < n2) = true := decide_eq_true (by omega)
           have y3 : ((n2 : Int) == 0) = false := by rw [beq_eq_false_iff_ne]; omega
           have hix : (0 : Int) < (n2 : Int) := by omega
           have hiy : 0 < n2 := by omega
           have HN1 : Hid (1 ≤ n2) := Lib.hid hiy
           have HXV : Hid (((cellsG ((g, Value.slice sa sn sk) :: gr)).drop 0).take 7 = (#[.int .i64 g.src, .int .i64 g.dst, .int .u32 g.seq, .int .u32 g.ack, .int .i64 g.fl, .int .i64 g.wnd, .slice sa sn sk] : Array Value).toList) := Lib.hid rfl
           have hk20 : k ≤ 20000 := by omega
           have q7 : IntKind.i64.wrap ((k : Int) + 1) = ((k + 1 : Nat) : Int) := by rw [IntWalk.i64_in _ (by omega)]; omega
           have hls := HS.out _ HLM.out
           obtain ⟨l3, hl3⟩ : ∃ n : Nat, lb + 1 = n := ⟨_, rfl⟩
           have hlq : lb ≤ 2 := hl2b
           have q8 : IntKind.i64.wrap ((lb : Int) + 1) = (l3 : Int) := by rw [IntWalk.i64_in _ (by omega)]; omega
           have HQS := Lib.hid hqs
           have HGD := Lib.hid hgd
           have HGA := Lib.hid hga
           have HGR := Lib.hid hgr
           have HQX := Lib.hid hQ2
           have HQO := Lib.hid hQ1
           have HG1 := Lib.hid hG1
           have HG2 := Lib.hid hG2
           have HL3 := Lib.hid hl3
           have HNY := Lib.hid hn1
           clear hqs hgd hga hgr hQ2 hQ1 hG1 hG2 hl3 hn1 hn2 hl2a hl2b
           have hcase := lose4 hv hls (k := k) (lq := lb)
           rcases hcase with ⟨lb9, lo9, rfl, hkl, hx, hl2⟩ | hkl | ⟨lb9, lo9, rfl, hkl, hx⟩ | ⟨lb9, lo9, rfl, hkl, hx, hl2⟩
           · as_aux_lemma =>
             have y8 : decide ((lb : Int) < 2) = true := decide_eq_true (by omega)
             have z8 : decide (lb < 2) = true := decide_eq_true (by omega)
             have y6 : decide ((k : Int) < (ln : Int)) = true := decide_eq_true (by omega)
             have z6 : decide (k < ln) = true := decide_eq_true hkl
             have hkn : (k : Int) < (ln : Int) := by omega
             have HLS := Lib.hid hls
             have HXL := Lib.hid hx
             have HL2 : Hid (lb < 2) := Lib.hid hl2
             clear hls hl2 hlq hx
             go_wp2_with (first
               | ((with_reducible refine gLd 3 ?_); refine ldC hv b_9 0 (.int .i64 ta.st) Try.underlying3 ?_ (hc := (rowP_a (rowT_size _ _ _ _) (by decide)).trans rfl))
                         | ((with_reducible refine gLd 3 ?_); refine ldC hv b_9 22 (.int .i64 tb.st) Try.underlying3 ?_ (hc := (rowP_b (rowT_size _ _ _ _) (rowT_size _ _ _ _) (k := 0) (by decide)).trans rfl))
               | ((with_reducible refine gLd 22 ?_); refine ldC hv b_9 6 (.int .u32 ta.nx) Try.underlying22 ?_ (hc := (rowP_a (rowT_size _ _ _ _) (by decide)).trans rfl))
               | ((with_reducible refine gLd 32 ?_); refine ldC hv b_9 41 (.slice (some ⟨xb, xo, none⟩) n2 xk) Try.underlying32 ?_ (hc := rowP_i1 (rowT_size _ _ _ _) (rowT_size _ _ _ _)))
               | ((with_reducible refine gLd 32 ?_); refine ldC hv b_9 19 (.slice xa1 n1 xk1) Try.underlying32 ?_ (hc := rowP_i0 (rowT_size _ _ _ _)))
               | ((with_reducible refine at_load (T := 42) ?_); refine wl_rdv rfl (kk := 7) (b := xb) (o := xo) (n := n2) (cap := xk) (c := cellsG ((g, Value.slice sa sn sk) :: gr)) (HQS.out.own.rd hv.q3) 0 rfl 7 _ Try.underlying42 rfl infoG7 (by decide) #[.int .i64 g.src, .int .i64 g.dst, .int .u32 g.seq, .int .u32 g.ack, .int .i64 g.fl, .int .i64 g.wnd, .slice sa sn sk] HXV.out rfl ?_)
               | ((with_reducible refine gAl 42 21 ?_); refine nwB hv #[.int .i64 0, .int .i64 0, .int .u32 0, .int .u32 0, .int .i64 0, .int .i64 0, .slice none 0 0] 42 ?_; clear hv; intro b_21 w2 hv)
               | ((with_reducible refine gSt 42 ?_); refine stV hv b_21 7 infoG7 ?_; clear hv; intro w2 hv)
               | ((with_reducible refine at_slice (T := 32) ?_); refine wl_tailG rfl rfl rfl HQX.out hv.q4 Try.underlying32 infoG7 ?_; intro xa7 n7 xk7 s7 hn7 hq7 hv7; clear hv; have hv := hv7; clear hv7; simp only [List.append_assoc, List.cons_append, List.nil_append] at hv; have HN7 := Lib.hid hn7; have HQ7 := Lib.hid hq7; clear hn7 hq7)
               | ((with_reducible refine gSt 32 ?_); refine stC hv b_9 41 (.slice xa7 n7 xk7) ?_ (hs := ⟨(SetM.s SetM.z), rowP_set41 (rowT_size _ _ _ _) (rowT_size _ _ _ _)⟩) (h0 := by rw [rowP_size (rowT_size _ _ _ _) (rowT_size _ _ _ _)]; decide); clear hv; intro w2 hv)
               | ((with_reducible refine at_load (T := 4) ?_); refine wl_rd rfl (c := bl.map Value.bool) (hv.rd HLS.out) k rfl _ Try.underlying4 rfl (.bool true) HXL.out ?_)
               | ((with_reducible refine gLd 3 ?_); refine ldC hv b_9 42 (.int .i64 lb) Try.underlying3 ?_ (hc := rowP_l1 (rowT_size _ _ _ _) (rowT_size _ _ _ _)))
               | ((with_reducible refine gSt 3 ?_); refine stC hv b_9 42 (.int .i64 l3) ?_ (hs := ⟨(SetM.s SetM.z), rowP_set42 (rowT_size _ _ _ _) (rowT_size _ _ _ _)⟩) (h0 := by rw [rowP_size (rowT_size _ _ _ _) (rowT_size _ _ _ _)]; decide); clear hv; intro w2 hv))
             obtain ⟨s', hk', hc', e1, e2, e3, e4⟩ := HK.out.loseB HCC.out HDN.out (by rw [HSE.out.2.2.2]; exact HL2.out)
             refine ⟨?rel, ?measure⟩
             case rel =>
               refine ⟨n + 1, k + 1, nw, la, l3, _, s', _, _, _, r, R5, rfl, rfl, rfl, rfl, by omega, by omega, ⟨da1, dn1, dk1, ba1, bn1, bk1, pa1, pn1, pk1, l1, da2, dn2, dk2, ba2, bn2, bk2, pa2, pn2, pk2, l2, _, _, _, _, s1, s7, t1, t2, hv.drop, HI1.out, HI2.out, HQO.out, HQ7.out, HG1.out, HG2.out⟩, Lib.hid hk', Lib.hid (by rw [show 200 - (n + 1) = m from by omega]; exact hc'), Lib.hid (HTZ.out), Lib.hid (by have h := HQL.out; simp only [List.length_cons, List.length_nil] at h ⊢; omega), Lib.hid ⟨e1.trans HSE.out.1, e2.trans HSE.out.2.1, e3.trans (by exact HSE.out.2.2.1), e4.trans (by rw [HSE.out.2.2.2]; exact HL3.out)⟩, HS⟩
             case measure =>
               show 200 - ((n : Int) + 1).toNat < 200 - ((n : Nat) : Int).toNat
               omega
           all_goals first
             | (have y6 : decide ((k : Int) < (ln : Int)) = true := decide_eq_true (Int.ofNat_lt.2 hkl))
             | (have y6 : decide ((k : Int) < (ln : Int)) = false := decide_eq_false (fun h => hkl (Int.ofNat_lt.1 h)))
           all_goals first
             | (have z6 : decide (k < ln) = true := decide_eq_true hkl)
             | (have z6 : decide (k < ln) = false := decide_eq_false hkl)
           all_goals try (have hkn := Int.ofNat_lt.2 hkl)
           all_goals first
             | (have HXL := Lib.hid hx)
             | (have HXL := Lib.hid True.intro)
           all_goals try (have y8 : decide ((lb : Int) < 2) = false := decide_eq_false (fun h => hl2 (by exact_mod_cast h)))
           all_goals try (have z8 : decide (lb < 2) = false := decide_eq_false hl2)
           all_goals try (clear hx)
           all_goals try (clear hl2)
           all_goals
             as_aux_lemma =>
             have HLS := Lib.hid hls
             clear hls hlq
             have hseg := HK.out.segB HCC.out HGD.out
             have HGG := Lib.hid hseg
             clear hseg
             obtain ⟨hb1, s', hk', hc', e1, e2, e3, e4⟩ := HK.out.beginB HIR.out HCC.out HDN.out HSE.out.1
             rw [HSE.out.2.1] at hk'
             have HB1 := Lib.hid hb1
             have HK' := Lib.hid hk'
             have HC' := Lib.hid hc'
             have HE' := Lib.hid (And.intro e1 (And.intro e2 (And.intro e3 e4)))
             clear hb1 hk' hc' e1 e2 e3 e4
             go_wp2_with (first
               | ((with_reducible refine gLd 3 ?_); refine ldC hv b_9 0 (.int .i64 ta.st) Try.underlying3 ?_ (hc := (rowP_a (rowT_size _ _ _ _) (by decide)).trans rfl))
               | ((with_reducible refine gLd 3 ?_); refine ldC hv b_9 22 (.int .i64 tb.st) Try.underlying3 ?_ (hc := (rowP_b (rowT_size _ _ _ _) (rowT_size _ _ _ _) (k := 0) (by decide)).trans rfl))
               | ((with_reducible refine gLd 22 ?_); refine ldC hv b_9 6 (.int .u32 ta.nx) Try.underlying22 ?_ (hc := (rowP_a (rowT_size _ _ _ _) (by decide)).trans rfl))
               | ((with_reducible refine gLd 32 ?_); refine ldC hv b_9 41 (.slice (some ⟨xb, xo, none⟩) n2 xk) Try.underlying32 ?_ (hc := rowP_i1 (rowT_size _ _ _ _) (rowT_size _ _ _ _)))
               | ((with_reducible refine gLd 32 ?_); refine ldC hv b_9 19 (.slice xa1 n1 xk1) Try.underlying32 ?_ (hc := rowP_i0 (rowT_size _ _ _ _)))
               | ((with_reducible refine at_load (T := 42) ?_); refine wl_rdv rfl (kk := 7) (b := xb) (o := xo) (n := n2) (cap := xk) (c := cellsG ((g, Value.slice sa sn sk) :: gr)) (HQS.out.own.rd hv.q3) 0 rfl 7 _ Try.underlying42 rfl infoG7 (by decide) #[.int .i64 g.src, .int .i64 g.dst, .int .u32 g.seq, .int .u32 g.ack, .int .i64 g.fl, .int .i64 g.wnd, .slice sa sn sk] HXV.out rfl ?_)
               | ((with_reducible refine gAl 42 21 ?_); refine nwB hv #[.int .i64 0, .int .i64 0, .int .u32 0, .int .u32 0, .int .i64 0, .int .i64 0, .slice none 0 0] 42 ?_; clear hv; intro b_21 w2 hv)
               | ((with_reducible refine gSt 42 ?_); refine stV hv b_21 7 infoG7 ?_; clear hv; intro w2 hv)
               | ((with_reducible refine at_slice (T := 32) ?_); refine wl_tailG rfl rfl rfl HQX.out hv.q4 Try.underlying32 infoG7 ?_; intro xa7 n7 xk7 s7 hn7 hq7 hv7; clear hv; have hv := hv7; clear hv7; simp only [List.append_assoc, List.cons_append, List.nil_append] at hv; have HN7 := Lib.hid hn7; have HQ7 := Lib.hid hq7; clear hn7 hq7)
               | ((with_reducible refine gSt 32 ?_); refine stC hv b_9 41 (.slice xa7 n7 xk7) ?_ (hs := ⟨(SetM.s SetM.z), rowP_set41 (rowT_size _ _ _ _) (rowT_size _ _ _ _)⟩) (h0 := by rw [rowP_size (rowT_size _ _ _ _) (rowT_size _ _ _ _)]; decide); clear hv; intro w2 hv)
               | ((with_reducible refine at_load (T := 4) ?_); refine wl_rd rfl (c := bl.map Value.bool) (hv.rd HLS.out) k rfl _ Try.underlying4 rfl (.bool true) HXL.out ?_)
               | ((with_reducible refine at_load (T := 4) ?_); refine wl_rd rfl (c := bl.map Value.bool) (hv.rd HLS.out) k rfl _ Try.underlying4 rfl (.bool false) HXL.out ?_)
               | ((with_reducible refine gLd 3 ?_); refine ldC hv b_9 42 (.int .i64 lb) Try.underlying3 ?_ (hc := rowP_l1 (rowT_size _ _ _ _) (rowT_size _ _ _ _)))
               | ((with_reducible refine gSt 3 ?_); refine stC hv b_9 42 (.int .i64 ((0 : Nat) : Int)) ?_ (hs := ⟨(SetM.s SetM.z), rowP_set42 (rowT_size _ _ _ _) (rowT_size _ _ _ _)⟩) (h0 := by rw [rowP_size (rowT_size _ _ _ _) (rowT_size _ _ _ _)]; decide); clear hv; intro w2 hv)
               | ((with_reducible refine gLd 42 ?_); refine ldV hv b_21 7 Try.underlying42 infoG7 ?_)
               | (go_at_call 20; (with_reducible refine (Accept_Q1 hv HGG.out HB1.out HIR.out (nw := nw)).mono ?_); rintro e w1 ⟨R6, da3, dn3, dk3, ba3, bn3, bk3, pa3, pn3, pk3, l3', ov3, rfl, hm4, hs5, hi5, ho5⟩; clear hv; have hv := hm4; clear hm4; have HS6 := Lib.hid hs5; have HI3' := Lib.hid hi5; have HO3 := Lib.hid ho5; clear hs5 hi5 ho5)
               | ((with_reducible refine gAl 31 23 ?_); refine nwB hv #[.int .i64 0, .int .i64 0, .int .u32 0, .int .i64 0, .int .u32 0, .int .u32 0, .int .u32 0, .slice none 0 0, .int .i64 0, .bool false, .bool false, .int .u32 0, .slice none 0 0, .slice none 0 0, .bool false, .int .u64 0, .int .i64 0, .int .i64 0, .int .i64 0] 31 ?_; clear hv; intro b_23 w2 hv)
               | ((with_reducible refine gSt 31 ?_); refine stV hv b_23 19 infoT19 ?_ (h1 := (rowT_one _ _ _ _ _ _ _ _ _ _)); clear hv; intro w2 hv))
             have HR1 := Lib.hid HQO.out.reads
             have HR2 := Lib.hid HQ7.out.reads
             have HR3 := Lib.hid HG1.out.reads
             have HR4 := Lib.hid HG2.out.reads
             obtain ⟨gs2, hq2, ha2, he2⟩ := HQO.out.mono HS6.out
             obtain ⟨g5, ho5, ha5, he5⟩ := HO3.out
             obtain ⟨o5, m5, k5, rfl, _⟩ := hv.rd ho5
             have HQS2 := Lib.hid hq2
             have HOM := Lib.hid ho5
             have HLG : Hid (∃ m, (cellsG g5).length = m * 7) := Lib.hid ⟨_, cellsG_len _⟩
             have HOC := Lib.hid (cellsG_oneQ ha5 hv)
             have HBG : Hid (gs2.length + g5.length ≤ 100000) := Lib.hid (by
               have h1 := congrArg List.length he2
               have h2 := congrArg List.length he5
               have h3 := accept_out 80 6 irs nw g
               have h4 := HQL.out
               rw [List.length_map] at h1 h2
               simp only [List.length_cons, List.length_nil] at h4 h1
               omega)
             have HA2 := Lib.hid ha2
             have HE2 := Lib.hid he2
             have HA5 := Lib.hid ha5
             have HE5 := Lib.hid he5
             clear hq2 ha2 he2 ho5 ha5 he5
             have hv0 := Mem.cast hv (show _ = (([.row b_23 (rowT (accept 80 6 irs nw g).t (.slice da3 dn3 dk3) (.slice ba3 bn3 bk3) (.slice pa3 pn3 pk3)), .row b_21 #[.int .i64 g.src, .int .i64 g.dst, .int .u32 g.seq, .int .u32 g.ack, .int .i64 g.fl, .int .i64 g.wnd, .slice sa sn sk], .row b_9 (rowP (rowT ta (.slice da1 dn1 dk1) (.slice ba1 bn1 bk1) (.slice pa1 pn1 pk1)) (.slice xa1 n1 xk1) la (.slice ya1 yn1 yk1) (rowT tb (.slice da2 dn2 dk2) (.slice ba2 bn2 bk2) (.slice pa2 pn2 pk2)) (.slice xa7 n7 xk7) 0 (.slice ya2 yn2 yk2)), s1, s7, t1, t2] : List Bny.Slot).flatMap Bny.Slot.rows ++ []) from by simp [Bny.Slot.rows])
             clear hv
             try simp only [Act.put]
             refine Bny.wp_region_walkS [.row b_23 (rowT (accept 80 6 irs nw g).t (.slice da3 dn3 dk3) (.slice ba3 bn3 bk3) (.slice pa3 pn3 pk3)), .row b_21 #[.int .i64 g.src, .int .i64 g.dst, .int .u32 g.seq, .int .u32 g.ack, .int .i64 g.fl, .int .i64 g.wnd, .slice sa sn sk], .row b_9 (rowP (rowT ta (.slice da1 dn1 dk1) (.slice ba1 bn1 bk1) (.slice pa1 pn1 pk1)) (.slice xa1 n1 xk1) la (.slice ya1 yn1 yk1) (rowT tb (.slice da2 dn2 dk2) (.slice ba2 bn2 bk2) (.slice pa2 pn2 pk2)) (.slice xa7 n7 xk7) 0 (.slice ya2 yn2 yk2)), s1, s7, t1, t2] [] [⟨[1000], none⟩, ⟨[], none⟩, ⟨[], none⟩, ⟨[1002], none⟩, ⟨[], none⟩, ⟨[], some 1003⟩, ⟨[], none⟩, ⟨[], none⟩, ⟨[], none⟩, ⟨[1002], some 1002⟩, ⟨[], none⟩, ⟨[], none⟩, ⟨[1002], some 1002⟩] [.val, .val, .val, .val, .val, .slot (Bny.QS 7 (cellsG gs2 ++ cellsG g5)), .val, .val, .val, .put, .val, .val, .put] (by kernel_rfl) (by kernel_rfl) hv0 (by exact slots7 HR1.out HR2.out HR3.out HR4.out) ?_
             clear hv0
             simp only [List.length_cons, List.length_nil, Nat.zero_add, Any.someVals]
             iterate 13 apply Exists.intro
             repeat (first
               | (refine Bny.E_off rfl ?_; simp only [Act.put, sia, scs, scz])
               | ((with_reducible refine Bny.gE 32 ?_); refine Bny.eC 1002 (.slice xa1 n1 xk1) Try.underlying32 ?_ (hc := rowP_i0 (rowT_size _ _ _ _)); simp only [Act.put, sia, scs, scz])
               | ((with_reducible refine Bny.at_eappQ (t := 32) ?_); refine Bny.E_appQ rfl rfl rfl rfl rfl HQS2.out rfl (Or.inl HOM.out) (.agg #[.int .i64 0, .int .i64 0, .int .u32 0, .int .u32 0, .int .i64 0, .int .i64 0, .slice none 0 0]) 64 Try.underlying32 infoGz rfl (by decide) HLG.out HOC.out (app_bq HBG.out).1 (app_bq HBG.out).2 ?_; intro v9 sl9 hq9; obtain ⟨x9, n9, k9, rfl, hn9⟩ := hq9.own.slice; clear hn9; have HQ9 := Lib.hid hq9; clear hq9; simp only [Act.put, sia, scs, scz])
               | ((with_reducible refine Bny.at_estore (T := 31) ?_); refine Bny.E_putp (T := 31) (off := 22) rfl rfl rfl rfl rfl rfl 19 infoT19 rfl (by rw [rowP_size (rowT_size _ _ _ _) (rowT_size _ _ _ _)]; decide) (rowT_one _ _ _ _ _ _ _ _ _ _) (rowP_s1 (rowT_size _ _ _ _) (rowT_size _ _ _ _) (rowT_size _ _ _ _)) ?_; simp only [Act.put, sia, scs, scz])
               | ((with_reducible refine Bny.at_estore (T := 32) ?_); refine Bny.eP 19 (rowP_set19 (rowT_size _ _ _ _) (rowT_size _ _ _ _)) (Nat.lt_of_lt_of_eq (by decide : 19 < 44) (rowP_size (rowT_size _ _ _ _) (rowT_size _ _ _ _)).symm) (by kernel_rfl) ?_; simp only [Act.put, sia, scs, scz])
               | (apply Bny.E_pureq rfl rfl rfl
                  case h => intro K hK; go_big_quiet_op; (refine hK _ ?_; rfl)
                  case hr => exact fun _ => rfl
                  simp only [Act.put, sia, scs, scz])
               | (apply Bny.E_val rfl rfl rfl rfl
                  case h =>
                    intro E' hA K hK
                    first
                      | ((with_reducible refine Bny.at_qload (T := 31) ?_); refine Bny.q_ldv 1000 hA (by decide) rfl rfl 19 _ Try.underlying31 rfl infoT19 (by decide) rfl ?_; refine hK _ ?_; rfl)
                      | (go_big_quiet_op; first
                        | (refine hK _ ?_; rfl)
                        | (refine ⟨_, fun _ _ => rfl, ?_⟩; refine hK _ ?_; rfl)
                        | (apply Exists.intro; refine ⟨fun w1 hw1 => ?_, ?_⟩; · (first
                            | fail)
                           refine hK _ ?_; rfl))
                  case hD => rfl
                  simp only [Act.put, sia, scs, scz]))
             try any_goals exact undef
             refine Bny.E_nil ?_
             intro w9 hE9
             have hv : Mem w w9 (((b_9, (rowP (rowT ta (.slice da1 dn1 dk1) (.slice ba1 bn1 bk1) (.slice pa1 pn1 pk1)) (.slice x9 n9 k9) la (.slice ya1 yn1 yk1) (rowT (accept 80 6 irs nw g).t (.slice da3 dn3 dk3) (.slice ba3 bn3 bk3) (.slice pa3 pn3 pk3)) (.slice xa7 n7 xk7) 0 (.slice ya2 yn2 yk2))) :: (sl9.rows ++ (s7.rows ++ (t1.rows ++ (t2.rows ++ []))))) ++ []) R6 := hE9.mem0 [1002, 1003, 1004, 1005, 1006] (by decide)
             clear hE9
             simp only [List.cons_append, List.nil_append, List.append_nil] at hv
             go_wp2
             refine ⟨?rel, ?measure⟩
             case rel =>
               refine ⟨n + 1, k + 1, nw, la, 0, true, s', ta, (accept 80 6 irs nw g).t, qa ++ (accept 80 6 irs nw g).out, r, R6, rfl, rfl, rfl, rfl, by omega, by omega, ⟨da1, dn1, dk1, ba1, bn1, bk1, pa1, pn1, pk1, l1, da3, dn3, dk3, ba3, bn3, bk3, pa3, pn3, pk3, l3', _, _, _, _, sl9, s7, t1, t2, hv, HI1.out.mono HS6.out, HI3'.out, QQ.app HQ9.out HA2.out HA5.out HE2.out HE5.out, HQ7.out.mono HS6.out, HG1.out, HG2.out⟩, HK', Lib.hid (by rw [show 200 - (n + 1) = m from by omega]; exact HC'.out), Lib.hid (fun h => by cases h), Lib.hid (by
                 have h := HQL.out
                 have h3 := accept_out 80 6 irs nw g
                 simp only [List.length_cons, List.length_nil, List.length_append] at h ⊢
                 omega), Lib.hid ⟨HE'.out.1, HE'.out.2.1.trans HSE.out.2.1, HE'.out.2.2.1.trans HSE.out.2.2.1, HE'.out.2.2.2⟩, Lib.hid (fun x hx => HS6.out x (HS.out x hx))⟩
             case measure =>
               show 200 - ((n : Int) + 1).toNat < 200 - ((n : Nat) : Int).toNat
               omega
       | true =>
         have hnd : ta.st = 3 → tb.st ≠ 3 := fun h h2 => HDN.out ⟨h, HSE.out.1, h2⟩
         have hcx : (ta.st = 3 ∧ tb.st ≠ 3) ∨ ta.st ≠ 3 := by
           by_cases h : ta.st = 3
           · exact .inl ⟨h, hnd h⟩
           · exact .inr h
         clear hnd
         rcases hcx with ⟨h3, h4⟩ | h3
         all_goals first
           | (have y1 : ((ta.st : Int) == 3) = true := beq_iff_eq.2 (by exact_mod_cast h3))
           | (have y1 : ((ta.st : Int) == 3) = false := beq_eq_false_iff_ne.2 (by exact_mod_cast h3))
         all_goals try (have y5 : ((tb.st : Int) == 3) = false := beq_eq_false_iff_ne.2 (by exact_mod_cast h4))
         all_goals try (clear h4)
         all_goals
           clear h3
           rcases qb with _ | ⟨g, r⟩
           · rcases qa with _ | ⟨g, r⟩
             · as_aux_lemma =>
               obtain ⟨xa1, n1, xk1, rfl, hn1⟩ := hQ1.slice'
               obtain ⟨xa2, n2, xk2, rfl, hn2⟩ := hQ2.slice'
               have y2 : decide ((0 : Int) < (n2 : Int)) = false := decide_eq_false (by rw [← hn2]; decide)
               have z2 : decide (0 < n2) = false := decide_eq_false (by rw [← hn2]; decide)
               have y3 : ((n1 : Int) == 0) = true := by rw [← hn1]; rfl
               have HCA := Lib.hid (HK.out.chkA HIS.out HCC.out)
               have HCB := Lib.hid (HK.out.chkB HIR.out HCC.out HSE.out.1)
               have HQ1 := Lib.hid hQ1
               have HQ2 := Lib.hid hQ2
               have HG1 := Lib.hid hG1
               have HG2 := Lib.hid hG2
               clear hn1 hn2 hQ1 hQ2 hG1 hG2 hl2a hl2b
               go_wp2_with (first
                 | ((with_reducible refine gLd 3 ?_); refine ldC hv b_9 0 (.int .i64 ta.st) Try.underlying3 ?_ (hc := (rowP_a (rowT_size _ _ _ _) (by decide)).trans rfl))
                 | ((with_reducible refine gLd 3 ?_); refine ldC hv b_9 22 (.int .i64 tb.st) Try.underlying3 ?_ (hc := (rowP_b (rowT_size _ _ _ _) (rowT_size _ _ _ _) (k := 0) (by decide)).trans rfl))
                 | ((with_reducible refine gLd 32 ?_); refine ldC hv b_9 41 (.slice xa2 n2 xk2) Try.underlying32 ?_ (hc := rowP_i1 (rowT_size _ _ _ _) (rowT_size _ _ _ _)))
                 | ((with_reducible refine gLd 32 ?_); refine ldC hv b_9 19 (.slice xa1 n1 xk1) Try.underlying32 ?_ (hc := rowP_i0 (rowT_size _ _ _ _))))
               replace hv : Mem w _ ([(b_9, (rowP (rowT ta (.slice da1 dn1 dk1) (.slice ba1 bn1 bk1) (.slice pa1 pn1 pk1)) (.slice xa1 n1 xk1) la (.slice ya1 yn1 yk1) (rowT tb (.slice da2 dn2 dk2) (.slice ba2 bn2 bk2) (.slice pa2 pn2 pk2)) (.slice xa2 n2 xk2) lb (.slice ya2 yn2 yk2)))] ++ (s1.rows ++ (s2.rows ++ (t1.rows ++ t2.rows)))) _ := hv
               try simp only [Act.put]
               refine Bny.wp_region_walk _ _ [⟨[], none⟩, ⟨[], none⟩, ⟨[], none⟩, ⟨[1000], none⟩, ⟨[], none⟩, ⟨[], none⟩, ⟨[], none⟩, ⟨[1000], none⟩] [.val] (by kernel_rfl) (by kernel_rfl) hv ?_
               simp only [List.length_cons, List.length_nil, Nat.zero_add, Any.someVals]
               iterate 10 apply Exists.intro
               repeat (first
                 | (refine Bny.E_off rfl ?_; simp only [Act.put, sia, scs, scz])
                 | ((with_reducible refine Bny.gE 28 ?_); refine Bny.eC 1000 (.int .u64 ta.tm) Try.underlying28 ?_ (hc := (rowP_a (rowT_size _ _ _ _) (k := 15) (by decide)).trans rfl); simp only [Act.put, sia, scs, scz])
                 | ((with_reducible refine Bny.gE 28 ?_); refine Bny.eC 1000 (.int .u64 tb.tm) Try.underlying28 ?_ (hc := (rowP_b (rowT_size _ _ _ _) (rowT_size _ _ _ _) (k := 15) (by decide)).trans rfl); simp only [Act.put, sia, scs, scz])
                 | (apply Bny.E_pureq rfl rfl rfl
                    case h => intro K hK; go_big_quiet_op; (refine hK _ ?_; rfl)
                    case hr => exact fun _ => rfl
                    simp only [Act.put, sia, scs, scz])
                 | (apply Bny.E_val rfl rfl rfl rfl
                    case h =>
                      intro E' hA K hK
                      first
                        | (go_big_quiet_op; first
                          | (refine hK _ ?_; rfl)
                          | (refine ⟨_, fun _ _ => rfl, ?_⟩; refine hK _ ?_; rfl)
                          | (apply Exists.intro; refine ⟨fun w1 hw1 => ?_, ?_⟩; · (first
                              | fail)
                             refine hK _ ?_; rfl))
                    case hD => rfl
                    simp only [Act.put, sia, scs, scz]))
               try any_goals exact undef
               refine Bny.E_nil ?_
               intro w9 hE9
               replace hv : Mem w w9 ([(b_9, (rowP (rowT ta (.slice da1 dn1 dk1) (.slice ba1 bn1 bk1) (.slice pa1 pn1 pk1)) (.slice xa1 n1 xk1) la (.slice ya1 yn1 yk1) (rowT tb (.slice da2 dn2 dk2) (.slice ba2 bn2 bk2) (.slice pa2 pn2 pk2)) (.slice xa2 n2 xk2) lb (.slice ya2 yn2 yk2)))] ++ (s1.rows ++ (s2.rows ++ (t1.rows ++ t2.rows)))) R5 := hE9.mem0 [1000] (by decide)
               clear hE9
               simp only [List.cons_append, List.nil_append] at hv
               obtain ⟨N, hN⟩ : ∃ N, N = (if 0 < ta.tm ∧ 0 < tb.tm then min ta.tm tb.tm else max ta.tm tb.tm) := ⟨_, rfl⟩
               obtain ⟨hN0, hN2, s', hk', hc', e1, e2, e3, e4⟩ := HK.out.time2 HCC.out HDN.out HSE.out.1 hN
               have HK' := Lib.hid hk'
               have HC' := Lib.hid hc'
               have HE' := Lib.hid (And.intro e1 (And.intro e2 (And.intro e3 e4)))
               have y23 : ((N : Int) == 0) = false := by rw [beq_eq_false_iff_ne]; omega
               have y24 : decide ((2000 : Int) < (N : Int)) = false := decide_eq_false (by omega)
               have z24 : decide (2000 < N) = false := decide_eq_false (by omega)
               clear hk' hc' e1 e2 e3 e4
               obtain ⟨mx, hmx⟩ : ∃ m : Nat, max ta.tm tb.tm = m := ⟨_, rfl⟩
               have hsp : (0 < ta.tm ∧ 0 < tb.tm) ∨ (0 < ta.tm ∧ ¬ 0 < tb.tm) ∨ (¬ 0 < ta.tm ∧ 0 < tb.tm) := by
                 by_cases c1 : 0 < ta.tm
                 · by_cases c2 : 0 < tb.tm
                   · exact .inl ⟨c1, c2⟩
                   · exact .inr (.inl ⟨c1, c2⟩)
                 · by_cases c2 : 0 < tb.tm
                   · exact .inr (.inr ⟨c1, c2⟩)
                   · exfalso
                     rw [if_neg (fun h => c1 h.1)] at hN
                     omega
               rcases hsp with ⟨c1, c2⟩ | ⟨c1, c2⟩ | ⟨c1, c2⟩
               · have q20 : max (ta.tm : Int) (tb.tm : Int) = (mx : Int) := by omega
                 have q21 : min (ta.tm : Int) (tb.tm : Int) = (N : Int) := by rw [if_pos ⟨c1, c2⟩] at hN; omega
                 have y21 : decide ((0 : Int) < (ta.tm : Int)) = true := decide_eq_true (by omega)
                 have y22 : decide ((0 : Int) < (tb.tm : Int)) = true := decide_eq_true (by omega)
                 have z21 : decide (0 < ta.tm) = true := decide_eq_true c1
                 have z22 : decide (0 < tb.tm) = true := decide_eq_true c2
                 clear c1 c2 hN hmx hN0 hN2
                 as_aux_lemma =>
                 go_wp2_with (first
                   | ((with_reducible refine at_load (T := 31) ?_); refine wl_ldp rfl b_9 0 rfl _ hv.vars.ro 19 _ Try.underlying31 rfl infoT19 (by decide) (by rw [rowP_size (rowT_size _ _ _ _) (rowT_size _ _ _ _)]; decide) (rowT ta (.slice da1 dn1 dk1) (.slice ba1 bn1 bk1) (.slice pa1 pn1 pk1)) (rowP_t0 (rowT_size _ _ _ _) (rowT_size _ _ _ _)) ?_)
                   | ((with_reducible refine at_load (T := 31) ?_); refine wl_ldp rfl b_9 22 rfl _ hv.vars.ro 19 _ Try.underlying31 rfl infoT19 (by decide) (by rw [rowP_size (rowT_size _ _ _ _) (rowT_size _ _ _ _)]; decide) (rowT tb (.slice da2 dn2 dk2) (.slice ba2 bn2 bk2) (.slice pa2 pn2 pk2)) (rowP_t1 (rowT_size _ _ _ _) (rowT_size _ _ _ _)) ?_)
                   | (go_at_call 19; (with_reducible refine (Tick_Q hv HI1.out HCA.out (nw := N)).mono ?_); rintro e w1 ⟨R6, da5, dn5, dk5, ba5, bn5, bk5, pa5, pn5, pk5, l5, ov5, rfl, hm, hs5, hi5, ho5⟩; clear hv; have hv := hm; clear hm; have HS6 := Lib.hid hs5; have HI5 := Lib.hid hi5; have HO5 := Lib.hid ho5; clear hs5 hi5 ho5)
                   | ((with_reducible refine gAl 31 17 ?_); refine nwB hv #[.int .i64 0, .int .i64 0, .int .u32 0, .int .i64 0, .int .u32 0, .int .u32 0, .int .u32 0, .slice none 0 0, .int .i64 0, .bool false, .bool false, .int .u32 0, .slice none 0 0, .slice none 0 0, .bool false, .int .u64 0, .int .i64 0, .int .i64 0, .int .i64 0] 31 ?_; clear hv; intro b_17 w2 hv)
                   | ((with_reducible refine gSt 31 ?_); refine stV hv b_17 19 infoT19 ?_ (h1 := (rowT_one _ _ _ _ _ _ _ _ _ _)); clear hv; intro w2 hv)
                   | ((with_reducible refine gAl 31 19 ?_); obtain ⟨R7, hv7, hs7, ho7⟩ := lit0 hv ⟨rfl, made_alloc _ #[] 42⟩; clear hv; have hv := hv7; clear hv7; have HS7 := Lib.hid hs7; have HO7 := Lib.hid ho7; clear hs7 ho7; refine nwB hv #[.int .i64 0, .int .i64 0, .int .u32 0, .int .i64 0, .int .u32 0, .int .u32 0, .int .u32 0, .slice none 0 0, .int .i64 0, .bool false, .bool false, .int .u32 0, .slice none 0 0, .slice none 0 0, .bool false, .int .u64 0, .int .i64 0, .int .i64 0, .int .i64 0] 31 ?_; clear hv; intro b_19 w2 hv)
                   | ((with_reducible refine gSt 31 ?_); refine stV hv b_19 19 infoT19 ?_ (h1 := (rowT_one _ _ _ _ _ _ _ _ _ _)); clear hv; intro w2 hv)
                   | (go_at_call 19; (with_reducible refine (Tick_Q hv ((HI2.out.mono HS6.out).mono HS7.out) HCB.out (nw := N)).mono ?_); rintro e w1 ⟨R8, da6, dn6, dk6, ba6, bn6, bk6, pa6, pn6, pk6, l6, ov6, rfl, hm, hs5, hi5, ho5⟩; clear hv; have hv := hm; clear hm; have HS8 := Lib.hid hs5; have HI6 := Lib.hid hi5; have HO6 := Lib.hid ho5; clear hs5 hi5 ho5))
                 replace hv : Mem w _ ([(b_19, (rowT (Tp.tick N ⟨tb, []⟩).t (.slice da6 dn6 dk6) (.slice ba6 bn6 bk6) (.slice pa6 pn6 pk6))), (b_17, (rowT (Tp.tick N ⟨ta, []⟩).t (.slice da5 dn5 dk5) (.slice ba5 bn5 bk5) (.slice pa5 pn5 pk5))), (b_9, (rowP (rowT ta (.slice da1 dn1 dk1) (.slice ba1 bn1 bk1) (.slice pa1 pn1 pk1)) (.slice xa1 n1 xk1) la (.slice ya1 yn1 yk1) (rowT tb (.slice da2 dn2 dk2) (.slice ba2 bn2 bk2) (.slice pa2 pn2 pk2)) (.slice xa2 n2 xk2) lb (.slice ya2 yn2 yk2)))] ++ (s1.rows ++ (s2.rows ++ (t1.rows ++ t2.rows)))) _ := hv
                 try simp only [Act.put]
                 refine Bny.wp_region_walk _ _ [⟨[1001], none⟩, ⟨[1000], none⟩, ⟨[], none⟩, ⟨[], none⟩, ⟨[1002], some 1002⟩, ⟨[], none⟩, ⟨[], none⟩, ⟨[1002], some 1002⟩] [.val, .val, .val, .val, .put, .val, .val, .put] (by kernel_rfl) (by kernel_rfl) hv ?_
                 simp only [List.length_cons, List.length_nil, Nat.zero_add, Any.someVals]
                 iterate 8 apply Exists.intro
                 repeat (first
                   | (refine Bny.E_off rfl ?_; simp only [Act.put, sia, scs, scz])
                   | ((with_reducible refine Bny.at_estore (T := 31) ?_); refine Bny.E_putp (T := 31) (off := 0) rfl rfl rfl rfl rfl rfl 19 infoT19 rfl (by rw [rowP_size (rowT_size _ _ _ _) (rowT_size _ _ _ _)]; decide) (rowT_one _ _ _ _ _ _ _ _ _ _) (rowP_s0 (rowT_size _ _ _ _) (rowT_size _ _ _ _) (rowT_size _ _ _ _)) ?_; simp only [Act.put, sia, scs, scz])
                   | ((with_reducible refine Bny.at_estore (T := 31) ?_); refine Bny.E_putp (T := 31) (off := 22) rfl rfl rfl rfl rfl rfl 19 infoT19 rfl (by rw [rowP_size (rowT_size _ _ _ _) (rowT_size _ _ _ _)]; decide) (rowT_one _ _ _ _ _ _ _ _ _ _) (rowP_s1 (rowT_size _ _ _ _) (rowT_size _ _ _ _) (rowT_size _ _ _ _)) ?_; simp only [Act.put, sia, scs, scz])
                   | (apply Bny.E_pureq rfl rfl rfl
                      case h => intro K hK; go_big_quiet_op; (refine hK _ ?_; rfl)
                      case hr => exact fun _ => rfl
                      simp only [Act.put, sia, scs, scz])
                   | (apply Bny.E_val rfl rfl rfl rfl
                      case h =>
                        intro E' hA K hK
                        first
                          | ((with_reducible refine Bny.at_qload (T := 31) ?_); refine Bny.q_ldv 1001 hA (by decide) rfl rfl 19 _ Try.underlying31 rfl infoT19 (by decide) rfl ?_; refine hK _ ?_; rfl)
                          | ((with_reducible refine Bny.at_qload (T := 31) ?_); refine Bny.q_ldv 1000 hA (by decide) rfl rfl 19 _ Try.underlying31 rfl infoT19 (by decide) rfl ?_; refine hK _ ?_; rfl)
                          | (go_big_quiet_op; first
                            | (refine hK _ ?_; rfl)
                            | (refine ⟨_, fun _ _ => rfl, ?_⟩; refine hK _ ?_; rfl)
                            | (apply Exists.intro; refine ⟨fun w1 hw1 => ?_, ?_⟩; · (first
                                | fail)
                               refine hK _ ?_; rfl))
                      case hD => rfl
                      simp only [Act.put, sia, scs, scz]))
                 try any_goals exact undef
                 refine Bny.E_nil ?_
                 intro w9 hE9
                 replace hv : Mem w w9 ([(b_19, (rowT (Tp.tick N ⟨tb, []⟩).t (.slice da6 dn6 dk6) (.slice ba6 bn6 bk6) (.slice pa6 pn6 pk6))), (b_17, (rowT (Tp.tick N ⟨ta, []⟩).t (.slice da5 dn5 dk5) (.slice ba5 bn5 bk5) (.slice pa5 pn5 pk5))), (b_9, (rowP (rowT (Tp.tick N ⟨ta, []⟩).t (.slice da5 dn5 dk5) (.slice ba5 bn5 bk5) (.slice pa5 pn5 pk5)) (.slice xa1 n1 xk1) la (.slice ya1 yn1 yk1) (rowT (Tp.tick N ⟨tb, []⟩).t (.slice da6 dn6 dk6) (.slice ba6 bn6 bk6) (.slice pa6 pn6 pk6)) (.slice xa2 n2 xk2) lb (.slice ya2 yn2 yk2)))] ++ (s1.rows ++ (s2.rows ++ (t1.rows ++ t2.rows)))) R8 := hE9.mem0 [1000, 1001, 1002] (by decide)
                 clear hE9
                 simp only [List.cons_append, List.nil_append] at hv
                 replace hv := hv.drop.drop
                 go_wp2
                 obtain ⟨gs2, hq2, ha2, he2⟩ := HQ2.out
                 obtain ⟨gs1, hq1, ha1, he1⟩ := HQ1.out
                 obtain ⟨g5, ho5, ha5, he5⟩ := HO5.out.mono (fun x hx => HS8.out x (HS7.out x hx))
                 obtain ⟨g6, ho6, ha6, he6⟩ := HO6.out
                 obtain ⟨o5, m5, k5, rfl, _⟩ := hv.rd ho5
                 obtain ⟨o6, m6, k6, e6, _⟩ := hv.rd ho6
                 subst e6
                 have HQS2 := Lib.hid hq2
                 have HQS1 := Lib.hid hq1
                 have HOM5 := Lib.hid ho5
                 have HOM6 := Lib.hid ho6
                 have HLG5 : Hid (∃ m, (cellsG g5).length = m * 7) := Lib.hid ⟨_, cellsG_len _⟩
                 have HLG6 : Hid (∃ m, (cellsG g6).length = m * 7) := Lib.hid ⟨_, cellsG_len _⟩
                 have HOC5 := Lib.hid (cellsG_oneQ ha5 hv)
                 have HOC6 := Lib.hid (cellsG_oneQ ha6 hv)
                 have HBG2 : Hid (gs2.length + g5.length ≤ 100000) := Lib.hid (by
                   have h1 := congrArg List.length he2
                   have h2 := congrArg List.length he5
                   have h3 := tick_len N ta
                   rw [List.length_map] at h1 h2
                   simp only [List.length_nil] at h1
                   omega)
                 have HBG1 : Hid (gs1.length + g6.length ≤ 100000) := Lib.hid (by
                   have h1 := congrArg List.length he1
                   have h2 := congrArg List.length he6
                   have h3 := tick_len N tb
                   rw [List.length_map] at h1 h2
                   simp only [List.length_nil] at h1
                   omega)
                 have HR1 := Lib.hid hq1.reads
                 have HR2 := Lib.hid hq2.reads
                 have HR3 := Lib.hid HG1.out.reads
                 have HR4 := Lib.hid HG2.out.reads
                 have HSN : Hid (∀ x ∈ R5, x ∈ R8) := Lib.hid (fun x hx => HS8.out x (HS7.out x (HS6.out x hx)))
                 have HA2 := Lib.hid (ha2.mono HSN.out)
                 have HA1 := Lib.hid (ha1.mono HSN.out)
                 have HA5 := Lib.hid ha5
                 have HA6 := Lib.hid ha6
                 have HE2 := Lib.hid he2
                 have HE1 := Lib.hid he1
                 have HE5 := Lib.hid he5
                 have HE6 := Lib.hid he6
                 clear hq2 ha2 he2 hq1 ha1 he1 ho5 ha5 he5 ho6 ha6 he6
                 have hv0 := Mem.cast hv (show _ = (([.row b_9 (rowP (rowT (Tp.tick N ⟨ta, []⟩).t (.slice da5 dn5 dk5) (.slice ba5 bn5 bk5) (.slice pa5 pn5 pk5)) (.slice xa1 n1 xk1) la (.slice ya1 yn1 yk1) (rowT (Tp.tick N ⟨tb, []⟩).t (.slice da6 dn6 dk6) (.slice ba6 bn6 bk6) (.slice pa6 pn6 pk6)) (.slice xa2 n2 xk2) lb (.slice ya2 yn2 yk2)), s1, s2, t1, t2] : List Bny.Slot).flatMap Bny.Slot.rows ++ []) from by simp [Bny.Slot.rows])
                 clear hv
                 try simp only [Act.put]
                 refine Bny.wp_region_walkS [.row b_9 (rowP (rowT (Tp.tick N ⟨ta, []⟩).t (.slice da5 dn5 dk5) (.slice ba5 bn5 bk5) (.slice pa5 pn5 pk5)) (.slice xa1 n1 xk1) la (.slice ya1 yn1 yk1) (rowT (Tp.tick N ⟨tb, []⟩).t (.slice da6 dn6 dk6) (.slice ba6 bn6 bk6) (.slice pa6 pn6 pk6)) (.slice xa2 n2 xk2) lb (.slice ya2 yn2 yk2)), s1, s2, t1, t2] [] [⟨[], none⟩, ⟨[], none⟩, ⟨[1000], none⟩, ⟨[], none⟩, ⟨[], some 1002⟩, ⟨[], none⟩, ⟨[], none⟩, ⟨[1000], none⟩, ⟨[], none⟩, ⟨[], some 1001⟩, ⟨[], none⟩, ⟨[], none⟩, ⟨[1000], some 1000⟩, ⟨[], none⟩, ⟨[], none⟩, ⟨[1000], some 1000⟩] [.val, .val, .val, .val, .slot (Bny.QS 7 (cellsG gs2 ++ cellsG g5)), .val, .val, .val, .val, .slot (Bny.QS 7 (cellsG gs1 ++ cellsG g6)), .val, .val, .put, .val, .val, .put] (by kernel_rfl) (by kernel_rfl) hv0 (by exact slots5 HR1.out HR2.out HR3.out HR4.out) ?_
                 clear hv0
                 simp only [List.length_cons, List.length_nil, Nat.zero_add, Any.someVals]
                 iterate 16 apply Exists.intro
                 repeat (first
                   | (refine Bny.E_off rfl ?_; simp only [Act.put, sia, scs, scz])
                   | ((with_reducible refine Bny.gE 32 ?_); refine Bny.eC 1000 (.slice xa2 n2 xk2) Try.underlying32 ?_ (hc := rowP_i1 (rowT_size _ _ _ _) (rowT_size _ _ _ _)); simp only [Act.put, sia, scs, scz])
                   | ((with_reducible refine Bny.gE 32 ?_); refine Bny.eC 1000 (.slice xa1 n1 xk1) Try.underlying32 ?_ (hc := rowP_i0 (rowT_size _ _ _ _)); simp only [Act.put, sia, scs, scz])
                   | ((with_reducible refine Bny.at_eappQ (t := 32) (dst := some 150) ?_); refine Bny.E_appQ rfl rfl rfl rfl rfl HQS2.out rfl (Or.inl HOM5.out) (.agg #[.int .i64 0, .int .i64 0, .int .u32 0, .int .u32 0, .int .i64 0, .int .i64 0, .slice none 0 0]) 64 Try.underlying32 infoGz rfl (by decide) HLG5.out HOC5.out (app_bq HBG2.out).1 (app_bq HBG2.out).2 ?_; intro v9 sl9 hq9; obtain ⟨x9, n9, k9, rfl, hn9⟩ := hq9.own.slice; clear hn9; have HQ9 := Lib.hid hq9; clear hq9; simp only [Act.put, sia, scs, scz])
                   | ((with_reducible refine Bny.at_eappQ (t := 32) (dst := some 155) ?_); refine Bny.E_appQ rfl rfl rfl rfl rfl HQS1.out rfl (Or.inl HOM6.out) (.agg #[.int .i64 0, .int .i64 0, .int .u32 0, .int .u32 0, .int .i64 0, .int .i64 0, .slice none 0 0]) 64 Try.underlying32 infoGz rfl (by decide) HLG6.out HOC6.out (app_bq HBG1.out).1 (app_bq HBG1.out).2 ?_; intro v9 sl8 hq9; obtain ⟨x8, n8, k8, rfl, hn9⟩ := hq9.own.slice; clear hn9; have HQ8 := Lib.hid hq9; clear hq9; simp only [Act.put, sia, scs, scz])
                   | ((with_reducible refine Bny.at_estore (T := 32) ?_); refine Bny.eP 41 (rowP_set41 (rowT_size _ _ _ _) (rowT_size _ _ _ _)) (Nat.lt_of_lt_of_eq (by decide : 41 < 44) (rowP_size (rowT_size _ _ _ _) (rowT_size _ _ _ _)).symm) (by kernel_rfl) ?_; simp only [Act.put, sia, scs, scz])
                   | ((with_reducible refine Bny.at_estore (T := 32) ?_); refine Bny.eP 19 (rowP_set19 (rowT_size _ _ _ _) (rowT_size _ _ _ _)) (Nat.lt_of_lt_of_eq (by decide : 19 < 44) (rowP_size (rowT_size _ _ _ _) (rowT_size _ _ _ _)).symm) (by kernel_rfl) ?_; simp only [Act.put, sia, scs, scz])
                   | (apply Bny.E_pureq rfl rfl rfl
                      case h => intro K hK; go_big_quiet_op; (refine hK _ ?_; rfl)
                      case hr => exact fun _ => rfl
                      simp only [Act.put, sia, scs, scz])
                   | (apply Bny.E_val rfl rfl rfl rfl
                      case h =>
                        intro E' hA K hK
                        first
                          | (go_big_quiet_op; first
                            | (refine hK _ ?_; rfl)
                            | (refine ⟨_, fun _ _ => rfl, ?_⟩; refine hK _ ?_; rfl)
                            | (apply Exists.intro; refine ⟨fun w1 hw1 => ?_, ?_⟩; · (first
                                | fail)
                               refine hK _ ?_; rfl))
                      case hD => rfl
                      simp only [Act.put, sia, scs, scz]))
                 try any_goals exact undef
                 refine Bny.E_nil ?_
                 intro w9 hE9
                 have hv : Mem w w9 (((b_9, (rowP (rowT (Tp.tick N ⟨ta, []⟩).t (.slice da5 dn5 dk5) (.slice ba5 bn5 bk5) (.slice pa5 pn5 pk5)) (.slice x8 n8 k8) la (.slice ya1 yn1 yk1) (rowT (Tp.tick N ⟨tb, []⟩).t (.slice da6 dn6 dk6) (.slice ba6 bn6 bk6) (.slice pa6 pn6 pk6)) (.slice x9 n9 k9) lb (.slice ya2 yn2 yk2))) :: (sl8.rows ++ (sl9.rows ++ (t1.rows ++ (t2.rows ++ []))))) ++ []) R8 := hE9.mem0 [1000, 1001, 1002, 1003, 1004] (by decide)
                 clear hE9
                 simp only [List.cons_append, List.nil_append, List.append_nil] at hv
                 go_wp2
                 refine ⟨?rel, ?measure⟩
                 case rel =>
                   refine ⟨n + 1, k, N, la, lb, true, s', (Tp.tick N ⟨ta, []⟩).t, (Tp.tick N ⟨tb, []⟩).t, [] ++ (Tp.tick N ⟨tb, []⟩).out, [] ++ (Tp.tick N ⟨ta, []⟩).out, R8, rfl, rfl, rfl, rfl, by omega, by omega, ⟨da5, dn5, dk5, ba5, bn5, bk5, pa5, pn5, pk5, l5, da6, dn6, dk6, ba6, bn6, bk6, pa6, pn6, pk6, l6, _, _, _, _, sl8, sl9, t1, t2, hv, HI5.out.mono (fun x hx => HS8.out x (HS7.out x hx)), HI6.out, QQ.app HQ8.out HA1.out HA6.out HE1.out HE6.out, QQ.app HQ9.out HA2.out HA5.out HE2.out HE5.out, HG1.out, HG2.out⟩, HK', Lib.hid (by rw [show 200 - (n + 1) = m from by omega]; exact HC'.out), Lib.hid (fun h => by cases h), Lib.hid (by
                     have h1 := tick_len N ta
                     have h2 := tick_len N tb
                     simp only [List.length_append, List.length_nil]
                     omega), Lib.hid ⟨HE'.out.1.trans HSE.out.1, HE'.out.2.1, HE'.out.2.2.1.trans HSE.out.2.2.1, HE'.out.2.2.2.trans HSE.out.2.2.2⟩, Lib.hid (fun x hx => HSN.out x (HS.out x hx))⟩
                 case measure =>
                   show 200 - ((n : Int) + 1).toNat < 200 - ((n : Nat) : Int).toNat
                   omega
               · have q20 : max (ta.tm : Int) (tb.tm : Int) = (N : Int) := by rw [if_neg (fun h => c2 h.2)] at hN; omega
                 have y21 : decide ((0 : Int) < (ta.tm : Int)) = true := decide_eq_true (by omega)
                 have y22 : decide ((0 : Int) < (tb.tm : Int)) = false := decide_eq_false (by omega)
                 have z21 : decide (0 < ta.tm) = true := decide_eq_true c1
                 have z22 : decide (0 < tb.tm) = false := decide_eq_false c2
                 clear c1 c2 hN hmx hN0 hN2
                 as_aux_lemma =>
                 go_wp2_with (first
                   | ((with_reducible refine at_load (T := 31) ?_); refine wl_ldp rfl b_9 0 rfl _ hv.vars.ro 19 _ Try.underlying31 rfl infoT19 (by decide) (by rw [rowP_size (rowT_size _ _ _ _) (rowT_size _ _ _ _)]; decide) (rowT ta (.slice da1 dn1 dk1) (.slice ba1 bn1 bk1) (.slice pa1 pn1 pk1)) (rowP_t0 (rowT_size _ _ _ _) (rowT_size _ _ _ _)) ?_)
                   | ((with_reducible refine at_load (T := 31) ?_); refine wl_ldp rfl b_9 22 rfl _ hv.vars.ro 19 _ Try.underlying31 rfl infoT19 (by decide) (by rw [rowP_size (rowT_size _ _ _ _) (rowT_size _ _ _ _)]; decide) (rowT tb (.slice da2 dn2 dk2) (.slice ba2 bn2 bk2) (.slice pa2 pn2 pk2)) (rowP_t1 (rowT_size _ _ _ _) (rowT_size _ _ _ _)) ?_)
                   | (go_at_call 19; (with_reducible refine (Tick_Q hv HI1.out HCA.out (nw := N)).mono ?_); rintro e w1 ⟨R6, da5, dn5, dk5, ba5, bn5, bk5, pa5, pn5, pk5, l5, ov5, rfl, hm, hs5, hi5, ho5⟩; clear hv; have hv := hm; clear hm; have HS6 := Lib.hid hs5; have HI5 := Lib.hid hi5; have HO5 := Lib.hid ho5; clear hs5 hi5 ho5)
                   | ((with_reducible refine gAl 31 17 ?_); refine nwB hv #[.int .i64 0, .int .i64 0, .int .u32 0, .int .i64 0, .int .u32 0, .int .u32 0, .int .u32 0, .slice none 0 0, .int .i64 0, .bool false, .bool false, .int .u32 0, .slice none 0 0, .slice none 0 0, .bool false, .int .u64 0, .int .i64 0, .int .i64 0, .int .i64 0] 31 ?_; clear hv; intro b_17 w2 hv)
                   | ((with_reducible refine gSt 31 ?_); refine stV hv b_17 19 infoT19 ?_ (h1 := (rowT_one _ _ _ _ _ _ _ _ _ _)); clear hv; intro w2 hv)
                   | ((with_reducible refine gAl 31 19 ?_); obtain ⟨R7, hv7, hs7, ho7⟩ := lit0 hv ⟨rfl, made_alloc _ #[] 42⟩; clear hv; have hv := hv7; clear hv7; have HS7 := Lib.hid hs7; have HO7 := Lib.hid ho7; clear hs7 ho7; refine nwB hv #[.int .i64 0, .int .i64 0, .int .u32 0, .int .i64 0, .int .u32 0, .int .u32 0, .int .u32 0, .slice none 0 0, .int .i64 0, .bool false, .bool false, .int .u32 0, .slice none 0 0, .slice none 0 0, .bool false, .int .u64 0, .int .i64 0, .int .i64 0, .int .i64 0] 31 ?_; clear hv; intro b_19 w2 hv)
                   | ((with_reducible refine gSt 31 ?_); refine stV hv b_19 19 infoT19 ?_ (h1 := (rowT_one _ _ _ _ _ _ _ _ _ _)); clear hv; intro w2 hv)
                   | (go_at_call 19; (with_reducible refine (Tick_Q hv ((HI2.out.mono HS6.out).mono HS7.out) HCB.out (nw := N)).mono ?_); rintro e w1 ⟨R8, da6, dn6, dk6, ba6, bn6, bk6, pa6, pn6, pk6, l6, ov6, rfl, hm, hs5, hi5, ho5⟩; clear hv; have hv := hm; clear hm; have HS8 := Lib.hid hs5; have HI6 := Lib.hid hi5; have HO6 := Lib.hid ho5; clear hs5 hi5 ho5))
                 replace hv : Mem w _ ([(b_19, (rowT (Tp.tick N ⟨tb, []⟩).t (.slice da6 dn6 dk6) (.slice ba6 bn6 bk6) (.slice pa6 pn6 pk6))), (b_17, (rowT (Tp.tick N ⟨ta, []⟩).t (.slice da5 dn5 dk5) (.slice ba5 bn5 bk5) (.slice pa5 pn5 pk5))), (b_9, (rowP (rowT ta (.slice da1 dn1 dk1) (.slice ba1 bn1 bk1) (.slice pa1 pn1 pk1)) (.slice xa1 n1 xk1) la (.slice ya1 yn1 yk1) (rowT tb (.slice da2 dn2 dk2) (.slice ba2 bn2 bk2) (.slice pa2 pn2 pk2)) (.slice xa2 n2 xk2) lb (.slice ya2 yn2 yk2)))] ++ (s1.rows ++ (s2.rows ++ (t1.rows ++ t2.rows)))) _ := hv
                 try simp only [Act.put]
                 refine Bny.wp_region_walk _ _ [⟨[1001], none⟩, ⟨[1000], none⟩, ⟨[], none⟩, ⟨[], none⟩, ⟨[1002], some 1002⟩, ⟨[], none⟩, ⟨[], none⟩, ⟨[1002], some 1002⟩] [.val, .val, .val, .val, .put, .val, .val, .put] (by kernel_rfl) (by kernel_rfl) hv ?_
                 simp only [List.length_cons, List.length_nil, Nat.zero_add, Any.someVals]
                 iterate 8 apply Exists.intro
                 repeat (first
                   | (refine Bny.E_off rfl ?_; simp only [Act.put, sia, scs, scz])
                   | ((with_reducible refine Bny.at_estore (T := 31) ?_); refine Bny.E_putp (T := 31) (off := 0) rfl rfl rfl rfl rfl rfl 19 infoT19 rfl (by rw [rowP_size (rowT_size _ _ _ _) (rowT_size _ _ _ _)]; decide) (rowT_one _ _ _ _ _ _ _ _ _ _) (rowP_s0 (rowT_size _ _ _ _) (rowT_size _ _ _ _) (rowT_size _ _ _ _)) ?_; simp only [Act.put, sia, scs, scz])
                   | ((with_reducible refine Bny.at_estore (T := 31) ?_); refine Bny.E_putp (T := 31) (off := 22) rfl rfl rfl rfl rfl rfl 19 infoT19 rfl (by rw [rowP_size (rowT_size _ _ _ _) (rowT_size _ _ _ _)]; decide) (rowT_one _ _ _ _ _ _ _ _ _ _) (rowP_s1 (rowT_size _ _ _ _) (rowT_size _ _ _ _) (rowT_size _ _ _ _)) ?_; simp only [Act.put, sia, scs, scz])
                   | (apply Bny.E_pureq rfl rfl rfl
                      case h => intro K hK; go_big_quiet_op; (refine hK _ ?_; rfl)
                      case hr => exact fun _ => rfl
                      simp only [Act.put, sia, scs, scz])
                   | (apply Bny.E_val rfl rfl rfl rfl
                      case h =>
                        intro E' hA K hK
                        first
                          | ((with_reducible refine Bny.at_qload (T := 31) ?_); refine Bny.q_ldv 1001 hA (by decide) rfl rfl 19 _ Try.underlying31 rfl infoT19 (by decide) rfl ?_; refine hK _ ?_; rfl)
                          | ((with_reducible refine Bny.at_qload (T := 31) ?_); refine Bny.q_ldv 1000 hA (by decide) rfl rfl 19 _ Try.underlying31 rfl infoT19 (by decide) rfl ?_; refine hK _ ?_; rfl)
                          | (go_big_quiet_op; first
                            | (refine hK _ ?_; rfl)
                            | (refine ⟨_, fun _ _ => rfl, ?_⟩; refine hK _ ?_; rfl)
                            | (apply Exists.intro; refine ⟨fun w1 hw1 => ?_, ?_⟩; · (first
                                | fail)
                               refine hK _ ?_; rfl))
                      case hD => rfl
                      simp only [Act.put, sia, scs, scz]))
                 try any_goals exact undef
                 refine Bny.E_nil ?_
                 intro w9 hE9
                 replace hv : Mem w w9 ([(b_19, (rowT (Tp.tick N ⟨tb, []⟩).t (.slice da6 dn6 dk6) (.slice ba6 bn6 bk6) (.slice pa6 pn6 pk6))), (b_17, (rowT (Tp.tick N ⟨ta, []⟩).t (.slice da5 dn5 dk5) (.slice ba5 bn5 bk5) (.slice pa5 pn5 pk5))), (b_9, (rowP (rowT (Tp.tick N ⟨ta, []⟩).t (.slice da5 dn5 dk5) (.slice ba5 bn5 bk5) (.slice pa5 pn5 pk5)) (.slice xa1 n1 xk1) la (.slice ya1 yn1 yk1) (rowT (Tp.tick N ⟨tb, []⟩).t (.slice da6 dn6 dk6) (.slice ba6 bn6 bk6) (.slice pa6 pn6 pk6)) (.slice xa2 n2 xk2) lb (.slice ya2 yn2 yk2)))] ++ (s1.rows ++ (s2.rows ++ (t1.rows ++ t2.rows)))) R8 := hE9.mem0 [1000, 1001, 1002] (by decide)
                 clear hE9
                 simp only [List.cons_append, List.nil_append] at hv
                 replace hv := hv.drop.drop
                 go_wp2
                 obtain ⟨gs2, hq2, ha2, he2⟩ := HQ2.out
                 obtain ⟨gs1, hq1, ha1, he1⟩ := HQ1.out
                 obtain ⟨g5, ho5, ha5, he5⟩ := HO5.out.mono (fun x hx => HS8.out x (HS7.out x hx))
                 obtain ⟨g6, ho6, ha6, he6⟩ := HO6.out
                 obtain ⟨o5, m5, k5, rfl, _⟩ := hv.rd ho5
                 obtain ⟨o6, m6, k6, e6, _⟩ := hv.rd ho6
                 subst e6
                 have HQS2 := Lib.hid hq2
                 have HQS1 := Lib.hid hq1
                 have HOM5 := Lib.hid ho5
                 have HOM6 := Lib.hid ho6
                 have HLG5 : Hid (∃ m, (cellsG g5).length = m * 7) := Lib.hid ⟨_, cellsG_len _⟩
                 have HLG6 : Hid (∃ m, (cellsG g6).length = m * 7) := Lib.hid ⟨_, cellsG_len _⟩
                 have HOC5 := Lib.hid (cellsG_oneQ ha5 hv)
                 have HOC6 := Lib.hid (cellsG_oneQ ha6 hv)
                 have HBG2 : Hid (gs2.length + g5.length ≤ 100000) := Lib.hid (by
                   have h1 := congrArg List.length he2
                   have h2 := congrArg List.length he5
                   have h3 := tick_len N ta
                   rw [List.length_map] at h1 h2
                   simp only [List.length_nil] at h1
                   omega)
                 have HBG1 : Hid (gs1.length + g6.length ≤ 100000) := Lib.hid (by
                   have h1 := congrArg List.length he1
                   have h2 := congrArg List.length he6
                   have h3 := tick_len N tb
                   rw [List.length_map] at h1 h2
                   simp only [List.length_nil] at h1
                   omega)
                 have HR1 := Lib.hid hq1.reads
                 have HR2 := Lib.hid hq2.reads
                 have HR3 := Lib.hid HG1.out.reads
                 have HR4 := Lib.hid HG2.out.reads
                 have HSN : Hid (∀ x ∈ R5, x ∈ R8) := Lib.hid (fun x hx => HS8.out x (HS7.out x (HS6.out x hx)))
                 have HA2 := Lib.hid (ha2.mono HSN.out)
                 have HA1 := Lib.hid (ha1.mono HSN.out)
                 have HA5 := Lib.hid ha5
                 have HA6 := Lib.hid ha6
                 have HE2 := Lib.hid he2
                 have HE1 := Lib.hid he1
                 have HE5 := Lib.hid he5
                 have HE6 := Lib.hid he6
                 clear hq2 ha2 he2 hq1 ha1 he1 ho5 ha5 he5 ho6 ha6 he6
                 have hv0 := Mem.cast hv (show _ = (([.row b_9 (rowP (rowT (Tp.tick N ⟨ta, []⟩).t (.slice da5 dn5 dk5) (.slice ba5 bn5 bk5) (.slice pa5 pn5 pk5)) (.slice xa1 n1 xk1) la (.slice ya1 yn1 yk1) (rowT (Tp.tick N ⟨tb, []⟩).t (.slice da6 dn6 dk6) (.slice ba6 bn6 bk6) (.slice pa6 pn6 pk6)) (.slice xa2 n2 xk2) lb (.slice ya2 yn2 yk2)), s1, s2, t1, t2] : List Bny.Slot).flatMap Bny.Slot.rows ++ []) from by simp [Bny.Slot.rows])
                 clear hv
                 try simp only [Act.put]
                 refine Bny.wp_region_walkS [.row b_9 (rowP (rowT (Tp.tick N ⟨ta, []⟩).t (.slice da5 dn5 dk5) (.slice ba5 bn5 bk5) (.slice pa5 pn5 pk5)) (.slice xa1 n1 xk1) la (.slice ya1 yn1 yk1) (rowT (Tp.tick N ⟨tb, []⟩).t (.slice da6 dn6 dk6) (.slice ba6 bn6 bk6) (.slice pa6 pn6 pk6)) (.slice xa2 n2 xk2) lb (.slice ya2 yn2 yk2)), s1, s2, t1, t2] [] [⟨[], none⟩, ⟨[], none⟩, ⟨[1000], none⟩, ⟨[], none⟩, ⟨[], some 1002⟩, ⟨[], none⟩, ⟨[], none⟩, ⟨[1000], none⟩, ⟨[], none⟩, ⟨[], some 1001⟩, ⟨[], none⟩, ⟨[], none⟩, ⟨[1000], some 1000⟩, ⟨[], none⟩, ⟨[], none⟩, ⟨[1000], some 1000⟩] [.val, .val, .val, .val, .slot (Bny.QS 7 (cellsG gs2 ++ cellsG g5)), .val, .val, .val, .val, .slot (Bny.QS 7 (cellsG gs1 ++ cellsG g6)), .val, .val, .put, .val, .val, .put] (by kernel_rfl) (by kernel_rfl) hv0 (by exact slots5 HR1.out HR2.out HR3.out HR4.out) ?_
                 clear hv0
                 simp only [List.length_cons, List.length_nil, Nat.zero_add, Any.someVals]
                 iterate 16 apply Exists.intro
                 repeat (first
                   | (refine Bny.E_off rfl ?_; simp only [Act.put, sia, scs, scz])
                   | ((with_reducible refine Bny.gE 32 ?_); refine Bny.eC 1000 (.slice xa2 n2 xk2) Try.underlying32 ?_ (hc := rowP_i1 (rowT_size _ _ _ _) (rowT_size _ _ _ _)); simp only [Act.put, sia, scs, scz])
                   | ((with_reducible refine Bny.gE 32 ?_); refine Bny.eC 1000 (.slice xa1 n1 xk1) Try.underlying32 ?_ (hc := rowP_i0 (rowT_size _ _ _ _)); simp only [Act.put, sia, scs, scz])
                   | ((with_reducible refine Bny.at_eappQ (t := 32) (dst := some 150) ?_); refine Bny.E_appQ rfl rfl rfl rfl rfl HQS2.out rfl (Or.inl HOM5.out) (.agg #[.int .i64 0, .int .i64 0, .int .u32 0, .int .u32 0, .int .i64 0, .int .i64 0, .slice none 0 0]) 64 Try.underlying32 infoGz rfl (by decide) HLG5.out HOC5.out (app_bq HBG2.out).1 (app_bq HBG2.out).2 ?_; intro v9 sl9 hq9; obtain ⟨x9, n9, k9, rfl, hn9⟩ := hq9.own.slice; clear hn9; have HQ9 := Lib.hid hq9; clear hq9; simp only [Act.put, sia, scs, scz])
                   | ((with_reducible refine Bny.at_eappQ (t := 32) (dst := some 155) ?_); refine Bny.E_appQ rfl rfl rfl rfl rfl HQS1.out rfl (Or.inl HOM6.out) (.agg #[.int .i64 0, .int .i64 0, .int .u32 0, .int .u32 0, .int .i64 0, .int .i64 0, .slice none 0 0]) 64 Try.underlying32 infoGz rfl (by decide) HLG6.out HOC6.out (app_bq HBG1.out).1 (app_bq HBG1.out).2 ?_; intro v9 sl8 hq9; obtain ⟨x8, n8, k8, rfl, hn9⟩ := hq9.own.slice; clear hn9; have HQ8 := Lib.hid hq9; clear hq9; simp only [Act.put, sia, scs, scz])
                   | ((with_reducible refine Bny.at_estore (T := 32) ?_); refine Bny.eP 41 (rowP_set41 (rowT_size _ _ _ _) (rowT_size _ _ _ _)) (Nat.lt_of_lt_of_eq (by decide : 41 < 44) (rowP_size (rowT_size _ _ _ _) (rowT_size _ _ _ _)).symm) (by kernel_rfl) ?_; simp only [Act.put, sia, scs, scz])
                   | ((with_reducible refine Bny.at_estore (T := 32) ?_); refine Bny.eP 19 (rowP_set19 (rowT_size _ _ _ _) (rowT_size _ _ _ _)) (Nat.lt_of_lt_of_eq (by decide : 19 < 44) (rowP_size (rowT_size _ _ _ _) (rowT_size _ _ _ _)).symm) (by kernel_rfl) ?_; simp only [Act.put, sia, scs, scz])
                   | (apply Bny.E_pureq rfl rfl rfl
                      case h => intro K hK; go_big_quiet_op; (refine hK _ ?_; rfl)
                      case hr => exact fun _ => rfl
                      simp only [Act.put, sia, scs, scz])
                   | (apply Bny.E_val rfl rfl rfl rfl
                      case h =>
                        intro E' hA K hK
                        first
                          | (go_big_quiet_op; first
                            | (refine hK _ ?_; rfl)
                            | (refine ⟨_, fun _ _ => rfl, ?_⟩; refine hK _ ?_; rfl)
                            | (apply Exists.intro; refine ⟨fun w1 hw1 => ?_, ?_⟩; · (first
                                | fail)
                               refine hK _ ?_; rfl))
                      case hD => rfl
                      simp only [Act.put, sia, scs, scz]))
                 try any_goals exact undef
                 refine Bny.E_nil ?_
                 intro w9 hE9
                 have hv : Mem w w9 (((b_9, (rowP (rowT (Tp.tick N ⟨ta, []⟩).t (.slice da5 dn5 dk5) (.slice ba5 bn5 bk5) (.slice pa5 pn5 pk5)) (.slice x8 n8 k8) la (.slice ya1 yn1 yk1) (rowT (Tp.tick N ⟨tb, []⟩).t (.slice da6 dn6 dk6) (.slice ba6 bn6 bk6) (.slice pa6 pn6 pk6)) (.slice x9 n9 k9) lb (.slice ya2 yn2 yk2))) :: (sl8.rows ++ (sl9.rows ++ (t1.rows ++ (t2.rows ++ []))))) ++ []) R8 := hE9.mem0 [1000, 1001, 1002, 1003, 1004] (by decide)
                 clear hE9
                 simp only [List.cons_append, List.nil_append, List.append_nil] at hv
                 go_wp2
                 refine ⟨?rel, ?measure⟩
                 case rel =>
                   refine ⟨n + 1, k, N, la, lb, true, s', (Tp.tick N ⟨ta, []⟩).t, (Tp.tick N ⟨tb, []⟩).t, [] ++ (Tp.tick N ⟨tb, []⟩).out, [] ++ (Tp.tick N ⟨ta, []⟩).out, R8, rfl, rfl, rfl, rfl, by omega, by omega, ⟨da5, dn5, dk5, ba5, bn5, bk5, pa5, pn5, pk5, l5, da6, dn6, dk6, ba6, bn6, bk6, pa6, pn6, pk6, l6, _, _, _, _, sl8, sl9, t1, t2, hv, HI5.out.mono (fun x hx => HS8.out x (HS7.out x hx)), HI6.out, QQ.app HQ8.out HA1.out HA6.out HE1.out HE6.out, QQ.app HQ9.out HA2.out HA5.out HE2.out HE5.out, HG1.out, HG2.out⟩, HK', Lib.hid (by rw [show 200 - (n + 1) = m from by omega]; exact HC'.out), Lib.hid (fun h => by cases h), Lib.hid (by
                     have h1 := tick_len N ta
                     have h2 := tick_len N tb
                     simp only [List.length_append, List.length_nil]
                     omega), Lib.hid ⟨HE'.out.1.trans HSE.out.1, HE'.out.2.1, HE'.out.2.2.1.trans HSE.out.2.2.1, HE'.out.2.2.2.trans HSE.out.2.2.2⟩, Lib.hid (fun x hx => HSN.out x (HS.out x hx))⟩
                 case measure =>
                   show 200 - ((n : Int) + 1).toNat < 200 - ((n : Nat) : Int).toNat
                   omega
               · have q20 : max (ta.tm : Int) (tb.tm : Int) = (N : Int) := by rw [if_neg (fun h => c1 h.1)] at hN; omega
                 have y21 : decide ((0 : Int) < (ta.tm : Int)) = false := decide_eq_false (by omega)
                 have y22 : decide ((0 : Int) < (tb.tm : Int)) = true := decide_eq_true (by omega)
                 have z21 : decide (0 < ta.tm) = false := decide_eq_false c1
                 have z22 : decide (0 < tb.tm) = true := decide_eq_true c2
                 clear c1 c2 hN hmx hN0 hN2
                 as_aux_lemma =>
                 go_wp2_with (first
                   | ((with_reducible refine at_load (T := 31) ?_); refine wl_ldp rfl b_9 0 rfl _ hv.vars.ro 19 _ Try.underlying31 rfl infoT19 (by decide) (by rw [rowP_size (rowT_size _ _ _ _) (rowT_size _ _ _ _)]; decide) (rowT ta (.slice da1 dn1 dk1) (.slice ba1 bn1 bk1) (.slice pa1 pn1 pk1)) (rowP_t0 (rowT_size _ _ _ _) (rowT_size _ _ _ _)) ?_)
                   | ((with_reducible refine at_load (T := 31) ?_); refine wl_ldp rfl b_9 22 rfl _ hv.vars.ro 19 _ Try.underlying31 rfl infoT19 (by decide) (by rw [rowP_size (rowT_size _ _ _ _) (rowT_size _ _ _ _)]; decide) (rowT tb (.slice da2 dn2 dk2) (.slice ba2 bn2 bk2) (.slice pa2 pn2 pk2)) (rowP_t1 (rowT_size _ _ _ _) (rowT_size _ _ _ _)) ?_)
                   | (go_at_call 19; (with_reducible refine (Tick_Q hv HI1.out HCA.out (nw := N)).mono ?_); rintro e w1 ⟨R6, da5, dn5, dk5, ba5, bn5, bk5, pa5, pn5, pk5, l5, ov5, rfl, hm, hs5, hi5, ho5⟩; clear hv; have hv := hm; clear hm; have HS6 := Lib.hid hs5; have HI5 := Lib.hid hi5; have HO5 := Lib.hid ho5; clear hs5 hi5 ho5)
                   | ((with_reducible refine gAl 31 17 ?_); refine nwB hv #[.int .i64 0, .int .i64 0, .int .u32 0, .int .i64 0, .int .u32 0, .int .u32 0, .int .u32 0, .slice none 0 0, .int .i64 0, .bool false, .bool false, .int .u32 0, .slice none 0 0, .slice none 0 0, .bool false, .int .u64 0, .int .i64 0, .int .i64 0, .int .i64 0] 31 ?_; clear hv; intro b_17 w2 hv)
                   | ((with_reducible refine gSt 31 ?_); refine stV hv b_17 19 infoT19 ?_ (h1 := (rowT_one _ _ _ _ _ _ _ _ _ _)); clear hv; intro w2 hv)
                   | ((with_reducible refine gAl 31 19 ?_); obtain ⟨R7, hv7, hs7, ho7⟩ := lit0 hv ⟨rfl, made_alloc _ #[] 42⟩; clear hv; have hv := hv7; clear hv7; have HS7 := Lib.hid hs7; have HO7 := Lib.hid ho7; clear hs7 ho7; refine nwB hv #[.int .i64 0, .int .i64 0, .int .u32 0, .int .i64 0, .int .u32 0, .int .u32 0, .int .u32 0, .slice none 0 0, .int .i64 0, .bool false, .bool false, .int .u32 0, .slice none 0 0, .slice none 0 0, .bool false, .int .u64 0, .int .i64 0, .int .i64 0, .int .i64 0] 31 ?_; clear hv; intro b_19 w2 hv)
                   | ((with_reducible refine gSt 31 ?_); refine stV hv b_19 19 infoT19 ?_ (h1 := (rowT_one _ _ _ _ _ _ _ _ _ _)); clear hv; intro w2 hv)
                   | (go_at_call 19; (with_reducible refine (Tick_Q hv ((HI2.out.mono HS6.out).mono HS7.out) HCB.out (nw := N)).mono ?_); rintro e w1 ⟨R8, da6, dn6, dk6, ba6, bn6, bk6, pa6, pn6, pk6, l6, ov6, rfl, hm, hs5, hi5, ho5⟩; clear hv; have hv := hm; clear hm; have HS8 := Lib.hid hs5; have HI6 := Lib.hid hi5; have HO6 := Lib.hid ho5; clear hs5 hi5 ho5))
                 replace hv : Mem w _ ([(b_19, (rowT (Tp.tick N ⟨tb, []⟩).t (.slice da6 dn6 dk6) (.slice ba6 bn6 bk6) (.slice pa6 pn6 pk6))), (b_17, (rowT (Tp.tick N ⟨ta, []⟩).t (.slice da5 dn5 dk5) (.slice ba5 bn5 bk5) (.slice pa5 pn5 pk5))), (b_9, (rowP (rowT ta (.slice da1 dn1 dk1) (.slice ba1 bn1 bk1) (.slice pa1 pn1 pk1)) (.slice xa1 n1 xk1) la (.slice ya1 yn1 yk1) (rowT tb (.slice da2 dn2 dk2) (.slice ba2 bn2 bk2) (.slice pa2 pn2 pk2)) (.slice xa2 n2 xk2) lb (.slice ya2 yn2 yk2)))] ++ (s1.rows ++ (s2.rows ++ (t1.rows ++ t2.rows)))) _ := hv
                 try simp only [Act.put]
                 refine Bny.wp_region_walk _ _ [⟨[1001], none⟩, ⟨[1000], none⟩, ⟨[], none⟩, ⟨[], none⟩, ⟨[1002], some 1002⟩, ⟨[], none⟩, ⟨[], none⟩, ⟨[1002], some 1002⟩] [.val, .val, .val, .val, .put, .val, .val, .put] (by kernel_rfl) (by kernel_rfl) hv ?_
                 simp only [List.length_cons, List.length_nil, Nat.zero_add, Any.someVals]
                 iterate 8 apply Exists.intro
                 repeat (first
                   | (refine Bny.E_off rfl ?_; simp only [Act.put, sia, scs, scz])
                   | ((with_reducible refine Bny.at_estore (T := 31) ?_); refine Bny.E_putp (T := 31) (off := 0) rfl rfl rfl rfl rfl rfl 19 infoT19 rfl (by rw [rowP_size (rowT_size _ _ _ _) (rowT_size _ _ _ _)]; decide) (rowT_one _ _ _ _ _ _ _ _ _ _) (rowP_s0 (rowT_size _ _ _ _) (rowT_size _ _ _ _) (rowT_size _ _ _ _)) ?_; simp only [Act.put, sia, scs, scz])
                   | ((with_reducible refine Bny.at_estore (T := 31) ?_); refine Bny.E_putp (T := 31) (off := 22) rfl rfl rfl rfl rfl rfl 19 infoT19 rfl (by rw [rowP_size (rowT_size _ _ _ _) (rowT_size _ _ _ _)]; decide) (rowT_one _ _ _ _ _ _ _ _ _ _) (rowP_s1 (rowT_size _ _ _ _) (rowT_size _ _ _ _) (rowT_size _ _ _ _)) ?_; simp only [Act.put, sia, scs, scz])
                   | (apply Bny.E_pureq rfl rfl rfl
                      case h => intro K hK; go_big_quiet_op; (refine hK _ ?_; rfl)
                      case hr => exact fun _ => rfl
                      simp only [Act.put, sia, scs, scz])
                   | (apply Bny.E_val rfl rfl rfl rfl
                      case h =>
                        intro E' hA K hK
                        first
                          | ((with_reducible refine Bny.at_qload (T := 31) ?_); refine Bny.q_ldv 1001 hA (by decide) rfl rfl 19 _ Try.underlying31 rfl infoT19 (by decide) rfl ?_; refine hK _ ?_; rfl)
                          | ((with_reducible refine Bny.at_qload (T := 31) ?_); refine Bny.q_ldv 1000 hA (by decide) rfl rfl 19 _ Try.underlying31 rfl infoT19 (by decide) rfl ?_; refine hK _ ?_; rfl)
                          | (go_big_quiet_op; first
                            | (refine hK _ ?_; rfl)
                            | (refine ⟨_, fun _ _ => rfl, ?_⟩; refine hK _ ?_; rfl)
                            | (apply Exists.intro; refine ⟨fun w1 hw1 => ?_, ?_⟩; · (first
                                | fail)
                               refine hK _ ?_; rfl))
                      case hD => rfl
                      simp only [Act.put, sia, scs, scz]))
                 try any_goals exact undef
                 refine Bny.E_nil ?_
                 intro w9 hE9
                 replace hv : Mem w w9 ([(b_19, (rowT (Tp.tick N ⟨tb, []⟩).t (.slice da6 dn6 dk6) (.slice ba6 bn6 bk6) (.slice pa6 pn6 pk6))), (b_17, (rowT (Tp.tick N ⟨ta, []⟩).t (.slice da5 dn5 dk5) (.slice ba5 bn5 bk5) (.slice pa5 pn5 pk5))), (b_9, (rowP (rowT (Tp.tick N ⟨ta, []⟩).t (.slice da5 dn5 dk5) (.slice ba5 bn5 bk5) (.slice pa5 pn5 pk5)) (.slice xa1 n1 xk1) la (.slice ya1 yn1 yk1) (rowT (Tp.tick N ⟨tb, []⟩).t (.slice da6 dn6 dk6) (.slice ba6 bn6 bk6) (.slice pa6 pn6 pk6)) (.slice xa2 n2 xk2) lb (.slice ya2 yn2 yk2)))] ++ (s1.rows ++ (s2.rows ++ (t1.rows ++ t2.rows)))) R8 := hE9.mem0 [1000, 1001, 1002] (by decide)
                 clear hE9
                 simp only [List.cons_append, List.nil_append] at hv
                 replace hv := hv.drop.drop
                 go_wp2
                 obtain ⟨gs2, hq2, ha2, he2⟩ := HQ2.out
                 obtain ⟨gs1, hq1, ha1, he1⟩ := HQ1.out
                 obtain ⟨g5, ho5, ha5, he5⟩ := HO5.out.mono (fun x hx => HS8.out x (HS7.out x hx))
                 obtain ⟨g6, ho6, ha6, he6⟩ := HO6.out
                 obtain ⟨o5, m5, k5, rfl, _⟩ := hv.rd ho5
                 obtain ⟨o6, m6, k6, e6, _⟩ := hv.rd ho6
                 subst e6
                 have HQS2 := Lib.hid hq2
                 have HQS1 := Lib.hid hq1
                 have HOM5 := Lib.hid ho5
                 have HOM6 := Lib.hid ho6
                 have HLG5 : Hid (∃ m, (cellsG g5).length = m * 7) := Lib.hid ⟨_, cellsG_len _⟩
                 have HLG6 : Hid (∃ m, (cellsG g6).length = m * 7) := Lib.hid ⟨_, cellsG_len _⟩
                 have HOC5 := Lib.hid (cellsG_oneQ ha5 hv)
                 have HOC6 := Lib.hid (cellsG_oneQ ha6 hv)
                 have HBG2 : Hid (gs2.length + g5.length ≤ 100000) := Lib.hid (by
                   have h1 := congrArg List.length he2
                   have h2 := congrArg List.length he5
                   have h3 := tick_len N ta
                   rw [List.length_map] at h1 h2
                   simp only [List.length_nil] at h1
                   omega)
                 have HBG1 : Hid (gs1.length + g6.length ≤ 100000) := Lib.hid (by
                   have h1 := congrArg List.length he1
                   have h2 := congrArg List.length he6
                   have h3 := tick_len N tb
                   rw [List.length_map] at h1 h2
                   simp only [List.length_nil] at h1
                   omega)
                 have HR1 := Lib.hid hq1.reads
                 have HR2 := Lib.hid hq2.reads
                 have HR3 := Lib.hid HG1.out.reads
                 have HR4 := Lib.hid HG2.out.reads
                 have HSN : Hid (∀ x ∈ R5, x ∈ R8) := Lib.hid (fun x hx => HS8.out x (HS7.out x (HS6.out x hx)))
                 have HA2 := Lib.hid (ha2.mono HSN.out)
                 have HA1 := Lib.hid (ha1.mono HSN.out)
                 have HA5 := Lib.hid ha5
                 have HA6 := Lib.hid ha6
                 have HE2 := Lib.hid he2
                 have HE1 := Lib.hid he1
                 have HE5 := Lib.hid he5
                 have HE6 := Lib.hid he6
                 clear hq2 ha2 he2 hq1 ha1 he1 ho5 ha5 he5 ho6 ha6 he6
                 have hv0 := Mem.cast hv (show _ = (([.row b_9 (rowP (rowT (Tp.tick N ⟨ta, []⟩).t (.slice da5 dn5 dk5) (.slice ba5 bn5 bk5) (.slice pa5 pn5 pk5)) (.slice xa1 n1 xk1) la (.slice ya1 yn1 yk1) (rowT (Tp.tick N ⟨tb, []⟩).t (.slice da6 dn6 dk6) (.slice ba6 bn6 bk6) (.slice pa6 pn6 pk6)) (.slice xa2 n2 xk2) lb (.slice ya2 yn2 yk2)), s1, s2, t1, t2] : List Bny.Slot).flatMap Bny.Slot.rows ++ []) from by simp [Bny.Slot.rows])
                 clear hv
                 try simp only [Act.put]
                 refine Bny.wp_region_walkS [.row b_9 (rowP (rowT (Tp.tick N ⟨ta, []⟩).t (.slice da5 dn5 dk5) (.slice ba5 bn5 bk5) (.slice pa5 pn5 pk5)) (.slice xa1 n1 xk1) la (.slice ya1 yn1 yk1) (rowT (Tp.tick N ⟨tb, []⟩).t (.slice da6 dn6 dk6) (.slice ba6 bn6 bk6) (.slice pa6 pn6 pk6)) (.slice xa2 n2 xk2) lb (.slice ya2 yn2 yk2)), s1, s2, t1, t2] [] [⟨[], none⟩, ⟨[], none⟩, ⟨[1000], none⟩, ⟨[], none⟩, ⟨[], some 1002⟩, ⟨[], none⟩, ⟨[], none⟩, ⟨[1000], none⟩, ⟨[], none⟩, ⟨[], some 1001⟩, ⟨[], none⟩, ⟨[], none⟩, ⟨[1000], some 1000⟩, ⟨[], none⟩, ⟨[], none⟩, ⟨[1000], some 1000⟩] [.val, .val, .val, .val, .slot (Bny.QS 7 (cellsG gs2 ++ cellsG g5)), .val, .val, .val, .val, .slot (Bny.QS 7 (cellsG gs1 ++ cellsG g6)), .val, .val, .put, .val, .val, .put] (by kernel_rfl) (by kernel_rfl) hv0 (by exact slots5 HR1.out HR2.out HR3.out HR4.out) ?_
                 clear hv0
                 simp only [List.length_cons, List.length_nil, Nat.zero_add, Any.someVals]
                 iterate 16 apply Exists.intro
                 repeat (first
                   | (refine Bny.E_off rfl ?_; simp only [Act.put, sia, scs, scz])
                   | ((with_reducible refine Bny.gE 32 ?_); refine Bny.eC 1000 (.slice xa2 n2 xk2) Try.underlying32 ?_ (hc := rowP_i1 (rowT_size _ _ _ _) (rowT_size _ _ _ _)); simp only [Act.put, sia, scs, scz])
                   | ((with_reducible refine Bny.gE 32 ?_); refine Bny.eC 1000 (.slice xa1 n1 xk1) Try.underlying32 ?_ (hc := rowP_i0 (rowT_size _ _ _ _)); simp only [Act.put, sia, scs, scz])
                   | ((with_reducible refine Bny.at_eappQ (t := 32) (dst := some 150) ?_); refine Bny.E_appQ rfl rfl rfl rfl rfl HQS2.out rfl (Or.inl HOM5.out) (.agg #[.int .i64 0, .int .i64 0, .int .u32 0, .int .u32 0, .int .i64 0, .int .i64 0, .slice none 0 0]) 64 Try.underlying32 infoGz rfl (by decide) HLG5.out HOC5.out (app_bq HBG2.out).1 (app_bq HBG2.out).2 ?_; intro v9 sl9 hq9; obtain ⟨x9, n9, k9, rfl, hn9⟩ := hq9.own.slice; clear hn9; have HQ9 := Lib.hid hq9; clear hq9; simp only [Act.put, sia, scs, scz])
                   | ((with_reducible refine Bny.at_eappQ (t := 32) (dst := some 155) ?_); refine Bny.E_appQ rfl rfl rfl rfl rfl HQS1.out rfl (Or.inl HOM6.out) (.agg #[.int .i64 0, .int .i64 0, .int .u32 0, .int .u32 0, .int .i64 0, .int .i64 0, .slice none 0 0]) 64 Try.underlying32 infoGz rfl (by decide) HLG6.out HOC6.out (app_bq HBG1.out).1 (app_bq HBG1.out).2 ?_; intro v9 sl8 hq9; obtain ⟨x8, n8, k8, rfl, hn9⟩ := hq9.own.slice; clear hn9; have HQ8 := Lib.hid hq9; clear hq9; simp only [Act.put, sia, scs, scz])
                   | ((with_reducible refine Bny.at_estore (T := 32) ?_); refine Bny.eP 41 (rowP_set41 (rowT_size _ _ _ _) (rowT_size _ _ _ _)) (Nat.lt_of_lt_of_eq (by decide : 41 < 44) (rowP_size (rowT_size _ _ _ _) (rowT_size _ _ _ _)).symm) (by kernel_rfl) ?_; simp only [Act.put, sia, scs, scz])
                   | ((with_reducible refine Bny.at_estore (T := 32) ?_); refine Bny.eP 19 (rowP_set19 (rowT_size _ _ _ _) (rowT_size _ _ _ _)) (Nat.lt_of_lt_of_eq (by decide : 19 < 44) (rowP_size (rowT_size _ _ _ _) (rowT_size _ _ _ _)).symm) (by kernel_rfl) ?_; simp only [Act.put, sia, scs, scz])
                   | (apply Bny.E_pureq rfl rfl rfl
                      case h => intro K hK; go_big_quiet_op; (refine hK _ ?_; rfl)
                      case hr => exact fun _ => rfl
                      simp only [Act.put, sia, scs, scz])
                   | (apply Bny.E_val rfl rfl rfl rfl
                      case h =>
                        intro E' hA K hK
                        first
                          | (go_big_quiet_op; first
                            | (refine hK _ ?_; rfl)
                            | (refine ⟨_, fun _ _ => rfl, ?_⟩; refine hK _ ?_; rfl)
                            | (apply Exists.intro; refine ⟨fun w1 hw1 => ?_, ?_⟩; · (first
                                | fail)
                               refine hK _ ?_; rfl))
                      case hD => rfl
                      simp only [Act.put, sia, scs, scz]))
                 try any_goals exact undef
                 refine Bny.E_nil ?_
                 intro w9 hE9
                 have hv : Mem w w9 (((b_9, (rowP (rowT (Tp.tick N ⟨ta, []⟩).t (.slice da5 dn5 dk5) (.slice ba5 bn5 bk5) (.slice pa5 pn5 pk5)) (.slice x8 n8 k8) la (.slice ya1 yn1 yk1) (rowT (Tp.tick N ⟨tb, []⟩).t (.slice da6 dn6 dk6) (.slice ba6 bn6 bk6) (.slice pa6 pn6 pk6)) (.slice x9 n9 k9) lb (.slice ya2 yn2 yk2))) :: (sl8.rows ++ (sl9.rows ++ (t1.rows ++ (t2.rows ++ []))))) ++ []) R8 := hE9.mem0 [1000, 1001, 1002, 1003, 1004] (by decide)
                 clear hE9
                 simp only [List.cons_append, List.nil_append, List.append_nil] at hv
                 go_wp2
                 refine ⟨?rel, ?measure⟩
                 case rel =>
                   refine ⟨n + 1, k, N, la, lb, true, s', (Tp.tick N ⟨ta, []⟩).t, (Tp.tick N ⟨tb, []⟩).t, [] ++ (Tp.tick N ⟨tb, []⟩).out, [] ++ (Tp.tick N ⟨ta, []⟩).out, R8, rfl, rfl, rfl, rfl, by omega, by omega, ⟨da5, dn5, dk5, ba5, bn5, bk5, pa5, pn5, pk5, l5, da6, dn6, dk6, ba6, bn6, bk6, pa6, pn6, pk6, l6, _, _, _, _, sl8, sl9, t1, t2, hv, HI5.out.mono (fun x hx => HS8.out x (HS7.out x hx)), HI6.out, QQ.app HQ8.out HA1.out HA6.out HE1.out HE6.out, QQ.app HQ9.out HA2.out HA5.out HE2.out HE5.out, HG1.out, HG2.out⟩, HK', Lib.hid (by rw [show 200 - (n + 1) = m from by omega]; exact HC'.out), Lib.hid (fun h => by cases h), Lib.hid (by
                     have h1 := tick_len N ta
                     have h2 := tick_len N tb
                     simp only [List.length_append, List.length_nil]
                     omega), Lib.hid ⟨HE'.out.1.trans HSE.out.1, HE'.out.2.1, HE'.out.2.2.1.trans HSE.out.2.2.1, HE'.out.2.2.2.trans HSE.out.2.2.2⟩, Lib.hid (fun x hx => HSN.out x (HS.out x hx))⟩
                 case measure =>
                   show 200 - ((n : Int) + 1).toNat < 200 - ((n : Nat) : Int).toNat
                   omega
             · as_aux_lemma =>
               obtain ⟨xa2, n2, xk2, rfl, hn2⟩ := hQ2.slice'
               obtain ⟨xb, xo, xk, sa, sn, sk, gr, e, hqs, hgd, hga, hgr⟩ := hQ1.head hv.q1
               subst e
               obtain ⟨n1, hn1⟩ : ∃ n, r.length + 1 = n := ⟨_, rfl⟩
               rw [hn1] at hv hqs hQ1
               have y2 : decide ((0 : Int) < (n2 : Int)) = false := decide_eq_false (by rw [← hn2]; decide)
               have z2 : decide (0 < n2) = false := decide_eq_false (by rw [← hn2]; decide)
               have y3 : ((n1 : Int) == 0) = false := by rw [beq_eq_false_iff_ne]; omega
               have hix : (0 : Int) < (n1 : Int) := by omega
               have hiy : 0 < n1 := by omega
               have HN1 : Hid (1 ≤ n1) := Lib.hid hiy
               have HXV : Hid (((cellsG ((g, Value.slice sa sn sk) :: gr)).drop 0).take 7 = (#[.int .i64 g.src, .int .i64 g.dst, .int .u32 g.seq, .int .u32 g.ack, .int .i64 g.fl, .int .i64 g.wnd, .slice sa sn sk] : Array Value).toList) := Lib.hid rfl
               have hk20 : k ≤ 20000 := by omega
               have q7 : IntKind.i64.wrap ((k : Int) + 1) = ((k + 1 : Nat) : Int) := by rw [IntWalk.i64_in _ (by omega)]; omega
               have hls := HS.out _ HLM.out
               obtain ⟨l3, hl3⟩ : ∃ n : Nat, la + 1 = n := ⟨_, rfl⟩
               have hlq : la ≤ 2 := hl2a
               have q8 : IntKind.i64.wrap ((la : Int) + 1) = (l3 : Int) := by rw [IntWalk.i64_in _ (by omega)]; omega
               have HQS := Lib.hid hqs
               have HGD := Lib.hid hgd
               have HGA := Lib.hid hga
               have HGR := Lib.hid hgr
               have HQX := Lib.hid hQ1
               have HQO := Lib.hid hQ2
               have HG1 := Lib.hid hG1
               have HG2 := Lib.hid hG2
               have HL3 := Lib.hid hl3
               have HNY := Lib.hid hn2
               clear hqs hgd hga hgr hQ1 hQ2 hG1 hG2 hl3 hn1 hn2 hl2a hl2b
               have hcase := lose4 hv hls (k := k) (lq := la)
               rcases hcase with ⟨lb9, lo9, rfl, hkl, hx, hl2⟩ | hkl | ⟨lb9, lo9, rfl, hkl, hx⟩ | ⟨lb9, lo9, rfl, hkl, hx, hl2⟩
               · as_aux_lemma =>
                 have y8 : decide ((la : Int) < 2) = true := decide_eq_true (by omega)
                 have z8 : decide (la < 2) = true := decide_eq_true (by omega)
                 have y6 : decide ((k : Int) < (ln : Int)) = true := decide_eq_true (by omega)
                 have z6 : decide (k < ln) = true := decide_eq_true hkl
                 have hkn : (k : Int) < (ln : Int) := by omega
                 have HLS := Lib.hid hls
                 have HXL := Lib.hid hx
                 have HL2 : Hid (la < 2) := Lib.hid hl2
                 clear hls hl2 hlq hx
                 go_wp2_with (first
                   | ((with_reducible refine gLd 3 ?_); refine ldC hv b_9 0 (.int .i64 ta.st) Try.underlying3 ?_ (hc := (rowP_a (rowT_size _ _ _ _) (by decide)).trans rfl))
                             | ((with_reducible refine gLd 3 ?_); refine ldC hv b_9 22 (.int .i64 tb.st) Try.underlying3 ?_ (hc := (rowP_b (rowT_size _ _ _ _) (rowT_size _ _ _ _) (k := 0) (by decide)).trans rfl))
                   | ((with_reducible refine gLd 22 ?_); refine ldC hv b_9 6 (.int .u32 ta.nx) Try.underlying22 ?_ (hc := (rowP_a (rowT_size _ _ _ _) (by decide)).trans rfl))
                   | ((with_reducible refine gLd 32 ?_); refine ldC hv b_9 41 (.slice xa2 n2 xk2) Try.underlying32 ?_ (hc := rowP_i1 (rowT_size _ _ _ _) (rowT_size _ _ _ _)))
                   | ((with_reducible refine gLd 32 ?_); refine ldC hv b_9 19 (.slice (some ⟨xb, xo, none⟩) n1 xk) Try.underlying32 ?_ (hc := rowP_i0 (rowT_size _ _ _ _)))
                   | ((with_reducible refine at_load (T := 42) ?_); refine wl_rdv rfl (kk := 7) (b := xb) (o := xo) (n := n1) (cap := xk) (c := cellsG ((g, Value.slice sa sn sk) :: gr)) (HQS.out.own.rd hv.q1) 0 rfl 7 _ Try.underlying42 rfl infoG7 (by decide) #[.int .i64 g.src, .int .i64 g.dst, .int .u32 g.seq, .int .u32 g.ack, .int .i64 g.fl, .int .i64 g.wnd, .slice sa sn sk] HXV.out rfl ?_)
                   | ((with_reducible refine gAl 42 21 ?_); refine nwB hv #[.int .i64 0, .int .i64 0, .int .u32 0, .int .u32 0, .int .i64 0, .int .i64 0, .slice none 0 0] 42 ?_; clear hv; intro b_21 w2 hv)
                   | ((with_reducible refine gSt 42 ?_); refine stV hv b_21 7 infoG7 ?_; clear hv; intro w2 hv)
                   | ((with_reducible refine at_slice (T := 32) ?_); refine wl_tailG rfl rfl rfl HQX.out hv.q2 Try.underlying32 infoG7 ?_; intro xa7 n7 xk7 s7 hn7 hq7 hv7; clear hv; have hv := hv7; clear hv7; simp only [List.append_assoc, List.cons_append, List.nil_append] at hv; have HN7 := Lib.hid hn7; have HQ7 := Lib.hid hq7; clear hn7 hq7)
                   | ((with_reducible refine gSt 32 ?_); refine stC hv b_9 19 (.slice xa7 n7 xk7) ?_ (hs := ⟨(SetM.s SetM.z), rowP_set19 (rowT_size _ _ _ _) (rowT_size _ _ _ _)⟩) (h0 := by rw [rowP_size (rowT_size _ _ _ _) (rowT_size _ _ _ _)]; decide); clear hv; intro w2 hv)
                   | ((with_reducible refine at_load (T := 4) ?_); refine wl_rd rfl (c := bl.map Value.bool) (hv.rd HLS.out) k rfl _ Try.underlying4 rfl (.bool true) HXL.out ?_)
                   | ((with_reducible refine gLd 3 ?_); refine ldC hv b_9 20 (.int .i64 la) Try.underlying3 ?_ (hc := rowP_l0 (rowT_size _ _ _ _)))
                   | ((with_reducible refine gSt 3 ?_); refine stC hv b_9 20 (.int .i64 l3) ?_ (hs := ⟨(SetM.s SetM.z), rowP_set20 (rowT_size _ _ _ _) (rowT_size _ _ _ _)⟩) (h0 := by rw [rowP_size (rowT_size _ _ _ _) (rowT_size _ _ _ _)]; decide); clear hv; intro w2 hv))
                 obtain ⟨s', hk', hc', e1, e2, e3, e4⟩ := HK.out.loseA HCC.out HDN.out (by rw [HSE.out.2.2.1]; exact HL2.out)
                 refine ⟨?rel, ?measure⟩
                 case rel =>
                   refine ⟨n + 1, k + 1, nw, l3, lb, _, s', _, _, r, [], R5, rfl, rfl, rfl, rfl, by omega, by omega, ⟨da1, dn1, dk1, ba1, bn1, bk1, pa1, pn1, pk1, l1, da2, dn2, dk2, ba2, bn2, bk2, pa2, pn2, pk2, l2, _, _, _, _, s7, s2, t1, t2, hv.drop, HI1.out, HI2.out, HQ7.out, HQO.out, HG1.out, HG2.out⟩, Lib.hid hk', Lib.hid (by rw [show 200 - (n + 1) = m from by omega]; exact hc'), Lib.hid (fun h => by cases h), Lib.hid (by have h := HQL.out; simp only [List.length_cons, List.length_nil] at h ⊢; omega), Lib.hid ⟨e1.trans HSE.out.1, e2.trans HSE.out.2.1, e3.trans (by rw [HSE.out.2.2.1]; exact HL3.out), e4.trans (by exact HSE.out.2.2.2)⟩, HS⟩
                 case measure =>
                   show 200 - ((n : Int) + 1).toNat < 200 - ((n : Nat) : Int).toNat
                   omega
               all_goals first
                 | (have y6 : decide ((k : Int) < (ln : Int)) = true := decide_eq_true (Int.ofNat_lt.2 hkl))
                 | (have y6 : decide ((k : Int) < (ln : Int)) = false := decide_eq_false (fun h => hkl (Int.ofNat_lt.1 h)))
               all_goals first
                 | (have z6 : decide (k < ln) = true := decide_eq_true hkl)
                 | (have z6 : decide (k < ln) = false := decide_eq_false hkl)
               all_goals try (have hkn := Int.ofNat_lt.2 hkl)
               all_goals first
                 | (have HXL := Lib.hid hx)
                 | (have HXL := Lib.hid True.intro)
               all_goals try (have y8 : decide ((la : Int) < 2) = false := decide_eq_false (fun h => hl2 (by exact_mod_cast h)))
               all_goals try (have z8 : decide (la < 2) = false := decide_eq_false hl2)
               all_goals try (clear hx)
               all_goals try (clear hl2)
               all_goals
                 as_aux_lemma =>
                 have HLS := Lib.hid hls
                 clear hls hlq
                 have hseg := HK.out.segA HCC.out HGD.out
                 have HGG := Lib.hid hseg
                 clear hseg
                 have HCK := Lib.hid (HK.out.chkA HIS.out HCC.out)
                 go_wp2_with (first
                   | ((with_reducible refine gLd 3 ?_); refine ldC hv b_9 0 (.int .i64 ta.st) Try.underlying3 ?_ (hc := (rowP_a (rowT_size _ _ _ _) (by decide)).trans rfl))
                   | ((with_reducible refine gLd 3 ?_); refine ldC hv b_9 22 (.int .i64 tb.st) Try.underlying3 ?_ (hc := (rowP_b (rowT_size _ _ _ _) (rowT_size _ _ _ _) (k := 0) (by decide)).trans rfl))
                   | ((with_reducible refine gLd 22 ?_); refine ldC hv b_9 6 (.int .u32 ta.nx) Try.underlying22 ?_ (hc := (rowP_a (rowT_size _ _ _ _) (by decide)).trans rfl))
                   | ((with_reducible refine gLd 32 ?_); refine ldC hv b_9 41 (.slice xa2 n2 xk2) Try.underlying32 ?_ (hc := rowP_i1 (rowT_size _ _ _ _) (rowT_size _ _ _ _)))
                   | ((with_reducible refine gLd 32 ?_); refine ldC hv b_9 19 (.slice (some ⟨xb, xo, none⟩) n1 xk) Try.underlying32 ?_ (hc := rowP_i0 (rowT_size _ _ _ _)))
                   | ((with_reducible refine at_load (T := 42) ?_); refine wl_rdv rfl (kk := 7) (b := xb) (o := xo) (n := n1) (cap := xk) (c := cellsG ((g, Value.slice sa sn sk) :: gr)) (HQS.out.own.rd hv.q1) 0 rfl 7 _ Try.underlying42 rfl infoG7 (by decide) #[.int .i64 g.src, .int .i64 g.dst, .int .u32 g.seq, .int .u32 g.ack, .int .i64 g.fl, .int .i64 g.wnd, .slice sa sn sk] HXV.out rfl ?_)
                   | ((with_reducible refine gAl 42 21 ?_); refine nwB hv #[.int .i64 0, .int .i64 0, .int .u32 0, .int .u32 0, .int .i64 0, .int .i64 0, .slice none 0 0] 42 ?_; clear hv; intro b_21 w2 hv)
                   | ((with_reducible refine gSt 42 ?_); refine stV hv b_21 7 infoG7 ?_; clear hv; intro w2 hv)
                   | ((with_reducible refine at_slice (T := 32) ?_); refine wl_tailG rfl rfl rfl HQX.out hv.q2 Try.underlying32 infoG7 ?_; intro xa7 n7 xk7 s7 hn7 hq7 hv7; clear hv; have hv := hv7; clear hv7; simp only [List.append_assoc, List.cons_append, List.nil_append] at hv; have HN7 := Lib.hid hn7; have HQ7 := Lib.hid hq7; clear hn7 hq7)
                   | ((with_reducible refine gSt 32 ?_); refine stC hv b_9 19 (.slice xa7 n7 xk7) ?_ (hs := ⟨(SetM.s SetM.z), rowP_set19 (rowT_size _ _ _ _) (rowT_size _ _ _ _)⟩) (h0 := by rw [rowP_size (rowT_size _ _ _ _) (rowT_size _ _ _ _)]; decide); clear hv; intro w2 hv)
                   | ((with_reducible refine at_load (T := 4) ?_); refine wl_rd rfl (c := bl.map Value.bool) (hv.rd HLS.out) k rfl _ Try.underlying4 rfl (.bool true) HXL.out ?_)
                   | ((with_reducible refine at_load (T := 4) ?_); refine wl_rd rfl (c := bl.map Value.bool) (hv.rd HLS.out) k rfl _ Try.underlying4 rfl (.bool false) HXL.out ?_)
                   | ((with_reducible refine gLd 3 ?_); refine ldC hv b_9 20 (.int .i64 la) Try.underlying3 ?_ (hc := rowP_l0 (rowT_size _ _ _ _)))
                   | ((with_reducible refine gSt 3 ?_); refine stC hv b_9 20 (.int .i64 ((0 : Nat) : Int)) ?_ (hs := ⟨(SetM.s SetM.z), rowP_set20 (rowT_size _ _ _ _) (rowT_size _ _ _ _)⟩) (h0 := by rw [rowP_size (rowT_size _ _ _ _) (rowT_size _ _ _ _)]; decide); clear hv; intro w2 hv))
                 have HR1 := Lib.hid HQ7.out.reads
                 have HR2 := Lib.hid HQO.out.reads
                 have HR3 := Lib.hid HG1.out.reads
                 have HR4 := Lib.hid HG2.out.reads
                 have HSC : Hid (∃ v R', TkQ R5 nw g ta v R') := Lib.hid (Bny.some_of (Take_Q hv (fun x hx => hx) HI1.out HCK.out (nw := nw) HGG.out))
                 have hv0 := Mem.cast hv (show _ = (([.row b_21 #[.int .i64 g.src, .int .i64 g.dst, .int .u32 g.seq, .int .u32 g.ack, .int .i64 g.fl, .int .i64 g.wnd, .slice sa sn sk], .row b_9 (rowP (rowT ta (.slice da1 dn1 dk1) (.slice ba1 bn1 bk1) (.slice pa1 pn1 pk1)) (.slice xa7 n7 xk7) 0 (.slice ya1 yn1 yk1) (rowT tb (.slice da2 dn2 dk2) (.slice ba2 bn2 bk2) (.slice pa2 pn2 pk2)) (.slice xa2 n2 xk2) lb (.slice ya2 yn2 yk2)), s7, s2, t1, t2] : List Bny.Slot).flatMap Bny.Slot.rows ++ []) from by simp [Bny.Slot.rows])
                 clear hv
                 try simp only [Act.put]
                 refine Bny.wp_region_walkS [.row b_21 #[.int .i64 g.src, .int .i64 g.dst, .int .u32 g.seq, .int .u32 g.ack, .int .i64 g.fl, .int .i64 g.wnd, .slice sa sn sk], .row b_9 (rowP (rowT ta (.slice da1 dn1 dk1) (.slice ba1 bn1 bk1) (.slice pa1 pn1 pk1)) (.slice xa7 n7 xk7) 0 (.slice ya1 yn1 yk1) (rowT tb (.slice da2 dn2 dk2) (.slice ba2 bn2 bk2) (.slice pa2 pn2 pk2)) (.slice xa2 n2 xk2) lb (.slice ya2 yn2 yk2)), s7, s2, t1, t2] [] [⟨[], none⟩, ⟨[], none⟩, ⟨[], none⟩, ⟨[1001], none⟩, ⟨[1000], none⟩, ⟨[], none⟩, ⟨[], some 6⟩, ⟨[], none⟩, ⟨[], none⟩, ⟨[], none⟩, ⟨[], some 10⟩, ⟨[10], some 10⟩] [.val, .val, .val, .val, .val, .val, .mem (TkQ R5 nw g ta), .pure, .pure, .pure, .lay #[.int .i64 0, .int .i64 0, .int .u32 0, .int .i64 0, .int .u32 0, .int .u32 0, .int .u32 0, .slice none 0 0, .int .i64 0, .bool false, .bool false, .int .u32 0, .slice none 0 0, .slice none 0 0, .bool false, .int .u64 0, .int .i64 0, .int .i64 0, .int .i64 0], .put, .pure] (by kernel_rfl) (by kernel_rfl) hv0 (by exact slots6 HR1.out HR2.out HR3.out HR4.out) ?_
                 clear hv0
                 simp only [List.length_cons, List.length_nil, Nat.zero_add, Any.someVals]
                 iterate 13 apply Exists.intro
                 repeat (first
                   | (refine Bny.E_off rfl ?_; simp only [Act.put, sia, scs, scz])
                   | ((with_reducible refine Bny.at_ealloc ?_); refine Bny.E_lay (t := 31) rfl rfl rfl (fun _ => rfl) ?_; intro b_26; simp only [Act.put, sia, scs, scz])
                   | ((with_reducible refine Bny.gE 31 ?_); refine Bny.eX 1001 0 19 (rowT ta (.slice da1 dn1 dk1) (.slice ba1 bn1 bk1) (.slice pa1 pn1 pk1)) Try.underlying31 infoT19 (rowP_t0 (rowT_size _ _ _ _) (rowT_size _ _ _ _)) (Nat.le_trans (by decide : 0 + 19 ≤ 44) (Nat.le_of_eq (rowP_size (rowT_size _ _ _ _) (rowT_size _ _ _ _)).symm)) ?_; simp only [Act.put, sia, scs, scz])
                   | ((with_reducible refine Bny.at_estore (T := 31) ?_); refine Bny.E_putv (T := 31) rfl rfl rfl rfl rfl rfl 19 infoT19 rfl rfl (rowT_one _ _ _ _ _ _ _ _ _ _) ?_; simp only [Act.put, sia, scs, scz])
                   | ((with_reducible refine Bny.at_ecallf (f := 13) ?_); refine Bny.E_callmem rfl rfl rfl (Go.Proofs.enters_of Try.func13 (by kernel_rfl) rfl) rfl [.agg (rowT ta (.slice da1 dn1 dk1) (.slice ba1 bn1 bk1) (.slice pa1 pn1 pk1)), .agg #[.int .i64 g.src, .int .i64 g.dst, .int .u32 g.seq, .int .u32 g.ack, .int .i64 g.fl, .int .i64 g.wnd, .slice sa sn sk], .int .u64 nw] rfl HSC.out R5 (fun x hx => .inl hx) (fun w0 w L R' hm hs => by have h := Take_Q hm hs HI1.out HCK.out (nw := nw) HGG.out; exact h) ?_; rintro v R6 ⟨c3, da3, dn3, dk3, ba3, bn3, bk3, pa3, pn3, pk3, l3', ov3, he, ht3, hi3, ho3, hs3⟩; obtain rfl : v = .tuple #[.agg (rowT c3.t (.slice da3 dn3 dk3) (.slice ba3 bn3 bk3) (.slice pa3 pn3 pk3)), ov3] := he; have HT3 := Lib.hid ht3; have HI3' := Lib.hid hi3; have HO3 := Lib.hid ho3; have HS6 := Lib.hid hs3; clear ht3 hi3 ho3 hs3; simp only [Act.put, sia, scs, scz])
                   | (apply Bny.E_pureq rfl rfl rfl
                      case h => intro K hK; go_big_quiet_op; (refine hK _ ?_; rfl)
                      case hr => exact fun _ => rfl
                      simp only [Act.put, sia, scs, scz])
                   | (apply Bny.E_val rfl rfl rfl rfl
                      case h =>
                        intro E' hA K hK
                        first
                          | ((with_reducible refine Bny.at_qload (T := 42) ?_); refine Bny.q_ldv 1000 hA (by decide) rfl rfl 7 _ Try.underlying42 rfl infoG7 (by decide) rfl ?_; refine hK _ ?_; rfl)
                          | (go_big_quiet_op; first
                            | (refine hK _ ?_; rfl)
                            | (refine ⟨_, fun _ _ => rfl, ?_⟩; refine hK _ ?_; rfl)
                            | (apply Exists.intro; refine ⟨fun w1 hw1 => ?_, ?_⟩; · (first
                                | fail)
                               refine hK _ ?_; rfl))
                      case hD => rfl
                      simp only [Act.put, sia, scs, scz]))
                 try any_goals exact undef
                 refine Bny.E_nil ?_
                 intro w9 hE9
                 have hv : Mem w w9 (((b_26, (rowT c3.t (.slice da3 dn3 dk3) (.slice ba3 bn3 bk3) (.slice pa3 pn3 pk3))) :: (b_9, (rowP (rowT ta (.slice da1 dn1 dk1) (.slice ba1 bn1 bk1) (.slice pa1 pn1 pk1)) (.slice xa7 n7 xk7) 0 (.slice ya1 yn1 yk1) (rowT tb (.slice da2 dn2 dk2) (.slice ba2 bn2 bk2) (.slice pa2 pn2 pk2)) (.slice xa2 n2 xk2) lb (.slice ya2 yn2 yk2))) :: (s7.rows ++ (s2.rows ++ (t1.rows ++ (t2.rows ++ []))))) ++ []) R6 := hE9.mem1 [10, 1001, 1002, 1003, 1004, 1005] (by decide) 6 rfl
                 clear hE9
                 simp only [List.cons_append, List.nil_append, List.append_nil] at hv
                 go_wp2
                 have htt : Take s.now g ta c3 := by rw [HSE.out.2.1]; exact HT3.out
                 obtain ⟨s', hk', hc', e1, e2, e3, e4⟩ := HK.out.takeA HCC.out HDN.out htt
                 have HK' := Lib.hid hk'
                 have HC' := Lib.hid hc'
                 have HE' := Lib.hid (And.intro e1 (And.intro e2 (And.intro e3 e4)))
                 clear htt hk' hc' e1 e2 e3 e4
                 obtain ⟨gs2, hq2, ha2, he2⟩ := HQO.out.mono HS6.out
                 obtain ⟨g5, ho5, ha5, he5⟩ := HO3.out
                 obtain ⟨o5, m5, k5, rfl, _⟩ := hv.rd ho5
                 have HQS2 := Lib.hid hq2
                 have HOM := Lib.hid ho5
                 have HLG : Hid (∃ m, (cellsG g5).length = m * 7) := Lib.hid ⟨_, cellsG_len _⟩
                 have HOC := Lib.hid (cellsG_oneQ ha5 hv)
                 have HBG : Hid (gs2.length + g5.length ≤ 100000) := Lib.hid (by
                   have h1 := congrArg List.length he2
                   have h2 := congrArg List.length he5
                   have h3 := take_len HT3.out
                   have h4 := HQL.out
                   rw [List.length_map] at h1 h2
                   simp only [List.length_cons, List.length_nil] at h4 h1
                   omega)
                 have HA2 := Lib.hid ha2
                 have HE2 := Lib.hid he2
                 have HA5 := Lib.hid ha5
                 have HE5 := Lib.hid he5
                 clear hq2 ha2 he2 ho5 ha5 he5
                 have hv0 := Mem.cast hv (show _ = (([.row b_26 (rowT c3.t (.slice da3 dn3 dk3) (.slice ba3 bn3 bk3) (.slice pa3 pn3 pk3)), .row b_9 (rowP (rowT ta (.slice da1 dn1 dk1) (.slice ba1 bn1 bk1) (.slice pa1 pn1 pk1)) (.slice xa7 n7 xk7) 0 (.slice ya1 yn1 yk1) (rowT tb (.slice da2 dn2 dk2) (.slice ba2 bn2 bk2) (.slice pa2 pn2 pk2)) (.slice xa2 n2 xk2) lb (.slice ya2 yn2 yk2)), s7, s2, t1, t2] : List Bny.Slot).flatMap Bny.Slot.rows ++ []) from by simp [Bny.Slot.rows])
                 clear hv
                 try simp only [Act.put]
                 refine Bny.wp_region_walkS [.row b_26 (rowT c3.t (.slice da3 dn3 dk3) (.slice ba3 bn3 bk3) (.slice pa3 pn3 pk3)), .row b_9 (rowP (rowT ta (.slice da1 dn1 dk1) (.slice ba1 bn1 bk1) (.slice pa1 pn1 pk1)) (.slice xa7 n7 xk7) 0 (.slice ya1 yn1 yk1) (rowT tb (.slice da2 dn2 dk2) (.slice ba2 bn2 bk2) (.slice pa2 pn2 pk2)) (.slice xa2 n2 xk2) lb (.slice ya2 yn2 yk2)), s7, s2, t1, t2] [] [⟨[], none⟩, ⟨[], none⟩, ⟨[], none⟩, ⟨[1000], none⟩, ⟨[], none⟩, ⟨[], none⟩, ⟨[], none⟩, ⟨[], none⟩, ⟨[1001], none⟩, ⟨[], none⟩, ⟨[], some 1003⟩, ⟨[], none⟩, ⟨[], none⟩, ⟨[1001], some 1001⟩, ⟨[], none⟩, ⟨[], none⟩, ⟨[1001], some 1001⟩] [.val, .val, .val, .val, .val, .val, .val, .val, .val, .val, .slot (Bny.QS 7 (cellsG gs2 ++ cellsG g5)), .val, .val, .put, .val, .val, .put] (by kernel_rfl) (by kernel_rfl) hv0 (by exact slots6 HR1.out HR2.out HR3.out HR4.out) ?_
                 clear hv0
                 simp only [List.length_cons, List.length_nil, Nat.zero_add, Any.someVals]
                 iterate 17 apply Exists.intro
                 repeat (first
                   | (refine Bny.E_off rfl ?_; simp only [Act.put, sia, scs, scz])
                   | ((with_reducible refine Bny.gE 32 ?_); refine Bny.eC 1001 (.slice xa2 n2 xk2) Try.underlying32 ?_ (hc := rowP_i1 (rowT_size _ _ _ _) (rowT_size _ _ _ _)); simp only [Act.put, sia, scs, scz])
                   | ((with_reducible refine Bny.at_eappQ (t := 32) ?_); refine Bny.E_appQ rfl rfl rfl rfl rfl HQS2.out rfl (Or.inl HOM.out) (.agg #[.int .i64 0, .int .i64 0, .int .u32 0, .int .u32 0, .int .i64 0, .int .i64 0, .slice none 0 0]) 64 Try.underlying32 infoGz rfl (by decide) HLG.out HOC.out (app_bq HBG.out).1 (app_bq HBG.out).2 ?_; intro v9 sl9 hq9; obtain ⟨x9, n9, k9, rfl, hn9⟩ := hq9.own.slice; clear hn9; have HQ9 := Lib.hid hq9; clear hq9; simp only [Act.put, sia, scs, scz])
                   | ((with_reducible refine Bny.at_estore (T := 31) ?_); refine Bny.E_putp (T := 31) (off := 0) rfl rfl rfl rfl rfl rfl 19 infoT19 rfl (by rw [rowP_size (rowT_size _ _ _ _) (rowT_size _ _ _ _)]; decide) (rowT_one _ _ _ _ _ _ _ _ _ _) (rowP_s0 (rowT_size _ _ _ _) (rowT_size _ _ _ _) (rowT_size _ _ _ _)) ?_; simp only [Act.put, sia, scs, scz])
                   | ((with_reducible refine Bny.at_estore (T := 32) ?_); refine Bny.eP 41 (rowP_set41 (rowT_size _ _ _ _) (rowT_size _ _ _ _)) (Nat.lt_of_lt_of_eq (by decide : 41 < 44) (rowP_size (rowT_size _ _ _ _) (rowT_size _ _ _ _)).symm) (by kernel_rfl) ?_; simp only [Act.put, sia, scs, scz])
                   | (apply Bny.E_pureq rfl rfl rfl
                      case h => intro K hK; go_big_quiet_op; (refine hK _ ?_; rfl)
                      case hr => exact fun _ => rfl
                      simp only [Act.put, sia, scs, scz])
                   | (apply Bny.E_val rfl rfl rfl rfl
                      case h =>
                        intro E' hA K hK
                        first
                          | ((with_reducible refine Bny.at_qload (T := 31) ?_); refine Bny.q_ldv 1000 hA (by decide) rfl rfl 19 _ Try.underlying31 rfl infoT19 (by decide) rfl ?_; refine hK _ ?_; rfl)
                          | (go_big_quiet_op; first
                            | (refine hK _ ?_; rfl)
                            | (refine ⟨_, fun _ _ => rfl, ?_⟩; refine hK _ ?_; rfl)
                            | (apply Exists.intro; refine ⟨fun w1 hw1 => ?_, ?_⟩; · (first
                                | fail)
                               refine hK _ ?_; rfl))
                      case hD => rfl
                      simp only [Act.put, sia, scs, scz]))
                 try any_goals exact undef
                 refine Bny.E_nil ?_
                 intro w9 hE9
                 have hv : Mem w w9 (((b_9, (rowP (rowT c3.t (.slice da3 dn3 dk3) (.slice ba3 bn3 bk3) (.slice pa3 pn3 pk3)) (.slice xa7 n7 xk7) 0 (.slice ya1 yn1 yk1) (rowT tb (.slice da2 dn2 dk2) (.slice ba2 bn2 bk2) (.slice pa2 pn2 pk2)) (.slice x9 n9 k9) lb (.slice ya2 yn2 yk2))) :: (s7.rows ++ (sl9.rows ++ (t1.rows ++ (t2.rows ++ []))))) ++ []) R6 := hE9.mem0 [1001, 1002, 1003, 1004, 1005] (by decide)
                 clear hE9
                 simp only [List.cons_append, List.nil_append, List.append_nil] at hv
                 go_wp2
                 refine ⟨?rel, ?measure⟩
                 case rel =>
                   refine ⟨n + 1, k + 1, nw, 0, lb, true, s', c3.t, tb, r, [] ++ c3.out, R6, rfl, rfl, rfl, rfl, by omega, by omega, ⟨da3, dn3, dk3, ba3, bn3, bk3, pa3, pn3, pk3, l3', da2, dn2, dk2, ba2, bn2, bk2, pa2, pn2, pk2, l2, _, _, _, _, s7, sl9, t1, t2, hv, HI3'.out, HI2.out.mono HS6.out, HQ7.out.mono HS6.out, QQ.app HQ9.out HA2.out HA5.out HE2.out HE5.out, HG1.out, HG2.out⟩, HK', Lib.hid (by rw [show 200 - (n + 1) = m from by omega]; exact HC'.out), Lib.hid (fun h => by cases h), Lib.hid (by
                     have h := HQL.out
                     have h3 := take_len HT3.out
                     simp only [List.length_cons, List.length_nil, List.length_append] at h ⊢
                     omega), Lib.hid ⟨HE'.out.1.trans HSE.out.1, HE'.out.2.1.trans HSE.out.2.1, HE'.out.2.2.1, HE'.out.2.2.2.trans HSE.out.2.2.2⟩, Lib.hid (fun x hx => HS6.out x (HS.out x hx))⟩
                 case measure =>
                   show 200 - ((n : Int) + 1).toNat < 200 - ((n : Nat) : Int).toNat
                   omega
           · as_aux_lemma =>
             obtain ⟨xa1, n1, xk1, rfl, hn1⟩ := hQ1.slice'
             obtain ⟨xb, xo, xk, sa, sn, sk, gr, e, hqs, hgd, hga, hgr⟩ := hQ2.head hv.q3
             subst e
             obtain ⟨n2, hn2⟩ : ∃ n, r.length + 1 = n := ⟨_, rfl⟩
             rw [hn2] at hv hqs hQ2
             have y2 : decide ((0 : Int) < (n2 : Int)) = true := decide_eq_true (by omega)
             have z2 : decide (0 < n2) = true := decide_eq_true (by omega)
             have y3 : ((n2 : Int) == 0) = false := by rw [beq_eq_false_iff_ne]; omega
             have hix : (0 : Int) < (n2 : Int) := by omega
             have hiy : 0 < n2 := by omega
             have HN1 : Hid (1 ≤ n2) := Lib.hid hiy
             have HXV : Hid (((cellsG ((g, Value.slice sa sn sk) :: gr)).drop 0).take 7 = (#[.int .i64 g.src, .int .i64 g.dst, .int .u32 g.seq, .int .u32 g.ack, .int .i64 g.fl, .int .i64 g.wnd, .slice sa sn sk] : Array Value).toList) := Lib.hid rfl
             have hk20 : k ≤ 20000 := by omega
             have q7 : IntKind.i64.wrap ((k : Int) + 1) = ((k + 1 : Nat) : Int) := by rw [IntWalk.i64_in _ (by omega)]; omega
             have hls := HS.out _ HLM.out
             obtain ⟨l3, hl3⟩ : ∃ n : Nat, lb + 1 = n := ⟨_, rfl⟩
             have hlq : lb ≤ 2 := hl2b
             have q8 : IntKind.i64.wrap ((lb : Int) + 1) = (l3 : Int) := by rw [IntWalk.i64_in _ (by omega)]; omega
             have HQS := Lib.hid hqs
             have HGD := Lib.hid hgd
             have HGA := Lib.hid hga
             have HGR := Lib.hid hgr
             have HQX := Lib.hid hQ2
             have HQO := Lib.hid hQ1
             have HG1 := Lib.hid hG1
             have HG2 := Lib.hid hG2
             have HL3 := Lib.hid hl3
             have HNY := Lib.hid hn1
             clear hqs hgd hga hgr hQ2 hQ1 hG1 hG2 hl3 hn1 hn2 hl2a hl2b
             have hcase := lose4 hv hls (k := k) (lq := lb)
             rcases hcase with ⟨lb9, lo9, rfl, hkl, hx, hl2⟩ | hkl | ⟨lb9, lo9, rfl, hkl, hx⟩ | ⟨lb9, lo9, rfl, hkl, hx, hl2⟩
             · as_aux_lemma =>
               have y8 : decide ((lb : Int) < 2) = true := decide_eq_true (by omega)
               have z8 : decide (lb < 2) = true := decide_eq_true (by omega)
               have y6 : decide ((k : Int) < (ln : Int)) = true := decide_eq_true (by omega)
               have z6 : decide (k < ln) = true := decide_eq_true hkl
               have hkn : (k : Int) < (ln : Int) := by omega
               have HLS := Lib.hid hls
               have HXL := Lib.hid hx
               have HL2 : Hid (lb < 2) := Lib.hid hl2
               clear hls hl2 hlq hx
               go_wp2_with (first
                 | ((with_reducible refine gLd 3 ?_); refine ldC hv b_9 0 (.int .i64 ta.st) Try.underlying3 ?_ (hc := (rowP_a (rowT_size _ _ _ _) (by decide)).trans rfl))
                           | ((with_reducible refine gLd 3 ?_); refine ldC hv b_9 22 (.int .i64 tb.st) Try.underlying3 ?_ (hc := (rowP_b (rowT_size _ _ _ _) (rowT_size _ _ _ _) (k := 0) (by decide)).trans rfl))
                 | ((with_reducible refine gLd 22 ?_); refine ldC hv b_9 6 (.int .u32 ta.nx) Try.underlying22 ?_ (hc := (rowP_a (rowT_size _ _ _ _) (by decide)).trans rfl))
                 | ((with_reducible refine gLd 32 ?_); refine ldC hv b_9 41 (.slice (some ⟨xb, xo, none⟩) n2 xk) Try.underlying32 ?_ (hc := rowP_i1 (rowT_size _ _ _ _) (rowT_size _ _ _ _)))
                 | ((with_reducible refine gLd 32 ?_); refine ldC hv b_9 19 (.slice xa1 n1 xk1) Try.underlying32 ?_ (hc := rowP_i0 (rowT_size _ _ _ _)))
                 | ((with_reducible refine at_load (T := 42) ?_); refine wl_rdv rfl (kk := 7) (b := xb) (o := xo) (n := n2) (cap := xk) (c := cellsG ((g, Value.slice sa sn sk) :: gr)) (HQS.out.own.rd hv.q3) 0 rfl 7 _ Try.underlying42 rfl infoG7 (by decide) #[.int .i64 g.src, .int .i64 g.dst, .int .u32 g.seq, .int .u32 g.ack, .int .i64 g.fl, .int .i64 g.wnd, .slice sa sn sk] HXV.out rfl ?_)
                 | ((with_reducible refine gAl 42 21 ?_); refine nwB hv #[.int .i64 0, .int .i64 0, .int .u32 0, .int .u32 0, .int .i64 0, .int .i64 0, .slice none 0 0] 42 ?_; clear hv; intro b_21 w2 hv)
                 | ((with_reducible refine gSt 42 ?_); refine stV hv b_21 7 infoG7 ?_; clear hv; intro w2 hv)
                 | ((with_reducible refine at_slice (T := 32) ?_); refine wl_tailG rfl rfl rfl HQX.out hv.q4 Try.underlying32 infoG7 ?_; intro xa7 n7 xk7 s7 hn7 hq7 hv7; clear hv; have hv := hv7; clear hv7; simp only [List.append_assoc, List.cons_append, List.nil_append] at hv; have HN7 := Lib.hid hn7; have HQ7 := Lib.hid hq7; clear hn7 hq7)
                 | ((with_reducible refine gSt 32 ?_); refine stC hv b_9 41 (.slice xa7 n7 xk7) ?_ (hs := ⟨(SetM.s SetM.z), rowP_set41 (rowT_size _ _ _ _) (rowT_size _ _ _ _)⟩) (h0 := by rw [rowP_size (rowT_size _ _ _ _) (rowT_size _ _ _ _)]; decide); clear hv; intro w2 hv)
                 | ((with_reducible refine at_load (T := 4) ?_); refine wl_rd rfl (c := bl.map Value.bool) (hv.rd HLS.out) k rfl _ Try.underlying4 rfl (.bool true) HXL.out ?_)
                 | ((with_reducible refine gLd 3 ?_); refine ldC hv b_9 42 (.int .i64 lb) Try.underlying3 ?_ (hc := rowP_l1 (rowT_size _ _ _ _) (rowT_size _ _ _ _)))
                 | ((with_reducible refine gSt 3 ?_); refine stC hv b_9 42 (.int .i64 l3) ?_ (hs := ⟨(SetM.s SetM.z), rowP_set42 (rowT_size _ _ _ _) (rowT_size _ _ _ _)⟩) (h0 := by rw [rowP_size (rowT_size _ _ _ _) (rowT_size _ _ _ _)]; decide); clear hv; intro w2 hv))
               obtain ⟨s', hk', hc', e1, e2, e3, e4⟩ := HK.out.loseB HCC.out HDN.out (by rw [HSE.out.2.2.2]; exact HL2.out)
               refine ⟨?rel, ?measure⟩
               case rel =>
                 refine ⟨n + 1, k + 1, nw, la, l3, _, s', _, _, _, r, R5, rfl, rfl, rfl, rfl, by omega, by omega, ⟨da1, dn1, dk1, ba1, bn1, bk1, pa1, pn1, pk1, l1, da2, dn2, dk2, ba2, bn2, bk2, pa2, pn2, pk2, l2, _, _, _, _, s1, s7, t1, t2, hv.drop, HI1.out, HI2.out, HQO.out, HQ7.out, HG1.out, HG2.out⟩, Lib.hid hk', Lib.hid (by rw [show 200 - (n + 1) = m from by omega]; exact hc'), Lib.hid (HTZ.out), Lib.hid (by have h := HQL.out; simp only [List.length_cons, List.length_nil] at h ⊢; omega), Lib.hid ⟨e1.trans HSE.out.1, e2.trans HSE.out.2.1, e3.trans (by exact HSE.out.2.2.1), e4.trans (by rw [HSE.out.2.2.2]; exact HL3.out)⟩, HS⟩
               case measure =>
                 show 200 - ((n : Int) + 1).toNat < 200 - ((n : Nat) : Int).toNat
                 omega
             all_goals first
               | (have y6 : decide ((k : Int) < (ln : Int)) = true := decide_eq_true (Int.ofNat_lt.2 hkl))
               | (have y6 : decide ((k : Int) < (ln : Int)) = false := decide_eq_false (fun h => hkl (Int.ofNat_lt.1 h)))
             all_goals first
               | (have z6 : decide (k < ln) = true := decide_eq_true hkl)
               | (have z6 : decide (k < ln) = false := decide_eq_false hkl)
             all_goals try (have hkn := Int.ofNat_lt.2 hkl)
             all_goals first
               | (have HXL := Lib.hid hx)
               | (have HXL := Lib.hid True.intro)
             all_goals try (have y8 : decide ((lb : Int) < 2) = false := decide_eq_false (fun h => hl2 (by exact_mod_cast h)))
             all_goals try (have z8 : decide (lb < 2) = false := decide_eq_false hl2)
             all_goals try (clear hx)
             all_goals try (clear hl2)
             all_goals
               as_aux_lemma =>
               have HLS := Lib.hid hls
               clear hls hlq
               have hseg := HK.out.segB HCC.out HGD.out
               have HGG := Lib.hid hseg
               clear hseg
               have HCK := Lib.hid (HK.out.chkB HIR.out HCC.out HSE.out.1)
               go_wp2_with (first
                 | ((with_reducible refine gLd 3 ?_); refine ldC hv b_9 0 (.int .i64 ta.st) Try.underlying3 ?_ (hc := (rowP_a (rowT_size _ _ _ _) (by decide)).trans rfl))
                 | ((with_reducible refine gLd 3 ?_); refine ldC hv b_9 22 (.int .i64 tb.st) Try.underlying3 ?_ (hc := (rowP_b (rowT_size _ _ _ _) (rowT_size _ _ _ _) (k := 0) (by decide)).trans rfl))
                 | ((with_reducible refine gLd 22 ?_); refine ldC hv b_9 6 (.int .u32 ta.nx) Try.underlying22 ?_ (hc := (rowP_a (rowT_size _ _ _ _) (by decide)).trans rfl))
                 | ((with_reducible refine gLd 32 ?_); refine ldC hv b_9 41 (.slice (some ⟨xb, xo, none⟩) n2 xk) Try.underlying32 ?_ (hc := rowP_i1 (rowT_size _ _ _ _) (rowT_size _ _ _ _)))
                 | ((with_reducible refine gLd 32 ?_); refine ldC hv b_9 19 (.slice xa1 n1 xk1) Try.underlying32 ?_ (hc := rowP_i0 (rowT_size _ _ _ _)))
                 | ((with_reducible refine at_load (T := 42) ?_); refine wl_rdv rfl (kk := 7) (b := xb) (o := xo) (n := n2) (cap := xk) (c := cellsG ((g, Value.slice sa sn sk) :: gr)) (HQS.out.own.rd hv.q3) 0 rfl 7 _ Try.underlying42 rfl infoG7 (by decide) #[.int .i64 g.src, .int .i64 g.dst, .int .u32 g.seq, .int .u32 g.ack, .int .i64 g.fl, .int .i64 g.wnd, .slice sa sn sk] HXV.out rfl ?_)
                 | ((with_reducible refine gAl 42 21 ?_); refine nwB hv #[.int .i64 0, .int .i64 0, .int .u32 0, .int .u32 0, .int .i64 0, .int .i64 0, .slice none 0 0] 42 ?_; clear hv; intro b_21 w2 hv)
                 | ((with_reducible refine gSt 42 ?_); refine stV hv b_21 7 infoG7 ?_; clear hv; intro w2 hv)
                 | ((with_reducible refine at_slice (T := 32) ?_); refine wl_tailG rfl rfl rfl HQX.out hv.q4 Try.underlying32 infoG7 ?_; intro xa7 n7 xk7 s7 hn7 hq7 hv7; clear hv; have hv := hv7; clear hv7; simp only [List.append_assoc, List.cons_append, List.nil_append] at hv; have HN7 := Lib.hid hn7; have HQ7 := Lib.hid hq7; clear hn7 hq7)
                 | ((with_reducible refine gSt 32 ?_); refine stC hv b_9 41 (.slice xa7 n7 xk7) ?_ (hs := ⟨(SetM.s SetM.z), rowP_set41 (rowT_size _ _ _ _) (rowT_size _ _ _ _)⟩) (h0 := by rw [rowP_size (rowT_size _ _ _ _) (rowT_size _ _ _ _)]; decide); clear hv; intro w2 hv)
                 | ((with_reducible refine at_load (T := 4) ?_); refine wl_rd rfl (c := bl.map Value.bool) (hv.rd HLS.out) k rfl _ Try.underlying4 rfl (.bool true) HXL.out ?_)
                 | ((with_reducible refine at_load (T := 4) ?_); refine wl_rd rfl (c := bl.map Value.bool) (hv.rd HLS.out) k rfl _ Try.underlying4 rfl (.bool false) HXL.out ?_)
                 | ((with_reducible refine gLd 3 ?_); refine ldC hv b_9 42 (.int .i64 lb) Try.underlying3 ?_ (hc := rowP_l1 (rowT_size _ _ _ _) (rowT_size _ _ _ _)))
                 | ((with_reducible refine gSt 3 ?_); refine stC hv b_9 42 (.int .i64 ((0 : Nat) : Int)) ?_ (hs := ⟨(SetM.s SetM.z), rowP_set42 (rowT_size _ _ _ _) (rowT_size _ _ _ _)⟩) (h0 := by rw [rowP_size (rowT_size _ _ _ _) (rowT_size _ _ _ _)]; decide); clear hv; intro w2 hv))
               have HR1 := Lib.hid HQO.out.reads
               have HR2 := Lib.hid HQ7.out.reads
               have HR3 := Lib.hid HG1.out.reads
               have HR4 := Lib.hid HG2.out.reads
               have HSC : Hid (∃ v R', TkQ R5 nw g tb v R') := Lib.hid (Bny.some_of (Take_Q hv (fun x hx => hx) HI2.out HCK.out (nw := nw) HGG.out))
               have hv0 := Mem.cast hv (show _ = (([.row b_21 #[.int .i64 g.src, .int .i64 g.dst, .int .u32 g.seq, .int .u32 g.ack, .int .i64 g.fl, .int .i64 g.wnd, .slice sa sn sk], .row b_9 (rowP (rowT ta (.slice da1 dn1 dk1) (.slice ba1 bn1 bk1) (.slice pa1 pn1 pk1)) (.slice xa1 n1 xk1) la (.slice ya1 yn1 yk1) (rowT tb (.slice da2 dn2 dk2) (.slice ba2 bn2 bk2) (.slice pa2 pn2 pk2)) (.slice xa7 n7 xk7) 0 (.slice ya2 yn2 yk2)), s1, s7, t1, t2] : List Bny.Slot).flatMap Bny.Slot.rows ++ []) from by simp [Bny.Slot.rows])
               clear hv
               try simp only [Act.put]
               refine Bny.wp_region_walkS [.row b_21 #[.int .i64 g.src, .int .i64 g.dst, .int .u32 g.seq, .int .u32 g.ack, .int .i64 g.fl, .int .i64 g.wnd, .slice sa sn sk], .row b_9 (rowP (rowT ta (.slice da1 dn1 dk1) (.slice ba1 bn1 bk1) (.slice pa1 pn1 pk1)) (.slice xa1 n1 xk1) la (.slice ya1 yn1 yk1) (rowT tb (.slice da2 dn2 dk2) (.slice ba2 bn2 bk2) (.slice pa2 pn2 pk2)) (.slice xa7 n7 xk7) 0 (.slice ya2 yn2 yk2)), s1, s7, t1, t2] [] [⟨[], none⟩, ⟨[], none⟩, ⟨[], none⟩, ⟨[1001], none⟩, ⟨[1000], none⟩, ⟨[], none⟩, ⟨[], some 6⟩, ⟨[], none⟩, ⟨[], none⟩, ⟨[], none⟩, ⟨[], some 10⟩, ⟨[10], some 10⟩] [.val, .val, .val, .val, .val, .val, .mem (TkQ R5 nw g tb), .pure, .pure, .pure, .lay #[.int .i64 0, .int .i64 0, .int .u32 0, .int .i64 0, .int .u32 0, .int .u32 0, .int .u32 0, .slice none 0 0, .int .i64 0, .bool false, .bool false, .int .u32 0, .slice none 0 0, .slice none 0 0, .bool false, .int .u64 0, .int .i64 0, .int .i64 0, .int .i64 0], .put, .pure] (by kernel_rfl) (by kernel_rfl) hv0 (by exact slots6 HR1.out HR2.out HR3.out HR4.out) ?_
               clear hv0
               simp only [List.length_cons, List.length_nil, Nat.zero_add, Any.someVals]
               iterate 13 apply Exists.intro
               repeat (first
                 | (refine Bny.E_off rfl ?_; simp only [Act.put, sia, scs, scz])
                 | ((with_reducible refine Bny.at_ealloc ?_); refine Bny.E_lay (t := 31) rfl rfl rfl (fun _ => rfl) ?_; intro b_26; simp only [Act.put, sia, scs, scz])
                 | ((with_reducible refine Bny.gE 31 ?_); refine Bny.eX 1001 22 19 (rowT tb (.slice da2 dn2 dk2) (.slice ba2 bn2 bk2) (.slice pa2 pn2 pk2)) Try.underlying31 infoT19 (rowP_t1 (rowT_size _ _ _ _) (rowT_size _ _ _ _)) (Nat.le_trans (by decide : 22 + 19 ≤ 44) (Nat.le_of_eq (rowP_size (rowT_size _ _ _ _) (rowT_size _ _ _ _)).symm)) ?_; simp only [Act.put, sia, scs, scz])
                 | ((with_reducible refine Bny.at_estore (T := 31) ?_); refine Bny.E_putv (T := 31) rfl rfl rfl rfl rfl rfl 19 infoT19 rfl rfl (rowT_one _ _ _ _ _ _ _ _ _ _) ?_; simp only [Act.put, sia, scs, scz])
                 | ((with_reducible refine Bny.at_ecallf (f := 13) ?_); refine Bny.E_callmem rfl rfl rfl (Go.Proofs.enters_of Try.func13 (by kernel_rfl) rfl) rfl [.agg (rowT tb (.slice da2 dn2 dk2) (.slice ba2 bn2 bk2) (.slice pa2 pn2 pk2)), .agg #[.int .i64 g.src, .int .i64 g.dst, .int .u32 g.seq, .int .u32 g.ack, .int .i64 g.fl, .int .i64 g.wnd, .slice sa sn sk], .int .u64 nw] rfl HSC.out R5 (fun x hx => .inl hx) (fun w0 w L R' hm hs => by have h := Take_Q hm hs HI2.out HCK.out (nw := nw) HGG.out; exact h) ?_; rintro v R6 ⟨c3, da3, dn3, dk3, ba3, bn3, bk3, pa3, pn3, pk3, l3', ov3, he, ht3, hi3, ho3, hs3⟩; obtain rfl : v = .tuple #[.agg (rowT c3.t (.slice da3 dn3 dk3) (.slice ba3 bn3 bk3) (.slice pa3 pn3 pk3)), ov3] := he; have HT3 := Lib.hid ht3; have HI3' := Lib.hid hi3; have HO3 := Lib.hid ho3; have HS6 := Lib.hid hs3; clear ht3 hi3 ho3 hs3; simp only [Act.put, sia, scs, scz])
                 | (apply Bny.E_pureq rfl rfl rfl
                    case h => intro K hK; go_big_quiet_op; (refine hK _ ?_; rfl)
                    case hr => exact fun _ => rfl
                    simp only [Act.put, sia, scs, scz])
                 | (apply Bny.E_val rfl rfl rfl rfl
                    case h =>
                      intro E' hA K hK
                      first
                        | ((with_reducible refine Bny.at_qload (T := 42) ?_); refine Bny.q_ldv 1000 hA (by decide) rfl rfl 7 _ Try.underlying42 rfl infoG7 (by decide) rfl ?_; refine hK _ ?_; rfl)
                        | (go_big_quiet_op; first
                          | (refine hK _ ?_; rfl)
                          | (refine ⟨_, fun _ _ => rfl, ?_⟩; refine hK _ ?_; rfl)
                          | (apply Exists.intro; refine ⟨fun w1 hw1 => ?_, ?_⟩; · (first
                              | fail)
                             refine hK _ ?_; rfl))
                    case hD => rfl
                    simp only [Act.put, sia, scs, scz]))
               try any_goals exact undef
               refine Bny.E_nil ?_
               intro w9 hE9
               have hv : Mem w w9 (((b_26, (rowT c3.t (.slice da3 dn3 dk3) (.slice ba3 bn3 bk3) (.slice pa3 pn3 pk3))) :: (b_9, (rowP (rowT ta (.slice da1 dn1 dk1) (.slice ba1 bn1 bk1) (.slice pa1 pn1 pk1)) (.slice xa1 n1 xk1) la (.slice ya1 yn1 yk1) (rowT tb (.slice da2 dn2 dk2) (.slice ba2 bn2 bk2) (.slice pa2 pn2 pk2)) (.slice xa7 n7 xk7) 0 (.slice ya2 yn2 yk2))) :: (s1.rows ++ (s7.rows ++ (t1.rows ++ (t2.rows ++ []))))) ++ []) R6 := hE9.mem1 [10, 1001, 1002, 1003, 1004, 1005] (by decide) 6 rfl
               clear hE9
               simp only [List.cons_append, List.nil_append, List.append_nil] at hv
               go_wp2
               have htt : Take s.now g tb c3 := by rw [HSE.out.2.1]; exact HT3.out
               obtain ⟨s', hk', hc', e1, e2, e3, e4⟩ := HK.out.takeB HCC.out HDN.out HSE.out.1 htt
               have HK' := Lib.hid hk'
               have HC' := Lib.hid hc'
               have HE' := Lib.hid (And.intro e1 (And.intro e2 (And.intro e3 e4)))
               clear htt hk' hc' e1 e2 e3 e4
               obtain ⟨gs2, hq2, ha2, he2⟩ := HQO.out.mono HS6.out
               obtain ⟨g5, ho5, ha5, he5⟩ := HO3.out
               obtain ⟨o5, m5, k5, rfl, _⟩ := hv.rd ho5
               have HQS2 := Lib.hid hq2
               have HOM := Lib.hid ho5
               have HLG : Hid (∃ m, (cellsG g5).length = m * 7) := Lib.hid ⟨_, cellsG_len _⟩
               have HOC := Lib.hid (cellsG_oneQ ha5 hv)
               have HBG : Hid (gs2.length + g5.length ≤ 100000) := Lib.hid (by
                 have h1 := congrArg List.length he2
                 have h2 := congrArg List.length he5
                 have h3 := take_len HT3.out
                 have h4 := HQL.out
                 rw [List.length_map] at h1 h2
                 simp only [List.length_cons, List.length_nil] at h4 h1
                 omega)
               have HA2 := Lib.hid ha2
               have HE2 := Lib.hid he2
               have HA5 := Lib.hid ha5
               have HE5 := Lib.hid he5
               clear hq2 ha2 he2 ho5 ha5 he5
               have hv0 := Mem.cast hv (show _ = (([.row b_26 (rowT c3.t (.slice da3 dn3 dk3) (.slice ba3 bn3 bk3) (.slice pa3 pn3 pk3)), .row b_9 (rowP (rowT ta (.slice da1 dn1 dk1) (.slice ba1 bn1 bk1) (.slice pa1 pn1 pk1)) (.slice xa1 n1 xk1) la (.slice ya1 yn1 yk1) (rowT tb (.slice da2 dn2 dk2) (.slice ba2 bn2 bk2) (.slice pa2 pn2 pk2)) (.slice xa7 n7 xk7) 0 (.slice ya2 yn2 yk2)), s1, s7, t1, t2] : List Bny.Slot).flatMap Bny.Slot.rows ++ []) from by simp [Bny.Slot.rows])
               clear hv
               try simp only [Act.put]
               refine Bny.wp_region_walkS [.row b_26 (rowT c3.t (.slice da3 dn3 dk3) (.slice ba3 bn3 bk3) (.slice pa3 pn3 pk3)), .row b_9 (rowP (rowT ta (.slice da1 dn1 dk1) (.slice ba1 bn1 bk1) (.slice pa1 pn1 pk1)) (.slice xa1 n1 xk1) la (.slice ya1 yn1 yk1) (rowT tb (.slice da2 dn2 dk2) (.slice ba2 bn2 bk2) (.slice pa2 pn2 pk2)) (.slice xa7 n7 xk7) 0 (.slice ya2 yn2 yk2)), s1, s7, t1, t2] [] [⟨[], none⟩, ⟨[], none⟩, ⟨[], none⟩, ⟨[1000], none⟩, ⟨[], none⟩, ⟨[], none⟩, ⟨[], none⟩, ⟨[], none⟩, ⟨[1001], none⟩, ⟨[], none⟩, ⟨[], some 1002⟩, ⟨[], none⟩, ⟨[], none⟩, ⟨[1001], some 1001⟩, ⟨[], none⟩, ⟨[], none⟩, ⟨[1001], some 1001⟩] [.val, .val, .val, .val, .val, .val, .val, .val, .val, .val, .slot (Bny.QS 7 (cellsG gs2 ++ cellsG g5)), .val, .val, .put, .val, .val, .put] (by kernel_rfl) (by kernel_rfl) hv0 (by exact slots6 HR1.out HR2.out HR3.out HR4.out) ?_
               clear hv0
               simp only [List.length_cons, List.length_nil, Nat.zero_add, Any.someVals]
               iterate 17 apply Exists.intro
               repeat (first
                 | (refine Bny.E_off rfl ?_; simp only [Act.put, sia, scs, scz])
                 | ((with_reducible refine Bny.gE 32 ?_); refine Bny.eC 1001 (.slice xa1 n1 xk1) Try.underlying32 ?_ (hc := rowP_i0 (rowT_size _ _ _ _)); simp only [Act.put, sia, scs, scz])
                 | ((with_reducible refine Bny.at_eappQ (t := 32) ?_); refine Bny.E_appQ rfl rfl rfl rfl rfl HQS2.out rfl (Or.inl HOM.out) (.agg #[.int .i64 0, .int .i64 0, .int .u32 0, .int .u32 0, .int .i64 0, .int .i64 0, .slice none 0 0]) 64 Try.underlying32 infoGz rfl (by decide) HLG.out HOC.out (app_bq HBG.out).1 (app_bq HBG.out).2 ?_; intro v9 sl9 hq9; obtain ⟨x9, n9, k9, rfl, hn9⟩ := hq9.own.slice; clear hn9; have HQ9 := Lib.hid hq9; clear hq9; simp only [Act.put, sia, scs, scz])
                 | ((with_reducible refine Bny.at_estore (T := 31) ?_); refine Bny.E_putp (T := 31) (off := 22) rfl rfl rfl rfl rfl rfl 19 infoT19 rfl (by rw [rowP_size (rowT_size _ _ _ _) (rowT_size _ _ _ _)]; decide) (rowT_one _ _ _ _ _ _ _ _ _ _) (rowP_s1 (rowT_size _ _ _ _) (rowT_size _ _ _ _) (rowT_size _ _ _ _)) ?_; simp only [Act.put, sia, scs, scz])
                 | ((with_reducible refine Bny.at_estore (T := 32) ?_); refine Bny.eP 19 (rowP_set19 (rowT_size _ _ _ _) (rowT_size _ _ _ _)) (Nat.lt_of_lt_of_eq (by decide : 19 < 44) (rowP_size (rowT_size _ _ _ _) (rowT_size _ _ _ _)).symm) (by kernel_rfl) ?_; simp only [Act.put, sia, scs, scz])
                 | (apply Bny.E_pureq rfl rfl rfl
                    case h => intro K hK; go_big_quiet_op; (refine hK _ ?_; rfl)
                    case hr => exact fun _ => rfl
                    simp only [Act.put, sia, scs, scz])
                 | (apply Bny.E_val rfl rfl rfl rfl
                    case h =>
                      intro E' hA K hK
                      first
                        | ((with_reducible refine Bny.at_qload (T := 31) ?_); refine Bny.q_ldv 1000 hA (by decide) rfl rfl 19 _ Try.underlying31 rfl infoT19 (by decide) rfl ?_; refine hK _ ?_; rfl)
                        | (go_big_quiet_op; first
                          | (refine hK _ ?_; rfl)
                          | (refine ⟨_, fun _ _ => rfl, ?_⟩; refine hK _ ?_; rfl)
                          | (apply Exists.intro; refine ⟨fun w1 hw1 => ?_, ?_⟩; · (first
                              | fail)
                             refine hK _ ?_; rfl))
                    case hD => rfl
                    simp only [Act.put, sia, scs, scz]))
               try any_goals exact undef
               refine Bny.E_nil ?_
               intro w9 hE9
               have hv : Mem w w9 (((b_9, (rowP (rowT ta (.slice da1 dn1 dk1) (.slice ba1 bn1 bk1) (.slice pa1 pn1 pk1)) (.slice x9 n9 k9) la (.slice ya1 yn1 yk1) (rowT c3.t (.slice da3 dn3 dk3) (.slice ba3 bn3 bk3) (.slice pa3 pn3 pk3)) (.slice xa7 n7 xk7) 0 (.slice ya2 yn2 yk2))) :: (sl9.rows ++ (s7.rows ++ (t1.rows ++ (t2.rows ++ []))))) ++ []) R6 := hE9.mem0 [1001, 1002, 1003, 1004, 1005] (by decide)
               clear hE9
               simp only [List.cons_append, List.nil_append, List.append_nil] at hv
               go_wp2
               refine ⟨?rel, ?measure⟩
               case rel =>
                 refine ⟨n + 1, k + 1, nw, la, 0, true, s', ta, c3.t, qa ++ c3.out, r, R6, rfl, rfl, rfl, rfl, by omega, by omega, ⟨da1, dn1, dk1, ba1, bn1, bk1, pa1, pn1, pk1, l1, da3, dn3, dk3, ba3, bn3, bk3, pa3, pn3, pk3, l3', _, _, _, _, sl9, s7, t1, t2, hv, HI1.out.mono HS6.out, HI3'.out, QQ.app HQ9.out HA2.out HA5.out HE2.out HE5.out, HQ7.out.mono HS6.out, HG1.out, HG2.out⟩, HK', Lib.hid (by rw [show 200 - (n + 1) = m from by omega]; exact HC'.out), Lib.hid (fun h => by cases h), Lib.hid (by
                   have h := HQL.out
                   have h3 := take_len HT3.out
                   simp only [List.length_cons, List.length_nil, List.length_append] at h ⊢
                   omega), Lib.hid ⟨HE'.out.1, HE'.out.2.1.trans HSE.out.2.1, HE'.out.2.2.1.trans HSE.out.2.2.1, HE'.out.2.2.2⟩, Lib.hid (fun x hx => HS6.out x (HS.out x hx))⟩
               case measure =>
                 show 200 - ((n : Int) + 1).toNat < 200 - ((n : Nat) : Int).toNat
                 omega

   · exfalso
     have h := HCM.out
     rw [show 200 - n = 0 from by omega] at h
     unfold comes at h
     cases h
theorem TcpOpens_any {W : World} {lv : Value} {bl : List Bool} (hl : Rd W 1 lv (bl.map Value.bool)) {iss irs : Nat} (his : iss < 4294967296) (hir : irs < 4294967296) : Calls Try.prog 5 #[.int .u32 iss, .int .u32 irs, lv] W fun e w' => e = .returned (.bool true) ∧ New W w' := by
 obtain ⟨la, ln, lc, rfl, _⟩ := id hl
 obtain ⟨R, hR⟩ : ∃ R : LR, R = [(1, .slice la ln lc, bl.map Value.bool)] := ⟨_, rfl⟩
 have hv : Mem W W [] R := Mem.all (fun x hx => by
   subst hR
   rw [List.mem_singleton.1 hx]; exact hl)
 exact Opens_c la ln lc iss irs bl W R hv (by subst hR; exact Mem.z) his hir
end Go.Proofs.Ythenepdbgeafkaa
