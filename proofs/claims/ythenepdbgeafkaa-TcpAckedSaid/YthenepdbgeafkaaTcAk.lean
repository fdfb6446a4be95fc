/-
 TcpAcked: what is written comes, whole and in order, and is acknowledged.
-/
import Derived.Test.YthenepdbgeafkaaTcGa
import Derived.Test.YthenepdbgeafkaaGAM
import Derived.Test.YthenepdbgeafkaaGAB
import Derived.Test.YthenepdbgeafkaaTcOp
set_option maxRecDepth 100000
set_option maxHeartbeats 30000000
set_option linter.unusedVariables false
set_option linter.unusedSimpArgs false
namespace Go
theorem Mem.cast {w0 w : World} {L L' : LV} {R : LR} (h : Mem w0 w L R) (e : L = L') : Mem w0 w L' R := e ▸ h
end Go
namespace Go.Proofs.Tp
open Go Go.RowKit Go.Proofs.Wi
variable {R : LR}
theorem cellsB_appQ (a b : List Nat) : cellsB (a ++ b) = cellsB a ++ cellsB b := by unfold cellsB; exact List.map_append
theorem bdQ {a b : List Nat} (h : a.length + b.length ≤ 2000) : ((cellsB a).length + (cellsB b).length) / 1 ≤ maxLen ∧ ((cellsB a).length + (cellsB b).length) / 1 * 1 ≤ 140737488355328 := by simp only [cellsB, List.length_map]; unfold maxLen; omega
theorem slots6 {b b' : Nat} {r r' : Array Value} {s1 s2 s3 s4 : Bny.Slot} (h1 : s1.reads = []) (h2 : s2.reads = []) (h3 : s3.reads = []) (h4 : s4.reads = []) : ∀ s ∈ [Bny.Slot.row b r, Bny.Slot.row b' r', s1, s2, s3, s4], s.reads = [] := by
 intro s hs
 simp only [List.mem_cons, List.not_mem_nil, or_false] at hs
 rcases hs with rfl | rfl | rfl | rfl | rfl | rfl
 · rfl
 · rfl
 · exact h1
 · exact h2
 · exact h3
 · exact h4
theorem QQ.slice' {v : Value} {q : List G} {sl : Bny.Slot} (h : QQ R q v sl) : ∃ ao n k, v = .slice ao n k ∧ q.length = n := by
 obtain ⟨ao, k, e⟩ := h.slice
 exact ⟨ao, _, k, e, rfl⟩
theorem pT_chk (own peer : Nat) {lo po : Nat} (hl : 1 ≤ lo ∧ lo ≤ 65535) (hp : 1 ≤ po ∧ po ≤ 65535) : chkT (pT own peer lo po) = true := by
 refine chkT_iff.2 ⟨⟨by show 3 ≤ 9; decide, hl, hp, by show 0 ≤ 256; decide, by show 256 ≤ 65535; decide, (fun h => nomatch h), by show 0 ≤ 1099511627776; decide, ⟨by show 1 ≤ 4; decide, by show 4 ≤ 64; decide⟩, by show 0 ≤ 12; decide, Nat.zero_le _, chk_empty _ _ (Nat.zero_le _)⟩, ?_⟩
 refine (numbers_nm (by show 3 ≤ 3; decide)).2 ?_
 unfold Nm
 rw [own_noSe rfl]
 show 0 ≤ dif (Tp.u32 (own + 1)) (Tp.u32 (own + 1)) ∧ dif (Tp.u32 (own + 1)) (Tp.u32 (own + 1)) ≤ 0
 rw [dif_self]; decide
theorem lose4 {w0 w : World} {L : LV} {la : Option Addr} {ln lc k lq : Nat} {bl : List Bool} (hv : Mem w0 w L R) (hl : (1, .slice la ln lc, bl.map Value.bool) ∈ R) :
   (∃ b o, la = some ⟨b, o, none⟩ ∧ k < ln ∧ (bl.map Value.bool)[k]? = some (.bool true) ∧ lq < 2) ∨ ¬ k < ln ∨ (∃ b o, la = some ⟨b, o, none⟩ ∧ k < ln ∧ (bl.map Value.bool)[k]? = some (.bool false)) ∨ (∃ b o, la = some ⟨b, o, none⟩ ∧ k < ln ∧ (bl.map Value.bool)[k]? = some (.bool true) ∧ ¬ lq < 2) := by
 by_cases hk : k < ln
 · have hlen : bl.length = ln := by
     obtain ⟨_, _, _, e, h, _⟩ := hv.rd hl
     cases e
     rw [List.length_map] at h; omega
   obtain ⟨b, o, _, _, e, _⟩ := (hv.rd hl).some (by rw [List.length_map]; omega)
   cases e
   have hx : (bl.map Value.bool)[k]? = some (.bool (bl[k]'(by omega))) := by rw [List.getElem?_map, List.getElem?_eq_getElem (by omega)]; rfl
   rcases Bool.eq_false_or_eq_true (bl[k]'(by omega)) with h | h
   · rw [h] at hx
     by_cases h2 : lq < 2
     · exact .inl ⟨b, o, rfl, hk, hx, h2⟩
     · exact .inr (.inr (.inr ⟨b, o, rfl, hk, hx, h2⟩))
   · rw [h] at hx
     exact .inr (.inr (.inl ⟨b, o, rfl, hk, hx⟩))
 · exact .inr (.inl hk)
theorem InG.A {iss irs : Nat} {data : List Nat} {g : G} {sa : Option Addr} {sn sk : Nat} (hd : (1, Value.slice sa sn sk, cellsB g.data) ∈ R) (h : ∃ off len, 1 ≤ len ∧ len ≤ 64 ∧ off + len ≤ data.length ∧ g = gA iss irs data off len) : InG R g sa sn sk := by
 obtain ⟨off, len, h1, h2, h3, rfl⟩ := h
 refine ⟨hd, ?_, Tp.u32_lt _, Tp.u32_lt _⟩
 unfold chkG gA
 rw [decide_eq_true_eq]
 refine ⟨by show 1 ≤ 7; decide, by show 7 ≤ 65535; decide, by show 1 ≤ 80; decide, by show 80 ≤ 65535; decide, by show 24 ≤ 31; decide, by show 256 ≤ 65535; decide, ?_⟩
 show ((data.drop off).take len).length ≤ 64
 rw [List.length_take]; omega
theorem InG.B {iss irs p : Nat} {g : G} {sa : Option Addr} {sn sk : Nat} (hd : (1, Value.slice sa sn sk, cellsB g.data) ∈ R) (h : ∃ v w, v ≤ p ∧ 1 ≤ w ∧ w ≤ 256 ∧ g = gB iss irs v w) : InG R g sa sn sk := by
 obtain ⟨v, w, h1, h2, h3, rfl⟩ := h
 refine ⟨hd, ?_, Tp.u32_lt _, Tp.u32_lt _⟩
 unfold chkG gB
 rw [decide_eq_true_eq]
 exact ⟨by show 1 ≤ 80; decide, by show 80 ≤ 65535; decide, by show 1 ≤ 7; decide, by show 7 ≤ 65535; decide, by show 16 ≤ 31; decide, by show w ≤ 65535; omega, by show 0 ≤ 64; decide⟩
end Go.Proofs.Tp
namespace Go.Proofs.Ythenepdbgeafkaa
open Go.Proofs.Wi Go.RowKit Go.Proofs Go.Proofs.Tp
theorem Bytes_Q (u v : Value) (l : List Nat) (w : World) (hu : Rd w 1 u (cellsB l)) (hv : Rd w 1 v (cellsB l)) (hl : goodB l) : Calls Try.prog 16 #[u, v] w fun e w' => e = .returned (.bool true) ∧ w = w' := by
 have := Bytes_any u v l l w hu hv hl hl
 simpa using this
end Go.Proofs.Ythenepdbgeafkaa
namespace Go.Proofs.Ythenepdbgeafkaa
open Go.Proofs.Wi Go.RowKit Go.Proofs Go.Proofs.Tp
theorem Acked_a (aa za : Option Addr) (an ac ln lc iss irs : Nat) (data : List Nat) (bl : List Bool) (w : World) (R : LR) (hv : Mem w w [] R) (ha : (1, .slice aa an ac, cellsB data) ∈ R) (hl : (1, .slice za ln lc, bl.map Value.bool) ∈ R) (h0 : 200 < an) : Calls Try.prog 8 #[.int .u32 iss, .int .u32 irs, .slice aa an ac, .slice za ln lc] w (fun e w' => e = .returned (.bool true) ∧ New w w') := by
 have y0 : decide ((200 : Int) < (an : Int)) = true := decide_eq_true (by omega)
 have z0 : decide (200 < an) = true := decide_eq_true h0
 clear h0
 go_enter Try.func8, Try.ntmps8
 go_wp2_with (first
   | (go_at_call 9; (with_reducible refine (heads26 _).mono ?_); rintro e w1 ⟨rfl, hn1⟩; replace hv := hv.new hn1; clear hn1))
 go_ret
 exact ⟨rfl, hv.below⟩
theorem Acked_b (aa za : Option Addr) (an ac ln lc iss irs : Nat) (data : List Nat) (bl : List Bool) (w : World) (R : LR) (hv : Mem w w [] R) (ha : (1, .slice aa an ac, cellsB data) ∈ R) (hl : (1, .slice za ln lc, bl.map Value.bool) ∈ R) (hga : goodB data) (his : iss < 4294967296) (hir : irs < 4294967296) (h0 : ¬ 200 < an) : Calls Try.prog 8 #[.int .u32 iss, .int .u32 irs, .slice aa an ac, .slice za ln lc] w (fun e w' => e = .returned (.bool true) ∧ New w w') := by
 have y0 : decide ((200 : Int) < (an : Int)) = false := decide_eq_false (by omega)
 have z0 : decide (200 < an) = false := decide_eq_false h0
 have hal : data.length = an := len_rd1 (hv.rd ha)
 have hall : data.length ≤ 200 := by omega
 have hv2 := (hv.add (k := 2) (v := .slice none 0 0) (c := cellsP []) (Rd.nil _ _) (fun h => absurd rfl h)).add (k := 1) (v := .slice none 0 0) (c := cellsB []) (Rd.nil _ _) (fun h => absurd rfl h)
 obtain ⟨R2, hR2⟩ : ∃ R2, R2 = (1, Value.slice none 0 0, cellsB []) :: (2, Value.slice none 0 0, cellsP []) :: R := ⟨_, rfl⟩
 rw [← hR2] at hv2
 clear hv
 have hv := hv2
 clear hv2
 have HI0 : Hid (InC R2 (pT iss irs 7 80) none 0 0 none 0 0 none 0 0 []) := Lib.hid (by rw [hR2]; exact ⟨Mem.z, ⟨Mem.z, Mem.s Mem.z, fun p hp => (List.not_mem_nil hp).elim, rfl⟩, rfl, ⟨Tp.u32_lt _, Tp.u32_lt _, his, Tp.u32_lt _, by show 0 < 4294967296; decide⟩⟩)
 have HJ0 : Hid (InC R2 (pT irs iss 80 7) none 0 0 none 0 0 none 0 0 []) := Lib.hid (by rw [hR2]; exact ⟨Mem.z, ⟨Mem.z, Mem.s Mem.z, fun p hp => (List.not_mem_nil hp).elim, rfl⟩, rfl, ⟨Tp.u32_lt _, Tp.u32_lt _, hir, Tp.u32_lt _, by show 0 < 4294967296; decide⟩⟩)
 have HAM : Hid ((1, .slice aa an ac, cellsB data) ∈ R2) := Lib.hid (by rw [hR2]; exact Mem.s (Mem.s ha))
 have HLM : Hid ((1, .slice za ln lc, bl.map Value.bool) ∈ R2) := Lib.hid (by rw [hR2]; exact Mem.s (Mem.s hl))
 have hst := AkI.start (iss := iss) (irs := irs) hall
 obtain ⟨cw, hcw⟩ : ∃ c, write data 1 (pT iss irs 7 80) = c := ⟨_, rfl⟩
 rw [hcw] at hst
 have HCP : Hid (chkT (pT iss irs 7 80) = true) := Lib.hid (pT_chk iss irs (by decide) (by decide))
 have HDL : Hid (data.length ≤ 1000) := Lib.hid (by omega)
 have HMN : Hid (min data.length (256 - (pT iss irs 7 80).data.length) = an) := Lib.hid (by show min data.length (256 - 0) = an; omega)
 have hcl : cw.out.length ≤ 258 := by rw [← hcw]; exact write_len _ _ _
 have HCW := Lib.hid hcw
 have HST := Lib.hid hst
 have HCL := Lib.hid hcl
 have HIS := Lib.hid his
 have HIR := Lib.hid hir
 have HGA := Lib.hid hga
 have HAL := Lib.hid hal
 have HR2 := Lib.hid hR2
 obtain ⟨m2, hm2⟩ : ∃ m2 : Nat, an + 2 = m2 := ⟨_, rfl⟩
 obtain ⟨lim, hli⟩ : ∃ lim : Nat, 1 + 640 * m2 = lim := ⟨_, rfl⟩
 obtain ⟨m3, hm3⟩ : ∃ m3 : Nat, 640 * m2 = m3 := ⟨_, rfl⟩
 have q1 : IntKind.i64.wrap ((an : Int) + 2) = (m2 : Int) := by rw [IntWalk.i64_in _ (by omega)]; omega
 have q2 : IntKind.u64.wrap (m2 : Int) = (m2 : Int) := IntWalk.u64_in _ (by omega)
 have q3 : IntKind.u64.wrap (640 * (m2 : Int)) = (m3 : Int) := by rw [IntWalk.u64_in _ (by omega)]; omega
 have q4 : IntKind.u64.wrap (1 + (m3 : Int)) = (lim : Int) := by rw [IntWalk.u64_in _ (by omega)]; omega
 have y20 : ((an : Int) != (an : Int)) = false := by simp
 have HLI : Hid (1 + 640 * (data.length + 2) = lim) := Lib.hid (by omega)
 clear ha hl hga his hir h0 hal hcw hst hcl hR2 hm2 hm3 hli
 go_enter Try.func8, Try.ntmps8
 try simp only [List.append_eq, List.cons_append, List.nil_append]
 go_wp2_with (first
   | (go_at_call 10; (with_reducible refine (pair_any _ HIS.out HIR.out).mono ?_); rintro e w1 ⟨rfl, hn1⟩; replace hv := hv.new hn1; clear hn1)
   | ((with_reducible refine gAl 35 9 ?_); refine nwB hv #[.int .i64 0, .int .i64 0, .int .u32 0, .int .i64 0, .int .u32 0, .int .u32 0, .int .u32 0, .slice none 0 0, .int .i64 0, .bool false, .bool false, .int .u32 0, .slice none 0 0, .slice none 0 0, .bool false, .int .u64 0, .int .i64 0, .int .i64 0, .int .i64 0, .slice none 0 0, .int .i64 0, .slice none 0 0, .int .i64 0, .int .i64 0, .int .u32 0, .int .i64 0, .int .u32 0, .int .u32 0, .int .u32 0, .slice none 0 0, .int .i64 0, .bool false, .bool false, .int .u32 0, .slice none 0 0, .slice none 0 0, .bool false, .int .u64 0, .int .i64 0, .int .i64 0, .int .i64 0, .slice none 0 0, .int .i64 0, .slice none 0 0] 35 ?_; clear hv; intro b_9 w2 hv)
   | ((with_reducible refine gSt 35 ?_); refine stV hv b_9 44 infoP44 ?_ (hc := rowP_size (rowT_size _ _ _ _) (rowT_size _ _ _ _)) (h1 := rowP_one (rowT_one _ none none none 0 0 0 0 0 0) (rowT_one _ none none none 0 0 0 0 0 0) rfl rfl rfl rfl); clear hv; intro w2 hv)
   | ((with_reducible refine at_load (T := 31) ?_); refine wl_ldp rfl b_9 0 rfl _ hv.vars.ro 19 _ Try.underlying31 rfl infoT19 (by decide) (by rw [rowP_size (rowT_size _ _ _ _) (rowT_size _ _ _ _)]; decide) (rowT (pT iss irs 7 80) (.slice none 0 0) (.slice none 0 0) (.slice none 0 0)) (rowP_t0 (rowT_size _ _ _ _) (rowT_size _ _ _ _)) ?_)
   | (go_at_call 11; (refine (Write_Q hv HI0.out HCP.out (nw := 1) HAM.out HDL.out (.inl rfl) (n := an) HMN.out).mono ?_); rintro e w1 ⟨R3, da1, dn1, dk1, ba1, bn1, bk1, pa1, pn1, pk1, l1, oa, on, ok, sl, rfl, hm, hs3, hi3, hq3⟩; clear hv; have hv := hm; clear hm; have HS3 := Lib.hid hs3; have HI3 := Lib.hid hi3; have HQ3 := Lib.hid hq3; clear hs3 hi3 hq3; simp only [List.cons_append, List.nil_append] at hv)
   | ((with_reducible refine gAl 31 11 ?_); refine nwB hv #[.int .i64 0, .int .i64 0, .int .u32 0, .int .i64 0, .int .u32 0, .int .u32 0, .int .u32 0, .slice none 0 0, .int .i64 0, .bool false, .bool false, .int .u32 0, .slice none 0 0, .slice none 0 0, .bool false, .int .u64 0, .int .i64 0, .int .i64 0, .int .i64 0] 31 ?_; clear hv; intro b_11 w2 hv)
   | ((with_reducible refine gSt 31 ?_); refine stV hv b_11 19 infoT19 ?_ (h1 := (rowT_one _ _ _ _ _ _ _ _ _ _)); clear hv; intro w2 hv)
   | ((with_reducible refine gLd 31 ?_); refine ldV hv b_11 19 Try.underlying31 infoT19 ?_)
   | ((with_reducible refine at_store (T := 31) ?_); refine wl_stp rfl b_9 0 rfl _ rfl _ hv.vars.ro hv.vars.so 19 infoT19 rfl (by rw [rowP_size (rowT_size _ _ _ _) (rowT_size _ _ _ _)]; decide) (rowT_one _ _ _ _ _ _ _ _ _ _) _ (rowP_s0 (rowT_size _ _ _ _) (rowT_size _ _ _ _) (rowT_size _ _ _ _)) ?_; intro w2 hw2; replace hv := hv.sets (by repeat first | exact .z | apply SetM.s) hw2; clear hw2)
   | ((with_reducible refine gSt 32 ?_); refine stC hv b_9 41 (.slice oa on ok) ?_ (hs := ⟨(SetM.s SetM.z), rowP_set41 (rowT_size _ _ _ _) (rowT_size _ _ _ _)⟩) (h0 := by rw [rowP_size (rowT_size _ _ _ _) (rowT_size _ _ _ _)]; decide); clear hv; intro w2 hv))
 rw [HCW.out] at *
 go_loopw [10, 16] (fun nv kv wr => ∃ (k now u p tr la lb : Nat) (ta tb : T) (qa qb : List G) (got : List Nat) (R1 : LR), nv = .int .u64 now ∧ kv = .int .i64 k ∧ PM w wr b_9 ta tb qa qb la lb [] got R1 ∧ Hid (AkI iss irs data ta tb qa qb la lb now u p tr got) ∧ Hid (k + AkM data qa qb u tr ≤ 20000) ∧ Hid (∀ x ∈ R2, x ∈ R1)) (fun nv kv _ => (20000 - (intOf kv).toNat) + (200000 - (intOf nv).toNat))
 case atStart =>
   refine ⟨0, 1, 0, 0, 0, 0, 0, cw.t, (pT irs iss 80 7), [], cw.out, [], R3, rfl, rfl, ⟨da1, dn1, dk1, ba1, bn1, bk1, pa1, pn1, pk1, l1, none, 0, 0, none, 0, 0, none, 0, 0, [], _, _, _, _, .none, sl, .none, .none, ?_, HI3.out, HJ0.out.mono HS3.out, QQ.empty _, HQ3.out, .inl ⟨none, rfl, rfl, rfl⟩, .inl ⟨none, rfl, rfl, rfl⟩⟩, HST, Lib.hid (by have h1 := HCL.out; have h2 := hall; unfold AkM; simp only [List.length_nil]; omega), Lib.hid HS3.out⟩
   have h := hv.drop
   exact h.castL (by simp [Bny.Slot.rows])
 case round =>
   clear hv
   obtain ⟨k, now, u, p, tr, la, lb, ta, tb, qa, qb, got, R1, rfl, rfl, hpm, HK, HM, HS⟩ := hrel
   obtain ⟨da1, dn1, dk1, ba1, bn1, bk1, pa1, pn1, pk1, l1, da2, dn2, dk2, ba2, bn2, bk2, pa2, pn2, pk2, l2, x1, x2, y1, y2, s1, s2, t1, t2, hv, hI1, hI2, hQ1, hQ2, hG1, hG2⟩ := hpm
   have HI1 := Lib.hid hI1
   have HI2 := Lib.hid hI2
   have hdn : ta.data.length = dn1 := len_rd1 (hv.rd hI1.d)
   obtain ⟨ya1, yn1, yk1, rfl, _⟩ := hG1.own.slice
   have hmo := HK.out.more hall
   have hup := HK.out.up
   have hpn := HK.out.pn
   clear hI1 hI2
   by_cases hu : u = data.length
   · as_aux_lemma =>
     have y1 : ((ta.una : Int) != (ta.nx : Int)) = false := by rw [hmo.1.2 hu]; simp
     have hd0 : ta.data = [] := hmo.2.1.2 hu
     have y9 : decide ((0 : Int) < (dn1 : Int)) = false := decide_eq_false (by rw [← hdn, hd0]; decide)
     have z9 : decide (0 < dn1) = false := decide_eq_false (by rw [← hdn, hd0]; decide)
     have y8 : ((ta.st : Int) == 3) = true := by rw [hmo.2.2.2]; rfl
     obtain ⟨ya2, yn2, yk2, rfl, _⟩ := hG2.own.slice
     have HGO : Hid (Rd wr 1 (.slice ya2 yn2 yk2) (cellsB data)) := Lib.hid (by have h := hG2.own.rd hv.q6; rwa [hmo.2.2.1 hu] at h)
     have HAM2 := Lib.hid (HS.out _ HAM.out)
     clear hmo hdn hd0 hG1 hG2 hQ1 hQ2 hup hpn
     go_wp2_with (first
       | ((with_reducible refine gLd 22 ?_); refine ldC hv b_9 5 (.int .u32 ta.una) Try.underlying22 ?_ (hc := (rowP_a (rowT_size _ _ _ _) (by decide)).trans rfl))
       | ((with_reducible refine gLd 22 ?_); refine ldC hv b_9 6 (.int .u32 ta.nx) Try.underlying22 ?_ (hc := (rowP_a (rowT_size _ _ _ _) (by decide)).trans rfl))
       | ((with_reducible refine gLd 23 ?_); refine ldC hv b_9 7 (.slice da1 dn1 dk1) Try.underlying23 ?_ (hc := (rowP_a (rowT_size _ _ _ _) (by decide)).trans rfl))
       | ((with_reducible refine gLd 23 ?_); refine ldC hv b_9 43 (.slice ya2 yn2 yk2) Try.underlying23 ?_ (hc := rowP_g1 (rowT_size _ _ _ _) (rowT_size _ _ _ _)))
       | (go_at_call 16; (refine (Bytes_Q _ _ data _ HGO.out (hv.rd HAM2.out) HGA.out).mono ?_); rintro e w1 ⟨rfl, rfl⟩)
       | ((with_reducible refine gLd 3 ?_); refine ldC hv b_9 0 (.int .i64 ta.st) Try.underlying3 ?_ (hc := (rowP_a (rowT_size _ _ _ _) (by decide)).trans rfl))
       | (go_at_call 9; (with_reducible refine (heads26 _).mono ?_); rintro e w1 ⟨rfl, hn1⟩; replace hv := hv.new hn1; clear hn1))
     go_ret
     exact ⟨rfl, hv.below⟩
   · have y1 : ((ta.una : Int) != (ta.nx : Int)) = true := by
       rw [bne_iff_ne]
       intro h
       exact hu (hmo.1.1 (by omega))
     obtain ⟨ya2, yn2, yk2, rfl, _⟩ := hG2.own.slice
     clear hdn
     rcases qb with _ | ⟨g, r⟩
     · rcases qa with _ | ⟨g, r⟩
       · as_aux_lemma =>
         obtain ⟨xa1, n1, xk1, rfl, hn1⟩ := hQ1.slice'
         obtain ⟨xa2, n2, xk2, rfl, hn2⟩ := hQ2.slice'
         have y2 : decide ((0 : Int) < (n2 : Int)) = false := decide_eq_false (by rw [← hn2]; decide)
         have z2 : decide (0 < n2) = false := decide_eq_false (by rw [← hn2]; decide)
         have y3 : ((n1 : Int) == 0) = true := by rw [← hn1]; rfl
         have htk := HK.out.tick hall hu
         obtain ⟨hne, hle, hk5, hm5⟩ := htk
         have hgt : now < ta.tm := by
           obtain ⟨wnd, _, e⟩ := HK.out.a
           have := HK.out.up
           have := HK.out.pn
           have := Rk_rng tr
           rw [e]
           show now < if u < data.length then now + Rk tr else 0
           rw [if_pos (by omega)]
           omega
         have y4 : ((ta.tm : Int) == 0) = false := by rw [beq_eq_false_iff_ne]; omega
         have y5 : decide ((lim : Int) < (ta.tm : Int)) = false := decide_eq_false (by have := HLI.out; omega)
         have z5 : decide (lim < ta.tm) = false := decide_eq_false (by have := HLI.out; omega)
         have HCA := Lib.hid (HK.out.chkA hall)
         have HK5 := Lib.hid hk5
         have HM5 := Lib.hid hm5
         have HGT := Lib.hid hgt
         have hn3 := Lib.hid (hk5.now3 hall)
         clear hne hle hk5 hm5 hgt hn1 hn2 hmo hup hpn
         go_wp2_with (first
           | ((with_reducible refine gLd 22 ?_); refine ldC hv b_9 5 (.int .u32 ta.una) Try.underlying22 ?_ (hc := (rowP_a (rowT_size _ _ _ _) (by decide)).trans rfl))
           | ((with_reducible refine gLd 22 ?_); refine ldC hv b_9 6 (.int .u32 ta.nx) Try.underlying22 ?_ (hc := (rowP_a (rowT_size _ _ _ _) (by decide)).trans rfl))
           | ((with_reducible refine gLd 32 ?_); refine ldC hv b_9 41 (.slice xa2 n2 xk2) Try.underlying32 ?_ (hc := rowP_i1 (rowT_size _ _ _ _) (rowT_size _ _ _ _)))
           | ((with_reducible refine gLd 32 ?_); refine ldC hv b_9 19 (.slice xa1 n1 xk1) Try.underlying32 ?_ (hc := rowP_i0 (rowT_size _ _ _ _)))
           | ((with_reducible refine gLd 28 ?_); refine ldC hv b_9 15 (.int .u64 ta.tm) Try.underlying28 ?_ (hc := (rowP_a (rowT_size _ _ _ _) (by decide)).trans rfl))
           | ((with_reducible refine at_load (T := 31) ?_); refine wl_ldp rfl b_9 0 rfl _ hv.vars.ro 19 _ Try.underlying31 rfl infoT19 (by decide) (by rw [rowP_size (rowT_size _ _ _ _) (rowT_size _ _ _ _)]; decide) (rowT ta (.slice da1 dn1 dk1) (.slice ba1 bn1 bk1) (.slice pa1 pn1 pk1)) (rowP_t0 (rowT_size _ _ _ _) (rowT_size _ _ _ _)) ?_)
           | (go_at_call 19; (refine (Tick_Q hv HI1.out HCA.out (nw := ta.tm)).mono ?_); rintro e w1 ⟨R5, da5, dn5, dk5, ba5, bn5, bk5, pa5, pn5, pk5, l5, ov5, rfl, hm, hs5, hi5, ho5⟩; clear hv; have hv := hm; clear hm; have HS5 := Lib.hid hs5; have HI5 := Lib.hid hi5; have HO5 := Lib.hid ho5; clear hs5 hi5 ho5)
           | ((with_reducible refine gAl 31 18 ?_); refine nwB hv #[.int .i64 0, .int .i64 0, .int .u32 0, .int .i64 0, .int .u32 0, .int .u32 0, .int .u32 0, .slice none 0 0, .int .i64 0, .bool false, .bool false, .int .u32 0, .slice none 0 0, .slice none 0 0, .bool false, .int .u64 0, .int .i64 0, .int .i64 0, .int .i64 0] 31 ?_; clear hv; intro b_18 w2 hv)
           | ((with_reducible refine gSt 31 ?_); refine stV hv b_18 19 infoT19 ?_ (h1 := (rowT_one _ _ _ _ _ _ _ _ _ _)); clear hv; intro w2 hv))
         obtain ⟨gs2, hq2, ha2, he2⟩ := hQ2
         obtain ⟨g5, ho5, ha5, he5⟩ := HO5.out
         obtain ⟨o5, m5, k5, rfl, _⟩ := hv.rd ho5
         have HQS := Lib.hid hq2
         have HOM := Lib.hid ho5
         have HLG : Hid (∃ m, (cellsG g5).length = m * 7) := Lib.hid ⟨_, cellsG_len _⟩
         have HOC := Lib.hid (cellsG_oneQ ha5 hv)
         have HBG : Hid (gs2.length + g5.length ≤ 100000) := Lib.hid (by
           have h1 := congrArg List.length he2
           have h2 := congrArg List.length he5
           have h3 := tick_len ta.tm ta
           rw [List.length_map] at h1 h2
           simp only [List.length_nil] at h1
           omega)
         have HR1 := Lib.hid hQ1.reads
         have HR2 := Lib.hid hq2.reads
         have HR3 := Lib.hid hG1.reads
         have HR4 := Lib.hid hG2.reads
         have HA2 := Lib.hid ha2
         have HE2 := Lib.hid he2
         have HA5 := Lib.hid ha5
         have HE5 := Lib.hid he5
         have HQ1 := Lib.hid hQ1
         have HG1 := Lib.hid hG1
         have HG2 := Lib.hid hG2
         clear hq2 ha2 he2 ho5 ha5 he5 hQ1 hG1 hG2
         have hv0 := Mem.cast hv (show _ = (([.row b_18 (rowT (Tp.tick ta.tm ⟨ta, []⟩).t (.slice da5 dn5 dk5) (.slice ba5 bn5 bk5) (.slice pa5 pn5 pk5)), .row b_9 (rowP (rowT ta (.slice da1 dn1 dk1) (.slice ba1 bn1 bk1) (.slice pa1 pn1 pk1)) (.slice xa1 n1 xk1) la (.slice ya1 yn1 yk1) (rowT tb (.slice da2 dn2 dk2) (.slice ba2 bn2 bk2) (.slice pa2 pn2 pk2)) (.slice xa2 n2 xk2) lb (.slice ya2 yn2 yk2)), s1, s2, t1, t2] : List Bny.Slot).flatMap Bny.Slot.rows ++ []) from by simp [Bny.Slot.rows])
         clear hv
         try simp only [Act.put]
         refine Bny.wp_region_walkS [.row b_18 (rowT (Tp.tick ta.tm ⟨ta, []⟩).t (.slice da5 dn5 dk5) (.slice ba5 bn5 bk5) (.slice pa5 pn5 pk5)), .row b_9 (rowP (rowT ta (.slice da1 dn1 dk1) (.slice ba1 bn1 bk1) (.slice pa1 pn1 pk1)) (.slice xa1 n1 xk1) la (.slice ya1 yn1 yk1) (rowT tb (.slice da2 dn2 dk2) (.slice ba2 bn2 bk2) (.slice pa2 pn2 pk2)) (.slice xa2 n2 xk2) lb (.slice ya2 yn2 yk2)), s1, s2, t1, t2] [] [⟨[1000], none⟩, ⟨[], none⟩, ⟨[], none⟩, ⟨[1001], none⟩, ⟨[], none⟩, ⟨[], some 1003⟩, ⟨[], none⟩, ⟨[], none⟩, ⟨[1001], some 1001⟩, ⟨[], none⟩, ⟨[], none⟩, ⟨[1001], some 1001⟩] [.val, .val, .val, .val, .val, .slot (Bny.QS 7 (cellsG gs2 ++ cellsG g5)), .val, .val, .put, .val, .val, .put] (by kernel_rfl) (by kernel_rfl) hv0 (by exact slots6 HR1.out HR2.out HR3.out HR4.out) ?_
         clear hv0
         simp only [List.length_cons, List.length_nil, Nat.zero_add, Any.someVals]
         iterate 12 apply Exists.intro
         repeat (first
           | (refine Bny.E_off rfl ?_; simp only [Act.put, sia, scs, scz])
           | ((with_reducible refine Bny.gE 32 ?_); refine Bny.eC 1001 (.slice xa2 n2 xk2) Try.underlying32 ?_ (hc := rowP_i1 (rowT_size _ _ _ _) (rowT_size _ _ _ _)); simp only [Act.put, sia, scs, scz])
           | ((with_reducible refine Bny.at_eappQ (t := 32) ?_); refine Bny.E_appQ rfl rfl rfl rfl rfl HQS.out rfl (Or.inl HOM.out) (.agg #[.int .i64 0, .int .i64 0, .int .u32 0, .int .u32 0, .int .i64 0, .int .i64 0, .slice none 0 0]) 64 Try.underlying32 infoGz rfl (by decide) HLG.out HOC.out (app_bq HBG.out).1 (app_bq HBG.out).2 ?_; intro v9 sl9 hq9; obtain ⟨x9, n9, k9, rfl, hn9⟩ := hq9.own.slice; clear hn9; have HQ9 := Lib.hid hq9; clear hq9; simp only [Act.put, sia, scs, scz])
           | ((with_reducible refine Bny.at_estore (T := 31) ?_); refine Bny.E_putp (T := 31) (off := 0) rfl rfl rfl rfl rfl rfl 19 infoT19 rfl (by rw [rowP_size (rowT_size _ _ _ _) (rowT_size _ _ _ _)]; decide) (rowT_one _ _ _ _ _ _ _ _ _ _) (rowP_s0 (rowT_size _ _ _ _) (rowT_size _ _ _ _) (rowT_size _ _ _ _)) ?_; simp only [Act.put, sia, scs, scz])
           | ((with_reducible refine Bny.at_estore (T := 32) ?_); refine Bny.eP 41 (rowP_set41 (rowT_size _ _ _ _) (rowT_size _ _ _ _)) (Nat.lt_of_lt_of_eq (by decide : 41 < 44) (rowP_size (rowT_size _ _ _ _) (rowT_size _ _ _ _)).symm) (by kernel_rfl) ?_; simp only [Act.put, sia, scs, scz])
           | (apply Bny.E_pureq rfl rfl rfl
              case h => intro K hK; go_big_quiet_op; (refine hK _ ?_; rfl)
              case hr => exact fun _ => rfl
              simp only [Act.put, sia, scs, scz])
           | (apply Bny.E_val rfl rfl rfl rfl
              case h =>
                intro E' hA K hK
                first
                  | ((with_reducible refine Bny.at_qload (T := 31) ?_); refine Bny.q_ldv 1000 hA (by decide) rfl rfl 19 _ Try.underlying31 rfl infoT19 (by decide) rfl ?_; refine hK _ ?_; rfl)
                  | (go_big_quiet_op; first
                    | (refine hK _ ?_; rfl)
                    | (refine ⟨_, fun _ _ => rfl, ?_⟩; refine hK _ ?_; rfl)
                    | (apply Exists.intro; refine ⟨fun w1 hw1 => ?_, ?_⟩; · (first
                        | fail)
                       refine hK _ ?_; rfl))
              case hD => rfl
              simp only [Act.put, sia, scs, scz]))
         try any_goals exact undef
         refine Bny.E_nil ?_
         intro w9 hE9
         have hv : Mem w w9 (((b_9, (rowP (rowT (Tp.tick ta.tm ⟨ta, []⟩).t (.slice da5 dn5 dk5) (.slice ba5 bn5 bk5) (.slice pa5 pn5 pk5)) (.slice xa1 n1 xk1) la (.slice ya1 yn1 yk1) (rowT tb (.slice da2 dn2 dk2) (.slice ba2 bn2 bk2) (.slice pa2 pn2 pk2)) (.slice x9 n9 k9) lb (.slice ya2 yn2 yk2))) :: (s1.rows ++ (sl9.rows ++ (t1.rows ++ (t2.rows ++ []))))) ++ []) R5 := hE9.mem0 [1001, 1002, 1003, 1004, 1005] (by decide)
         clear hE9
         simp only [List.cons_append, List.nil_append, List.append_nil] at hv
         go_wp2
         go_roundw
         case rel =>
           refine ⟨k, ta.tm, u, p, tr + 1, la, lb, (Tp.tick ta.tm ⟨ta, []⟩).t, tb, [], (Tp.tick ta.tm ⟨ta, []⟩).out, got, R5, rfl, rfl, ⟨da5, dn5, dk5, ba5, bn5, bk5, pa5, pn5, pk5, l5, da2, dn2, dk2, ba2, bn2, bk2, pa2, pn2, pk2, l2, _, _, _, _, s1, sl9, t1, t2, hv, HI5.out, HI2.out.mono HS5.out, HQ1.out.mono HS5.out, ⟨gs2 ++ g5, ?_, ?_, ?_⟩, HG1.out, HG2.out⟩, HK5, Lib.hid (by have h1 := HM.out; have h2 := HM5.out; omega), Lib.hid (fun x hx => HS5.out x (HS.out x hx))⟩
           · rw [cellsG_app]; exact HQ9.out
           · intro y hy
             rcases List.mem_append.1 hy with hy | hy
             · exact HS5.out _ (HA2.out y hy)
             · exact HA5.out y hy
           · rw [List.map_append, HE2.out, HE5.out, List.nil_append]
         case measure =>
           have h1 := hn3.out
           have h2 := HGT.out
           show (20000 - ((k : Nat) : Int).toNat) + (200000 - ((ta.tm : Nat) : Int).toNat) < (20000 - ((k : Nat) : Int).toNat) + (200000 - ((now : Nat) : Int).toNat)
           omega
       · obtain ⟨xa2, n2, xk2, rfl, hn2⟩ := hQ2.slice'
         obtain ⟨xb, xo, xk, sa, sn, sk, gr, e, hqs, hgd, hga, hgr⟩ := hQ1.head hv.q1
         subst e
         obtain ⟨n1, hn1⟩ : ∃ n, r.length + 1 = n := ⟨_, rfl⟩
         rw [hn1] at hv hqs hQ1
         have y2 : decide ((0 : Int) < (n2 : Int)) = false := decide_eq_false (by rw [← hn2]; decide)
         have z2 : decide (0 < n2) = false := decide_eq_false (by rw [← hn2]; decide)
         have y3 : ((n1 : Int) == 0) = false := by rw [beq_eq_false_iff_ne]; omega
         have hix : (0 : Int) < (n1 : Int) := by omega
         have hiy : 0 < n1 := by omega
         have HN1 : Hid (1 ≤ n1) := Lib.hid hiy
         have HXV : Hid (((cellsG ((g, Value.slice sa sn sk) :: gr)).drop 0).take 7 = (#[.int .i64 g.src, .int .i64 g.dst, .int .u32 g.seq, .int .u32 g.ack, .int .i64 g.fl, .int .i64 g.wnd, .slice sa sn sk] : Array Value).toList) := Lib.hid rfl
         have hk20 : k ≤ 20000 := by have := HM.out; omega
         have q7 : IntKind.i64.wrap ((k : Int) + 1) = ((k + 1 : Nat) : Int) := by rw [IntWalk.i64_in _ (by omega)]; omega
         have hls := HS.out _ HLM.out
         obtain ⟨l3, hl3⟩ : ∃ n : Nat, la + 1 = n := ⟨_, rfl⟩
         have hlq : la ≤ 2 := HK.out.fla
         have q8 : IntKind.i64.wrap ((la : Int) + 1) = (l3 : Int) := by rw [IntWalk.i64_in _ (by omega)]; omega
         have HQS := Lib.hid hqs
         have HGD := Lib.hid hgd
         have HGA := Lib.hid hga
         have HGR := Lib.hid hgr
         have HQX := Lib.hid hQ1
         have HQO := Lib.hid hQ2
         have HG1 := Lib.hid hG1
         have HG2 := Lib.hid hG2
         have HL3 := Lib.hid hl3
         have HNY := Lib.hid hn2
         clear hqs hgd hga hgr hQ1 hQ2 hG1 hG2 hl3 hmo hup hpn hn1 hn2
         have hcase := lose4 hv hls (k := k) (lq := la)
         rcases hcase with ⟨lb9, lo9, rfl, hkl, hx, hl2⟩ | hkl | ⟨lb9, lo9, rfl, hkl, hx⟩ | ⟨lb9, lo9, rfl, hkl, hx, hl2⟩
         · as_aux_lemma =>
           have y8 : decide ((la : Int) < 2) = true := decide_eq_true (by omega)
           have z8 : decide (la < 2) = true := decide_eq_true (by omega)
           have y6 : decide ((k : Int) < (ln : Int)) = true := decide_eq_true (by omega)
           have z6 : decide (k < ln) = true := decide_eq_true hkl
           have hkn : (k : Int) < (ln : Int) := by omega
           have HLS := Lib.hid hls
           have HXL := Lib.hid hx
           have HL2 : Hid (la < 2) := Lib.hid hl2
           clear hls hl2 hlq hx
           go_wp2_with (first
             | ((with_reducible refine gLd 22 ?_); refine ldC hv b_9 5 (.int .u32 ta.una) Try.underlying22 ?_ (hc := (rowP_a (rowT_size _ _ _ _) (by decide)).trans rfl))
             | ((with_reducible refine gLd 22 ?_); refine ldC hv b_9 6 (.int .u32 ta.nx) Try.underlying22 ?_ (hc := (rowP_a (rowT_size _ _ _ _) (by decide)).trans rfl))
             | ((with_reducible refine gLd 32 ?_); refine ldC hv b_9 41 (.slice xa2 n2 xk2) Try.underlying32 ?_ (hc := rowP_i1 (rowT_size _ _ _ _) (rowT_size _ _ _ _)))
             | ((with_reducible refine gLd 32 ?_); refine ldC hv b_9 19 (.slice (some ⟨xb, xo, none⟩) n1 xk) Try.underlying32 ?_ (hc := rowP_i0 (rowT_size _ _ _ _)))
             | ((with_reducible refine at_load (T := 42) ?_); refine wl_rdv rfl (kk := 7) (b := xb) (o := xo) (n := n1) (cap := xk) (c := cellsG ((g, Value.slice sa sn sk) :: gr)) (HQS.out.own.rd hv.q1) 0 rfl 7 _ Try.underlying42 rfl infoG7 (by decide) #[.int .i64 g.src, .int .i64 g.dst, .int .u32 g.seq, .int .u32 g.ack, .int .i64 g.fl, .int .i64 g.wnd, .slice sa sn sk] HXV.out rfl ?_)
             | ((with_reducible refine gAl 42 20 ?_); refine nwB hv #[.int .i64 0, .int .i64 0, .int .u32 0, .int .u32 0, .int .i64 0, .int .i64 0, .slice none 0 0] 42 ?_; clear hv; intro b_20 w2 hv)
             | ((with_reducible refine gSt 42 ?_); refine stV hv b_20 7 infoG7 ?_; clear hv; intro w2 hv)
             | ((with_reducible refine at_slice (T := 32) ?_); refine wl_tailG rfl rfl rfl HQX.out hv.q2 Try.underlying32 infoG7 ?_; intro xa7 n7 xk7 s7 hn7 hq7 hv7; clear hv; have hv := hv7; clear hv7; simp only [List.append_assoc, List.cons_append, List.nil_append] at hv; have HN7 := Lib.hid hn7; have HQ7 := Lib.hid hq7; clear hn7 hq7)
             | ((with_reducible refine gSt 32 ?_); refine stC hv b_9 19 (.slice xa7 n7 xk7) ?_ (hs := ⟨(SetM.s SetM.z), rowP_set19 (rowT_size _ _ _ _) (rowT_size _ _ _ _)⟩) (h0 := by rw [rowP_size (rowT_size _ _ _ _) (rowT_size _ _ _ _)]; decide); clear hv; intro w2 hv)
             | ((with_reducible refine at_load (T := 4) ?_); refine wl_rd rfl (c := bl.map Value.bool) (hv.rd HLS.out) k rfl _ Try.underlying4 rfl (.bool true) HXL.out ?_)
             | ((with_reducible refine gLd 3 ?_); refine ldC hv b_9 20 (.int .i64 la) Try.underlying3 ?_ (hc := rowP_l0 (rowT_size _ _ _ _)))
             | ((with_reducible refine gSt 3 ?_); refine stC hv b_9 20 (.int .i64 l3) ?_ (hs := ⟨(SetM.s SetM.z), rowP_set20 (rowT_size _ _ _ _) (rowT_size _ _ _ _)⟩) (h0 := by rw [rowP_size (rowT_size _ _ _ _) (rowT_size _ _ _ _)]; decide); clear hv; intro w2 hv))
           refine ⟨?_, ?measure⟩
           repeat apply Exists.intro
           refine ⟨?rel, rfl⟩
           case rel =>
             refine ⟨k + 1, now, u, p, tr, l3, lb, ta, tb, r, [], got, R1, rfl, rfl, ⟨da1, dn1, dk1, ba1, bn1, bk1, pa1, pn1, pk1, l1, da2, dn2, dk2, ba2, bn2, bk2, pa2, pn2, pk2, l2, _, _, _, _, s7, s2, t1, t2, hv.drop, HI1.out, HI2.out, HQ7.out, HQO.out, HG1.out, HG2.out⟩, Lib.hid (by rw [← HL3.out]; exact HK.out.loseA HL2.out), Lib.hid (by have h1 := HM.out; unfold AkM at h1 ⊢; simp only [List.length_cons] at h1; omega), HS⟩
           case measure =>
             have h1 := HM.out
             unfold AkM at h1
             simp only [List.length_cons] at h1
             show (20000 - ((k : Int) + 1).toNat) + (200000 - ((now : Nat) : Int).toNat) < (20000 - ((k : Nat) : Int).toNat) + (200000 - ((now : Nat) : Int).toNat)
             omega
         all_goals first
           | (have y6 : decide ((k : Int) < (ln : Int)) = true := decide_eq_true (Int.ofNat_lt.2 hkl))
           | (have y6 : decide ((k : Int) < (ln : Int)) = false := decide_eq_false (fun h => hkl (Int.ofNat_lt.1 h)))
         all_goals first
           | (have z6 : decide (k < ln) = true := decide_eq_true hkl)
           | (have z6 : decide (k < ln) = false := decide_eq_false hkl)
         all_goals try (have hkn := Int.ofNat_lt.2 hkl)
         all_goals first
           | (have HXL := Lib.hid hx)
           | (have HXL := Lib.hid True.intro)
         all_goals try (have y8 : decide ((la : Int) < 2) = false := decide_eq_false (fun h => hl2 (by exact_mod_cast h)))
         all_goals try (have z8 : decide (la < 2) = false := decide_eq_false hl2)
         all_goals try (clear hx)
         all_goals try (clear hl2)
         all_goals
           as_aux_lemma =>
           have HLS := Lib.hid hls
           clear hls hlq
           go_wp2_with (first
             | ((with_reducible refine gLd 22 ?_); refine ldC hv b_9 5 (.int .u32 ta.una) Try.underlying22 ?_ (hc := (rowP_a (rowT_size _ _ _ _) (by decide)).trans rfl))
             | ((with_reducible refine gLd 22 ?_); refine ldC hv b_9 6 (.int .u32 ta.nx) Try.underlying22 ?_ (hc := (rowP_a (rowT_size _ _ _ _) (by decide)).trans rfl))
             | ((with_reducible refine gLd 32 ?_); refine ldC hv b_9 41 (.slice xa2 n2 xk2) Try.underlying32 ?_ (hc := rowP_i1 (rowT_size _ _ _ _) (rowT_size _ _ _ _)))
             | ((with_reducible refine gLd 32 ?_); refine ldC hv b_9 19 (.slice (some ⟨xb, xo, none⟩) n1 xk) Try.underlying32 ?_ (hc := rowP_i0 (rowT_size _ _ _ _)))
             | ((with_reducible refine at_load (T := 42) ?_); refine wl_rdv rfl (kk := 7) (b := xb) (o := xo) (n := n1) (cap := xk) (c := cellsG ((g, Value.slice sa sn sk) :: gr)) (HQS.out.own.rd hv.q1) 0 rfl 7 _ Try.underlying42 rfl infoG7 (by decide) #[.int .i64 g.src, .int .i64 g.dst, .int .u32 g.seq, .int .u32 g.ack, .int .i64 g.fl, .int .i64 g.wnd, .slice sa sn sk] HXV.out rfl ?_)
             | ((with_reducible refine gAl 42 20 ?_); refine nwB hv #[.int .i64 0, .int .i64 0, .int .u32 0, .int .u32 0, .int .i64 0, .int .i64 0, .slice none 0 0] 42 ?_; clear hv; intro b_20 w2 hv)
             | ((with_reducible refine gSt 42 ?_); refine stV hv b_20 7 infoG7 ?_; clear hv; intro w2 hv)
             | ((with_reducible refine at_slice (T := 32) ?_); refine wl_tailG rfl rfl rfl HQX.out hv.q2 Try.underlying32 infoG7 ?_; intro xa7 n7 xk7 s7 hn7 hq7 hv7; clear hv; have hv := hv7; clear hv7; simp only [List.append_assoc, List.cons_append, List.nil_append] at hv; have HN7 := Lib.hid hn7; have HQ7 := Lib.hid hq7; clear hn7 hq7)
             | ((with_reducible refine gSt 32 ?_); refine stC hv b_9 19 (.slice xa7 n7 xk7) ?_ (hs := ⟨(SetM.s SetM.z), rowP_set19 (rowT_size _ _ _ _) (rowT_size _ _ _ _)⟩) (h0 := by rw [rowP_size (rowT_size _ _ _ _) (rowT_size _ _ _ _)]; decide); clear hv; intro w2 hv)
             | ((with_reducible refine at_load (T := 4) ?_); refine wl_rd rfl (c := bl.map Value.bool) (hv.rd HLS.out) k rfl _ Try.underlying4 rfl (.bool true) HXL.out ?_)
             | ((with_reducible refine at_load (T := 4) ?_); refine wl_rd rfl (c := bl.map Value.bool) (hv.rd HLS.out) k rfl _ Try.underlying4 rfl (.bool false) HXL.out ?_)
             | ((with_reducible refine gLd 3 ?_); refine ldC hv b_9 20 (.int .i64 la) Try.underlying3 ?_ (hc := rowP_l0 (rowT_size _ _ _ _)))
             | ((with_reducible refine gSt 3 ?_); refine stC hv b_9 20 (.int .i64 ((0 : Nat) : Int)) ?_ (hs := ⟨(SetM.s SetM.z), rowP_set20 (rowT_size _ _ _ _) (rowT_size _ _ _ _)⟩) (h0 := by rw [rowP_size (rowT_size _ _ _ _) (rowT_size _ _ _ _)]; decide); clear hv; intro w2 hv))
           have hseg : InG R1 g sa sn sk := by
             have hg := HK.out.fqa g (List.mem_cons_self ..)
             exact InG.B HGD.out hg
           have HGG := Lib.hid hseg
           have HCK := Lib.hid (HK.out.chkA hall)
           have HSC : Hid (∃ v R', TkQ R1 now g ta v R') := Lib.hid (Bny.some_of (Take_Q hv (fun x hx => hx) HI1.out HCK.out (nw := now) HGG.out))
           have HR1 := Lib.hid HQ7.out.reads
           have HR2 := Lib.hid HQO.out.reads
           have HR3 := Lib.hid HG1.out.reads
           have HR4 := Lib.hid HG2.out.reads
           clear hseg
           have hv0 := Mem.cast hv (show _ = (([.row b_20 #[.int .i64 g.src, .int .i64 g.dst, .int .u32 g.seq, .int .u32 g.ack, .int .i64 g.fl, .int .i64 g.wnd, .slice sa sn sk], .row b_9 (rowP (rowT ta (.slice da1 dn1 dk1) (.slice ba1 bn1 bk1) (.slice pa1 pn1 pk1)) (.slice xa7 n7 xk7) 0 (.slice ya1 yn1 yk1) (rowT tb (.slice da2 dn2 dk2) (.slice ba2 bn2 bk2) (.slice pa2 pn2 pk2)) (.slice xa2 n2 xk2) lb (.slice ya2 yn2 yk2)), s7, s2, t1, t2] : List Bny.Slot).flatMap Bny.Slot.rows ++ []) from by simp [Bny.Slot.rows])
           clear hv
           try simp only [Act.put]
           refine Bny.wp_region_walkS [.row b_20 #[.int .i64 g.src, .int .i64 g.dst, .int .u32 g.seq, .int .u32 g.ack, .int .i64 g.fl, .int .i64 g.wnd, .slice sa sn sk], .row b_9 (rowP (rowT ta (.slice da1 dn1 dk1) (.slice ba1 bn1 bk1) (.slice pa1 pn1 pk1)) (.slice xa7 n7 xk7) 0 (.slice ya1 yn1 yk1) (rowT tb (.slice da2 dn2 dk2) (.slice ba2 bn2 bk2) (.slice pa2 pn2 pk2)) (.slice xa2 n2 xk2) lb (.slice ya2 yn2 yk2)), s7, s2, t1, t2] [] [⟨[], none⟩, ⟨[], none⟩, ⟨[], none⟩, ⟨[1001], none⟩, ⟨[1000], none⟩, ⟨[], none⟩, ⟨[], some 6⟩, ⟨[], none⟩, ⟨[], none⟩, ⟨[], none⟩, ⟨[], some 10⟩, ⟨[10], some 10⟩] [.val, .val, .val, .val, .val, .val, .mem (TkQ R1 now g ta), .pure, .pure, .pure, .lay #[.int .i64 0, .int .i64 0, .int .u32 0, .int .i64 0, .int .u32 0, .int .u32 0, .int .u32 0, .slice none 0 0, .int .i64 0, .bool false, .bool false, .int .u32 0, .slice none 0 0, .slice none 0 0, .bool false, .int .u64 0, .int .i64 0, .int .i64 0, .int .i64 0], .put, .pure] (by kernel_rfl) (by kernel_rfl) hv0 (by exact slots6 HR1.out HR2.out HR3.out HR4.out) ?_
           clear hv0
           simp only [List.length_cons, List.length_nil, Nat.zero_add, Any.someVals]
           iterate 13 apply Exists.intro
           repeat (first
             | (refine Bny.E_off rfl ?_; simp only [Act.put, sia, scs, scz])
             | ((with_reducible refine Bny.at_ealloc ?_); refine Bny.E_lay (t := 31) rfl rfl rfl (fun _ => rfl) ?_; intro b_22; simp only [Act.put, sia, scs, scz])
             | ((with_reducible refine Bny.gE 31 ?_); refine Bny.eX 1001 0 19 (rowT ta (.slice da1 dn1 dk1) (.slice ba1 bn1 bk1) (.slice pa1 pn1 pk1)) Try.underlying31 infoT19 (rowP_t0 (rowT_size _ _ _ _) (rowT_size _ _ _ _)) (Nat.le_trans (by decide : 0 + 19 ≤ 44) (Nat.le_of_eq (rowP_size (rowT_size _ _ _ _) (rowT_size _ _ _ _)).symm)) ?_; simp only [Act.put, sia, scs, scz])
             | ((with_reducible refine Bny.at_estore (T := 31) ?_); refine Bny.E_putv (T := 31) rfl rfl rfl rfl rfl rfl 19 infoT19 rfl rfl (rowT_one _ _ _ _ _ _ _ _ _ _) ?_; simp only [Act.put, sia, scs, scz])
             | ((with_reducible refine Bny.at_ecallf (f := 13) ?_); refine Bny.E_callmem rfl rfl rfl (Go.Proofs.enters_of Try.func13 (by kernel_rfl) rfl) rfl [.agg (rowT ta (.slice da1 dn1 dk1) (.slice ba1 bn1 bk1) (.slice pa1 pn1 pk1)), .agg #[.int .i64 g.src, .int .i64 g.dst, .int .u32 g.seq, .int .u32 g.ack, .int .i64 g.fl, .int .i64 g.wnd, .slice sa sn sk], .int .u64 now] rfl HSC.out R1 (fun x hx => .inl hx) (fun w0 w L R' hm hs => by have h := Take_Q hm hs HI1.out HCK.out (nw := now) HGG.out; exact h) ?_; rintro v R3 ⟨c3, da3, dn3, dk3, ba3, bn3, bk3, pa3, pn3, pk3, l3', ov3, he, ht3, hi3, ho3, hs3⟩; obtain rfl : v = .tuple #[.agg (rowT c3.t (.slice da3 dn3 dk3) (.slice ba3 bn3 bk3) (.slice pa3 pn3 pk3)), ov3] := he; have HT3 := Lib.hid ht3; have HI3 := Lib.hid hi3; have HO3 := Lib.hid ho3; have HS3 := Lib.hid hs3; clear ht3 hi3 ho3 hs3; simp only [Act.put, sia, scs, scz])
             | (apply Bny.E_pureq rfl rfl rfl
                case h => intro K hK; go_big_quiet_op; (refine hK _ ?_; rfl)
                case hr => exact fun _ => rfl
                simp only [Act.put, sia, scs, scz])
             | (apply Bny.E_val rfl rfl rfl rfl
                case h =>
                  intro E' hA K hK
                  first
                    | ((with_reducible refine Bny.at_qload (T := 42) ?_); refine Bny.q_ldv 1000 hA (by decide) rfl rfl 7 _ Try.underlying42 rfl infoG7 (by decide) rfl ?_; refine hK _ ?_; rfl)
                    | (go_big_quiet_op; first
                      | (refine hK _ ?_; rfl)
                      | (refine ⟨_, fun _ _ => rfl, ?_⟩; refine hK _ ?_; rfl)
                      | (apply Exists.intro; refine ⟨fun w1 hw1 => ?_, ?_⟩; · (first
                          | fail)
                         refine hK _ ?_; rfl))
                case hD => rfl
                simp only [Act.put, sia, scs, scz]))
           try any_goals exact undef
           refine Bny.E_nil ?_
           intro w9 hE9
           have hv : Mem w w9 (((b_22, (rowT c3.t (.slice da3 dn3 dk3) (.slice ba3 bn3 bk3) (.slice pa3 pn3 pk3))) :: (b_9, (rowP (rowT ta (.slice da1 dn1 dk1) (.slice ba1 bn1 bk1) (.slice pa1 pn1 pk1)) (.slice xa7 n7 xk7) 0 (.slice ya1 yn1 yk1) (rowT tb (.slice da2 dn2 dk2) (.slice ba2 bn2 bk2) (.slice pa2 pn2 pk2)) (.slice xa2 n2 xk2) lb (.slice ya2 yn2 yk2))) :: (s7.rows ++ (s2.rows ++ (t1.rows ++ (t2.rows ++ []))))) ++ []) R3 := hE9.mem1 [10, 1001, 1002, 1003, 1004, 1005] (by decide) 6 rfl
           clear hE9
           simp only [List.cons_append, List.nil_append, List.append_nil] at hv
           have HCK3 := Lib.hid (take_kept HCK.out HT3.out).chk
           obtain ⟨u', tr', hk', he1, he2, he3, hm'⟩ := HK.out.takeA hall HT3.out
           have HK' := Lib.hid hk'
           have HM' := Lib.hid hm'
           have HE1 := Lib.hid he1
           have HE2 := Lib.hid he2
           have HE3 := Lib.hid he3
           clear hk' he1 he2 he3 hm'
           go_wp2_with (first
             | ((with_reducible refine gLd 31 ?_); refine ldV hv b_22 19 Try.underlying31 infoT19 ?_)
             | (go_at_call 14; (refine (Read_Q hv HI3.out HCK3.out (n := 300)).mono ?_); rintro e w1 ⟨R4, da4, dn4, dk4, ba4, bn4, bk4, pa4, pn4, pk4, l4, ga, gn, gk, ov4, rfl, hm, hs4, hi4, ho4, hg4⟩; clear hv; have hv := hm; clear hm; have HS4 := Lib.hid hs4; have HI4 := Lib.hid hi4; have HO4 := Lib.hid ho4; have HGM := Lib.hid hg4; clear hs4 hi4 ho4 hg4)
             | ((with_reducible refine gSt 31 ?_); refine stV hv b_22 19 infoT19 ?_ (h1 := (rowT_one _ _ _ _ _ _ _ _ _ _)); clear hv; intro w2 hv))
           have HBG : Hid (([] : List Nat).length + (Tp.read 300 c3.t).2.length ≤ 2000) := Lib.hid (by
             rw [HE3.out]; decide
           
             )
           have HGX := Lib.hid HG1.out
           have hv0 := Mem.cast hv (show _ = (([.row b_22 (rowT (Tp.read 300 c3.t).1.t (.slice da4 dn4 dk4) (.slice ba4 bn4 bk4) (.slice pa4 pn4 pk4)), .row b_9 (rowP (rowT ta (.slice da1 dn1 dk1) (.slice ba1 bn1 bk1) (.slice pa1 pn1 pk1)) (.slice xa7 n7 xk7) 0 (.slice ya1 yn1 yk1) (rowT tb (.slice da2 dn2 dk2) (.slice ba2 bn2 bk2) (.slice pa2 pn2 pk2)) (.slice xa2 n2 xk2) lb (.slice ya2 yn2 yk2)), s7, s2, t1, t2] : List Bny.Slot).flatMap Bny.Slot.rows ++ []) from by simp [Bny.Slot.rows])
           clear hv
           try simp only [Act.put]
           refine Bny.wp_region_walkS [.row b_22 (rowT (Tp.read 300 c3.t).1.t (.slice da4 dn4 dk4) (.slice ba4 bn4 bk4) (.slice pa4 pn4 pk4)), .row b_9 (rowP (rowT ta (.slice da1 dn1 dk1) (.slice ba1 bn1 bk1) (.slice pa1 pn1 pk1)) (.slice xa7 n7 xk7) 0 (.slice ya1 yn1 yk1) (rowT tb (.slice da2 dn2 dk2) (.slice ba2 bn2 bk2) (.slice pa2 pn2 pk2)) (.slice xa2 n2 xk2) lb (.slice ya2 yn2 yk2)), s7, s2, t1, t2] [] [⟨[], none⟩, ⟨[], none⟩, ⟨[1000], none⟩, ⟨[], none⟩, ⟨[], none⟩, ⟨[], none⟩, ⟨[1001], none⟩, ⟨[], none⟩, ⟨[], some 1004⟩, ⟨[], none⟩, ⟨[], none⟩, ⟨[1001], some 1001⟩, ⟨[], none⟩, ⟨[], none⟩, ⟨[1001], some 1001⟩] [.val, .val, .val, .val, .val, .val, .val, .val, .slot (Bny.QS 1 (cellsB ([] : List Nat) ++ cellsB (Tp.read 300 c3.t).2)), .val, .val, .put, .val, .val, .put] (by kernel_rfl) (by kernel_rfl) hv0 (by exact slots6 HR1.out HR2.out HR3.out HR4.out) ?_
           clear hv0
           simp only [List.length_cons, List.length_nil, Nat.zero_add, Any.someVals]
           iterate 15 apply Exists.intro
           repeat (first
             | (refine Bny.E_off rfl ?_; simp only [Act.put, sia, scs, scz])
             | ((with_reducible refine Bny.gE 23 ?_); refine Bny.eC 1001 (.slice ya1 yn1 yk1) Try.underlying23 ?_ (hc := rowP_g0 (rowT_size _ _ _ _)); simp only [Act.put, sia, scs, scz])
             | ((with_reducible refine Bny.at_eappQ (t := 23) ?_); refine Bny.E_appQ rfl rfl rfl rfl rfl HGX.out rfl (Or.inl HGM.out) (.int .u8 0) 1 Try.underlying23 infoBz rfl (by decide) ⟨_, (Nat.mul_one _).symm⟩ (cellsB_one _) (bdQ HBG.out).1 (bdQ HBG.out).2 ?_; intro v9 sl9 hq9; obtain ⟨o9, n9, k9, rfl, hn9⟩ := hq9.own.slice; clear hn9; have HQ9 := Lib.hid hq9; clear hq9; simp only [Act.put, sia, scs, scz])
             | ((with_reducible refine Bny.at_estore (T := 31) ?_); refine Bny.E_putp (T := 31) (off := 0) rfl rfl rfl rfl rfl rfl 19 infoT19 rfl (by rw [rowP_size (rowT_size _ _ _ _) (rowT_size _ _ _ _)]; decide) (rowT_one _ _ _ _ _ _ _ _ _ _) (rowP_s0 (rowT_size _ _ _ _) (rowT_size _ _ _ _) (rowT_size _ _ _ _)) ?_; simp only [Act.put, sia, scs, scz])
             | ((with_reducible refine Bny.at_estore (T := 23) ?_); refine Bny.eP 21 (rowP_set21 (rowT_size _ _ _ _) (rowT_size _ _ _ _)) (Nat.lt_of_lt_of_eq (by decide : 21 < 44) (rowP_size (rowT_size _ _ _ _) (rowT_size _ _ _ _)).symm) (by kernel_rfl) ?_; simp only [Act.put, sia, scs, scz])
             | (apply Bny.E_pureq rfl rfl rfl
                case h => intro K hK; go_big_quiet_op; (refine hK _ ?_; rfl)
                case hr => exact fun _ => rfl
                simp only [Act.put, sia, scs, scz])
             | (apply Bny.E_val rfl rfl rfl rfl
                case h =>
                  intro E' hA K hK
                  first
                    | ((with_reducible refine Bny.at_qload (T := 31) ?_); refine Bny.q_ldv 1000 hA (by decide) rfl rfl 19 _ Try.underlying31 rfl infoT19 (by decide) rfl ?_; refine hK _ ?_; rfl)
                    | (go_big_quiet_op; first
                      | (refine hK _ ?_; rfl)
                      | (refine ⟨_, fun _ _ => rfl, ?_⟩; refine hK _ ?_; rfl)
                      | (apply Exists.intro; refine ⟨fun w1 hw1 => ?_, ?_⟩; · (first
                          | fail)
                         refine hK _ ?_; rfl))
                case hD => rfl
                simp only [Act.put, sia, scs, scz]))
           try any_goals exact undef
           refine Bny.E_nil ?_
           intro w9 hE9
           have hv : Mem w w9 (((b_9, (rowP (rowT (Tp.read 300 c3.t).1.t (.slice da4 dn4 dk4) (.slice ba4 bn4 bk4) (.slice pa4 pn4 pk4)) (.slice xa7 n7 xk7) 0 (.slice o9 n9 k9) (rowT tb (.slice da2 dn2 dk2) (.slice ba2 bn2 bk2) (.slice pa2 pn2 pk2)) (.slice xa2 n2 xk2) lb (.slice ya2 yn2 yk2))) :: (s7.rows ++ (s2.rows ++ (sl9.rows ++ (t2.rows ++ []))))) ++ []) R4 := hE9.mem0 [1001, 1002, 1003, 1004, 1005] (by decide)
           clear hE9
           simp only [List.cons_append, List.nil_append, List.append_nil] at hv
           have HO34 := Lib.hid (HO3.out.mono HS4.out)
           have HQO4 := Lib.hid ((HQO.out.mono HS3.out).mono HS4.out)
           have HB31 : Hid (([] : List G).length + c3.out.length ≤ 100000) := Lib.hid (by
             rw [HE1.out]; decide)
           have HB32 : Hid ((([] : List G) ++ c3.out).length + (Tp.read 300 c3.t).1.out.length ≤ 100000) := Lib.hid (by
             rw [HE1.out, HE2.out]; decide)
           go_wp2_with (first
             | ((with_reducible refine gLd 32 ?_); refine ldC hv b_9 41 (.slice xa2 n2 xk2) Try.underlying32 ?_ (hc := rowP_i1 (rowT_size _ _ _ _) (rowT_size _ _ _ _)))
             | ((with_reducible refine at_append (t := 32) (dst := some 203) ?_); refine wl_appG rfl rfl rfl HQO4.out hv.q3 Try.underlying32 infoGz HO34.out HB31.out ?_; intro xa5 n5 xk5 w5 s5 hn5 hq5 hv5; clear hv; have hv := hv5; clear hv5; simp only [List.append_assoc, List.cons_append, List.nil_append] at hv; have HQ5 := Lib.hid hq5; clear hq5 hn5)
             | ((with_reducible refine at_append (t := 32) (dst := some 205) ?_); refine wl_appG rfl rfl rfl HQ5.out hv.q3 Try.underlying32 infoGz HO4.out HB32.out ?_; intro xa6 n6 xk6 w6 s6 hn6 hq6 hv6; clear hv; have hv := hv6; clear hv6; simp only [List.append_assoc, List.cons_append, List.nil_append] at hv; have HQ6 := Lib.hid hq6; clear hq6 hn6)
             | ((with_reducible refine gSt 32 ?_); refine stC hv b_9 41 (.slice xa6 n6 xk6) ?_ (hs := ⟨SetM.z, rowP_set41 (rowT_size _ _ _ _) (rowT_size _ _ _ _)⟩) (h0 := by rw [rowP_size (rowT_size _ _ _ _) (rowT_size _ _ _ _)]; decide); clear hv; intro w2 hv))
           refine ⟨?_, ?measure⟩
           repeat apply Exists.intro
           refine ⟨?rel, rfl⟩
           case rel =>
             refine ⟨k + 1, now, u', p, tr', 0, lb, (Tp.read 300 c3.t).1.t, tb, r, [], got, R4, rfl, rfl, ⟨da4, dn4, dk4, ba4, bn4, bk4, pa4, pn4, pk4, l4, da2, dn2, dk2, ba2, bn2, bk2, pa2, pn2, pk2, l2, _, _, _, _, s7, s6, sl9, t2, hv, HI4.out, (HI2.out.mono HS3.out).mono HS4.out, (HQ7.out.mono HS3.out).mono HS4.out, (by have h := HQ6.out; rw [HE1.out, HE2.out] at h; exact h), (by have h := HQ9.out; rw [HE3.out] at h; exact h), HG2.out⟩, HK', Lib.hid (by have h1 := HM.out; have h2 := HM'.out; omega), Lib.hid (fun x hx => HS4.out x (HS3.out x (HS.out x hx)))⟩
           case measure =>
           have h1 := HM.out
           unfold AkM at h1
           simp only [List.length_cons] at h1
           show (20000 - ((k : Int) + 1).toNat) + (200000 - ((now : Nat) : Int).toNat) < (20000 - ((k : Nat) : Int).toNat) + (200000 - ((now : Nat) : Int).toNat)
           omega
     · obtain ⟨xa1, n1, xk1, rfl, hn1⟩ := hQ1.slice'
       obtain ⟨xb, xo, xk, sa, sn, sk, gr, e, hqs, hgd, hga, hgr⟩ := hQ2.head hv.q3
       subst e
       obtain ⟨n2, hn2⟩ : ∃ n, r.length + 1 = n := ⟨_, rfl⟩
       rw [hn2] at hv hqs hQ2
       have y2 : decide ((0 : Int) < (n2 : Int)) = true := decide_eq_true (by omega)
       have z2 : decide (0 < n2) = true := decide_eq_true (by omega)
       have y3 : ((n2 : Int) == 0) = false := by rw [beq_eq_false_iff_ne]; omega
       have hix : (0 : Int) < (n2 : Int) := by omega
       have hiy : 0 < n2 := by omega
       have HN1 : Hid (1 ≤ n2) := Lib.hid hiy
       have HXV : Hid (((cellsG ((g, Value.slice sa sn sk) :: gr)).drop 0).take 7 = (#[.int .i64 g.src, .int .i64 g.dst, .int .u32 g.seq, .int .u32 g.ack, .int .i64 g.fl, .int .i64 g.wnd, .slice sa sn sk] : Array Value).toList) := Lib.hid rfl
       have hk20 : k ≤ 20000 := by have := HM.out; omega
       have q7 : IntKind.i64.wrap ((k : Int) + 1) = ((k + 1 : Nat) : Int) := by rw [IntWalk.i64_in _ (by omega)]; omega
       have hls := HS.out _ HLM.out
       obtain ⟨l3, hl3⟩ : ∃ n : Nat, lb + 1 = n := ⟨_, rfl⟩
       have hlq : lb ≤ 2 := HK.out.flb
       have q8 : IntKind.i64.wrap ((lb : Int) + 1) = (l3 : Int) := by rw [IntWalk.i64_in _ (by omega)]; omega
       have HQS := Lib.hid hqs
       have HGD := Lib.hid hgd
       have HGA := Lib.hid hga
       have HGR := Lib.hid hgr
       have HQX := Lib.hid hQ2
       have HQO := Lib.hid hQ1
       have HG1 := Lib.hid hG1
       have HG2 := Lib.hid hG2
       have HL3 := Lib.hid hl3
       have HNY := Lib.hid hn1
       clear hqs hgd hga hgr hQ2 hQ1 hG1 hG2 hl3 hmo hup hpn hn1 hn2
       have hcase := lose4 hv hls (k := k) (lq := lb)
       rcases hcase with ⟨lb9, lo9, rfl, hkl, hx, hl2⟩ | hkl | ⟨lb9, lo9, rfl, hkl, hx⟩ | ⟨lb9, lo9, rfl, hkl, hx, hl2⟩
       · as_aux_lemma =>
         have y8 : decide ((lb : Int) < 2) = true := decide_eq_true (by omega)
         have z8 : decide (lb < 2) = true := decide_eq_true (by omega)
         have y6 : decide ((k : Int) < (ln : Int)) = true := decide_eq_true (by omega)
         have z6 : decide (k < ln) = true := decide_eq_true hkl
         have hkn : (k : Int) < (ln : Int) := by omega
         have HLS := Lib.hid hls
         have HXL := Lib.hid hx
         have HL2 : Hid (lb < 2) := Lib.hid hl2
         clear hls hl2 hlq hx
         go_wp2_with (first
           | ((with_reducible refine gLd 22 ?_); refine ldC hv b_9 5 (.int .u32 ta.una) Try.underlying22 ?_ (hc := (rowP_a (rowT_size _ _ _ _) (by decide)).trans rfl))
           | ((with_reducible refine gLd 22 ?_); refine ldC hv b_9 6 (.int .u32 ta.nx) Try.underlying22 ?_ (hc := (rowP_a (rowT_size _ _ _ _) (by decide)).trans rfl))
           | ((with_reducible refine gLd 32 ?_); refine ldC hv b_9 41 (.slice (some ⟨xb, xo, none⟩) n2 xk) Try.underlying32 ?_ (hc := rowP_i1 (rowT_size _ _ _ _) (rowT_size _ _ _ _)))
           | ((with_reducible refine gLd 32 ?_); refine ldC hv b_9 19 (.slice xa1 n1 xk1) Try.underlying32 ?_ (hc := rowP_i0 (rowT_size _ _ _ _)))
           | ((with_reducible refine at_load (T := 42) ?_); refine wl_rdv rfl (kk := 7) (b := xb) (o := xo) (n := n2) (cap := xk) (c := cellsG ((g, Value.slice sa sn sk) :: gr)) (HQS.out.own.rd hv.q3) 0 rfl 7 _ Try.underlying42 rfl infoG7 (by decide) #[.int .i64 g.src, .int .i64 g.dst, .int .u32 g.seq, .int .u32 g.ack, .int .i64 g.fl, .int .i64 g.wnd, .slice sa sn sk] HXV.out rfl ?_)
           | ((with_reducible refine gAl 42 20 ?_); refine nwB hv #[.int .i64 0, .int .i64 0, .int .u32 0, .int .u32 0, .int .i64 0, .int .i64 0, .slice none 0 0] 42 ?_; clear hv; intro b_20 w2 hv)
           | ((with_reducible refine gSt 42 ?_); refine stV hv b_20 7 infoG7 ?_; clear hv; intro w2 hv)
           | ((with_reducible refine at_slice (T := 32) ?_); refine wl_tailG rfl rfl rfl HQX.out hv.q4 Try.underlying32 infoG7 ?_; intro xa7 n7 xk7 s7 hn7 hq7 hv7; clear hv; have hv := hv7; clear hv7; simp only [List.append_assoc, List.cons_append, List.nil_append] at hv; have HN7 := Lib.hid hn7; have HQ7 := Lib.hid hq7; clear hn7 hq7)
           | ((with_reducible refine gSt 32 ?_); refine stC hv b_9 41 (.slice xa7 n7 xk7) ?_ (hs := ⟨(SetM.s SetM.z), rowP_set41 (rowT_size _ _ _ _) (rowT_size _ _ _ _)⟩) (h0 := by rw [rowP_size (rowT_size _ _ _ _) (rowT_size _ _ _ _)]; decide); clear hv; intro w2 hv)
           | ((with_reducible refine at_load (T := 4) ?_); refine wl_rd rfl (c := bl.map Value.bool) (hv.rd HLS.out) k rfl _ Try.underlying4 rfl (.bool true) HXL.out ?_)
           | ((with_reducible refine gLd 3 ?_); refine ldC hv b_9 42 (.int .i64 lb) Try.underlying3 ?_ (hc := rowP_l1 (rowT_size _ _ _ _) (rowT_size _ _ _ _)))
           | ((with_reducible refine gSt 3 ?_); refine stC hv b_9 42 (.int .i64 l3) ?_ (hs := ⟨(SetM.s SetM.z), rowP_set42 (rowT_size _ _ _ _) (rowT_size _ _ _ _)⟩) (h0 := by rw [rowP_size (rowT_size _ _ _ _) (rowT_size _ _ _ _)]; decide); clear hv; intro w2 hv))
         refine ⟨?_, ?measure⟩
         repeat apply Exists.intro
         refine ⟨?rel, rfl⟩
         case rel =>
           refine ⟨k + 1, now, u, p, tr, la, l3, ta, tb, qa, r, got, R1, rfl, rfl, ⟨da1, dn1, dk1, ba1, bn1, bk1, pa1, pn1, pk1, l1, da2, dn2, dk2, ba2, bn2, bk2, pa2, pn2, pk2, l2, _, _, _, _, s1, s7, t1, t2, hv.drop, HI1.out, HI2.out, HQO.out, HQ7.out, HG1.out, HG2.out⟩, Lib.hid (by rw [← HL3.out]; exact HK.out.loseB HL2.out), Lib.hid (by have h1 := HM.out; unfold AkM at h1 ⊢; simp only [List.length_cons] at h1; omega), HS⟩
         case measure =>
           have h1 := HM.out
           unfold AkM at h1
           simp only [List.length_cons] at h1
           show (20000 - ((k : Int) + 1).toNat) + (200000 - ((now : Nat) : Int).toNat) < (20000 - ((k : Nat) : Int).toNat) + (200000 - ((now : Nat) : Int).toNat)
           omega
       all_goals first
         | (have y6 : decide ((k : Int) < (ln : Int)) = true := decide_eq_true (Int.ofNat_lt.2 hkl))
         | (have y6 : decide ((k : Int) < (ln : Int)) = false := decide_eq_false (fun h => hkl (Int.ofNat_lt.1 h)))
       all_goals first
         | (have z6 : decide (k < ln) = true := decide_eq_true hkl)
         | (have z6 : decide (k < ln) = false := decide_eq_false hkl)
       all_goals try (have hkn := Int.ofNat_lt.2 hkl)
       all_goals first
         | (have HXL := Lib.hid hx)
         | (have HXL := Lib.hid True.intro)
       all_goals try (have y8 : decide ((lb : Int) < 2) = false := decide_eq_false (fun h => hl2 (by exact_mod_cast h)))
       all_goals try (have z8 : decide (lb < 2) = false := decide_eq_false hl2)
       all_goals try (clear hx)
       all_goals try (clear hl2)
       all_goals
         as_aux_lemma =>
         have HLS := Lib.hid hls
         clear hls hlq
         go_wp2_with (first
           | ((with_reducible refine gLd 22 ?_); refine ldC hv b_9 5 (.int .u32 ta.una) Try.underlying22 ?_ (hc := (rowP_a (rowT_size _ _ _ _) (by decide)).trans rfl))
           | ((with_reducible refine gLd 22 ?_); refine ldC hv b_9 6 (.int .u32 ta.nx) Try.underlying22 ?_ (hc := (rowP_a (rowT_size _ _ _ _) (by decide)).trans rfl))
           | ((with_reducible refine gLd 32 ?_); refine ldC hv b_9 41 (.slice (some ⟨xb, xo, none⟩) n2 xk) Try.underlying32 ?_ (hc := rowP_i1 (rowT_size _ _ _ _) (rowT_size _ _ _ _)))
           | ((with_reducible refine gLd 32 ?_); refine ldC hv b_9 19 (.slice xa1 n1 xk1) Try.underlying32 ?_ (hc := rowP_i0 (rowT_size _ _ _ _)))
           | ((with_reducible refine at_load (T := 42) ?_); refine wl_rdv rfl (kk := 7) (b := xb) (o := xo) (n := n2) (cap := xk) (c := cellsG ((g, Value.slice sa sn sk) :: gr)) (HQS.out.own.rd hv.q3) 0 rfl 7 _ Try.underlying42 rfl infoG7 (by decide) #[.int .i64 g.src, .int .i64 g.dst, .int .u32 g.seq, .int .u32 g.ack, .int .i64 g.fl, .int .i64 g.wnd, .slice sa sn sk] HXV.out rfl ?_)
           | ((with_reducible refine gAl 42 20 ?_); refine nwB hv #[.int .i64 0, .int .i64 0, .int .u32 0, .int .u32 0, .int .i64 0, .int .i64 0, .slice none 0 0] 42 ?_; clear hv; intro b_20 w2 hv)
           | ((with_reducible refine gSt 42 ?_); refine stV hv b_20 7 infoG7 ?_; clear hv; intro w2 hv)
           | ((with_reducible refine at_slice (T := 32) ?_); refine wl_tailG rfl rfl rfl HQX.out hv.q4 Try.underlying32 infoG7 ?_; intro xa7 n7 xk7 s7 hn7 hq7 hv7; clear hv; have hv := hv7; clear hv7; simp only [List.append_assoc, List.cons_append, List.nil_append] at hv; have HN7 := Lib.hid hn7; have HQ7 := Lib.hid hq7; clear hn7 hq7)
           | ((with_reducible refine gSt 32 ?_); refine stC hv b_9 41 (.slice xa7 n7 xk7) ?_ (hs := ⟨(SetM.s SetM.z), rowP_set41 (rowT_size _ _ _ _) (rowT_size _ _ _ _)⟩) (h0 := by rw [rowP_size (rowT_size _ _ _ _) (rowT_size _ _ _ _)]; decide); clear hv; intro w2 hv)
           | ((with_reducible refine at_load (T := 4) ?_); refine wl_rd rfl (c := bl.map Value.bool) (hv.rd HLS.out) k rfl _ Try.underlying4 rfl (.bool true) HXL.out ?_)
           | ((with_reducible refine at_load (T := 4) ?_); refine wl_rd rfl (c := bl.map Value.bool) (hv.rd HLS.out) k rfl _ Try.underlying4 rfl (.bool false) HXL.out ?_)
           | ((with_reducible refine gLd 3 ?_); refine ldC hv b_9 42 (.int .i64 lb) Try.underlying3 ?_ (hc := rowP_l1 (rowT_size _ _ _ _) (rowT_size _ _ _ _)))
           | ((with_reducible refine gSt 3 ?_); refine stC hv b_9 42 (.int .i64 ((0 : Nat) : Int)) ?_ (hs := ⟨(SetM.s SetM.z), rowP_set42 (rowT_size _ _ _ _) (rowT_size _ _ _ _)⟩) (h0 := by rw [rowP_size (rowT_size _ _ _ _) (rowT_size _ _ _ _)]; decide); clear hv; intro w2 hv))
         have hseg : InG R1 g sa sn sk := by
           have hg := HK.out.fqb g (List.mem_cons_self ..)
           exact InG.A HGD.out hg
         have HGG := Lib.hid hseg
         have HCK := Lib.hid (HK.out.chkB)
         have HSC : Hid (∃ v R', TkQ R1 now g tb v R') := Lib.hid (Bny.some_of (Take_Q hv (fun x hx => hx) HI2.out HCK.out (nw := now) HGG.out))
         have HR1 := Lib.hid HQO.out.reads
         have HR2 := Lib.hid HQ7.out.reads
         have HR3 := Lib.hid HG1.out.reads
         have HR4 := Lib.hid HG2.out.reads
         clear hseg
         have hv0 := Mem.cast hv (show _ = (([.row b_20 #[.int .i64 g.src, .int .i64 g.dst, .int .u32 g.seq, .int .u32 g.ack, .int .i64 g.fl, .int .i64 g.wnd, .slice sa sn sk], .row b_9 (rowP (rowT ta (.slice da1 dn1 dk1) (.slice ba1 bn1 bk1) (.slice pa1 pn1 pk1)) (.slice xa1 n1 xk1) la (.slice ya1 yn1 yk1) (rowT tb (.slice da2 dn2 dk2) (.slice ba2 bn2 bk2) (.slice pa2 pn2 pk2)) (.slice xa7 n7 xk7) 0 (.slice ya2 yn2 yk2)), s1, s7, t1, t2] : List Bny.Slot).flatMap Bny.Slot.rows ++ []) from by simp [Bny.Slot.rows])
         clear hv
         try simp only [Act.put]
         refine Bny.wp_region_walkS [.row b_20 #[.int .i64 g.src, .int .i64 g.dst, .int .u32 g.seq, .int .u32 g.ack, .int .i64 g.fl, .int .i64 g.wnd, .slice sa sn sk], .row b_9 (rowP (rowT ta (.slice da1 dn1 dk1) (.slice ba1 bn1 bk1) (.slice pa1 pn1 pk1)) (.slice xa1 n1 xk1) la (.slice ya1 yn1 yk1) (rowT tb (.slice da2 dn2 dk2) (.slice ba2 bn2 bk2) (.slice pa2 pn2 pk2)) (.slice xa7 n7 xk7) 0 (.slice ya2 yn2 yk2)), s1, s7, t1, t2] [] [⟨[], none⟩, ⟨[], none⟩, ⟨[], none⟩, ⟨[1001], none⟩, ⟨[1000], none⟩, ⟨[], none⟩, ⟨[], some 6⟩, ⟨[], none⟩, ⟨[], none⟩, ⟨[], none⟩, ⟨[], some 10⟩, ⟨[10], some 10⟩] [.val, .val, .val, .val, .val, .val, .mem (TkQ R1 now g tb), .pure, .pure, .pure, .lay #[.int .i64 0, .int .i64 0, .int .u32 0, .int .i64 0, .int .u32 0, .int .u32 0, .int .u32 0, .slice none 0 0, .int .i64 0, .bool false, .bool false, .int .u32 0, .slice none 0 0, .slice none 0 0, .bool false, .int .u64 0, .int .i64 0, .int .i64 0, .int .i64 0], .put, .pure] (by kernel_rfl) (by kernel_rfl) hv0 (by exact slots6 HR1.out HR2.out HR3.out HR4.out) ?_
         clear hv0
         simp only [List.length_cons, List.length_nil, Nat.zero_add, Any.someVals]
         iterate 13 apply Exists.intro
         repeat (first
           | (refine Bny.E_off rfl ?_; simp only [Act.put, sia, scs, scz])
           | ((with_reducible refine Bny.at_ealloc ?_); refine Bny.E_lay (t := 31) rfl rfl rfl (fun _ => rfl) ?_; intro b_22; simp only [Act.put, sia, scs, scz])
           | ((with_reducible refine Bny.gE 31 ?_); refine Bny.eX 1001 22 19 (rowT tb (.slice da2 dn2 dk2) (.slice ba2 bn2 bk2) (.slice pa2 pn2 pk2)) Try.underlying31 infoT19 (rowP_t1 (rowT_size _ _ _ _) (rowT_size _ _ _ _)) (Nat.le_trans (by decide : 22 + 19 ≤ 44) (Nat.le_of_eq (rowP_size (rowT_size _ _ _ _) (rowT_size _ _ _ _)).symm)) ?_; simp only [Act.put, sia, scs, scz])
           | ((with_reducible refine Bny.at_estore (T := 31) ?_); refine Bny.E_putv (T := 31) rfl rfl rfl rfl rfl rfl 19 infoT19 rfl rfl (rowT_one _ _ _ _ _ _ _ _ _ _) ?_; simp only [Act.put, sia, scs, scz])
           | ((with_reducible refine Bny.at_ecallf (f := 13) ?_); refine Bny.E_callmem rfl rfl rfl (Go.Proofs.enters_of Try.func13 (by kernel_rfl) rfl) rfl [.agg (rowT tb (.slice da2 dn2 dk2) (.slice ba2 bn2 bk2) (.slice pa2 pn2 pk2)), .agg #[.int .i64 g.src, .int .i64 g.dst, .int .u32 g.seq, .int .u32 g.ack, .int .i64 g.fl, .int .i64 g.wnd, .slice sa sn sk], .int .u64 now] rfl HSC.out R1 (fun x hx => .inl hx) (fun w0 w L R' hm hs => by have h := Take_Q hm hs HI2.out HCK.out (nw := now) HGG.out; exact h) ?_; rintro v R3 ⟨c3, da3, dn3, dk3, ba3, bn3, bk3, pa3, pn3, pk3, l3', ov3, he, ht3, hi3, ho3, hs3⟩; obtain rfl : v = .tuple #[.agg (rowT c3.t (.slice da3 dn3 dk3) (.slice ba3 bn3 bk3) (.slice pa3 pn3 pk3)), ov3] := he; have HT3 := Lib.hid ht3; have HI3 := Lib.hid hi3; have HO3 := Lib.hid ho3; have HS3 := Lib.hid hs3; clear ht3 hi3 ho3 hs3; simp only [Act.put, sia, scs, scz])
           | (apply Bny.E_pureq rfl rfl rfl
              case h => intro K hK; go_big_quiet_op; (refine hK _ ?_; rfl)
              case hr => exact fun _ => rfl
              simp only [Act.put, sia, scs, scz])
           | (apply Bny.E_val rfl rfl rfl rfl
              case h =>
                intro E' hA K hK
                first
                  | ((with_reducible refine Bny.at_qload (T := 42) ?_); refine Bny.q_ldv 1000 hA (by decide) rfl rfl 7 _ Try.underlying42 rfl infoG7 (by decide) rfl ?_; refine hK _ ?_; rfl)
                  | (go_big_quiet_op; first
                    | (refine hK _ ?_; rfl)
                    | (refine ⟨_, fun _ _ => rfl, ?_⟩; refine hK _ ?_; rfl)
                    | (apply Exists.intro; refine ⟨fun w1 hw1 => ?_, ?_⟩; · (first
                        | fail)
                       refine hK _ ?_; rfl))
              case hD => rfl
              simp only [Act.put, sia, scs, scz]))
         try any_goals exact undef
         refine Bny.E_nil ?_
         intro w9 hE9
         have hv : Mem w w9 (((b_22, (rowT c3.t (.slice da3 dn3 dk3) (.slice ba3 bn3 bk3) (.slice pa3 pn3 pk3))) :: (b_9, (rowP (rowT ta (.slice da1 dn1 dk1) (.slice ba1 bn1 bk1) (.slice pa1 pn1 pk1)) (.slice xa1 n1 xk1) la (.slice ya1 yn1 yk1) (rowT tb (.slice da2 dn2 dk2) (.slice ba2 bn2 bk2) (.slice pa2 pn2 pk2)) (.slice xa7 n7 xk7) 0 (.slice ya2 yn2 yk2))) :: (s1.rows ++ (s7.rows ++ (t1.rows ++ (t2.rows ++ []))))) ++ []) R3 := hE9.mem1 [10, 1001, 1002, 1003, 1004, 1005] (by decide) 6 rfl
         clear hE9
         simp only [List.cons_append, List.nil_append, List.append_nil] at hv
         have HCK3 := Lib.hid (take_kept HCK.out HT3.out).chk
         obtain ⟨p', hk', hl'⟩ := HK.out.takeB hall HT3.out
         have HK' := Lib.hid hk'
         have HL' := Lib.hid hl'
         
         
         
         clear hk' hl'
         go_wp2_with (first
           | ((with_reducible refine gLd 31 ?_); refine ldV hv b_22 19 Try.underlying31 infoT19 ?_)
           | (go_at_call 14; (refine (Read_Q hv HI3.out HCK3.out (n := 300)).mono ?_); rintro e w1 ⟨R4, da4, dn4, dk4, ba4, bn4, bk4, pa4, pn4, pk4, l4, ga, gn, gk, ov4, rfl, hm, hs4, hi4, ho4, hg4⟩; clear hv; have hv := hm; clear hm; have HS4 := Lib.hid hs4; have HI4 := Lib.hid hi4; have HO4 := Lib.hid ho4; have HGM := Lib.hid hg4; clear hs4 hi4 ho4 hg4)
           | ((with_reducible refine gSt 31 ?_); refine stV hv b_22 19 infoT19 ?_ (h1 := (rowT_one _ _ _ _ _ _ _ _ _ _)); clear hv; intro w2 hv))
         have HBG : Hid (got.length + (Tp.read 300 c3.t).2.length ≤ 2000) := Lib.hid (by
           have h1 := congrArg List.length HK'.out.got
           rw [List.length_append, List.length_take] at h1
           omega)
         have HGX := Lib.hid HG2.out
         have hv0 := Mem.cast hv (show _ = (([.row b_22 (rowT (Tp.read 300 c3.t).1.t (.slice da4 dn4 dk4) (.slice ba4 bn4 bk4) (.slice pa4 pn4 pk4)), .row b_9 (rowP (rowT ta (.slice da1 dn1 dk1) (.slice ba1 bn1 bk1) (.slice pa1 pn1 pk1)) (.slice xa1 n1 xk1) la (.slice ya1 yn1 yk1) (rowT tb (.slice da2 dn2 dk2) (.slice ba2 bn2 bk2) (.slice pa2 pn2 pk2)) (.slice xa7 n7 xk7) 0 (.slice ya2 yn2 yk2)), s1, s7, t1, t2] : List Bny.Slot).flatMap Bny.Slot.rows ++ []) from by simp [Bny.Slot.rows])
         clear hv
         try simp only [Act.put]
         refine Bny.wp_region_walkS [.row b_22 (rowT (Tp.read 300 c3.t).1.t (.slice da4 dn4 dk4) (.slice ba4 bn4 bk4) (.slice pa4 pn4 pk4)), .row b_9 (rowP (rowT ta (.slice da1 dn1 dk1) (.slice ba1 bn1 bk1) (.slice pa1 pn1 pk1)) (.slice xa1 n1 xk1) la (.slice ya1 yn1 yk1) (rowT tb (.slice da2 dn2 dk2) (.slice ba2 bn2 bk2) (.slice pa2 pn2 pk2)) (.slice xa7 n7 xk7) 0 (.slice ya2 yn2 yk2)), s1, s7, t1, t2] [] [⟨[], none⟩, ⟨[], none⟩, ⟨[1000], none⟩, ⟨[], none⟩, ⟨[], none⟩, ⟨[], none⟩, ⟨[1001], none⟩, ⟨[], none⟩, ⟨[], some 1005⟩, ⟨[], none⟩, ⟨[], none⟩, ⟨[1001], some 1001⟩, ⟨[], none⟩, ⟨[], none⟩, ⟨[1001], some 1001⟩] [.val, .val, .val, .val, .val, .val, .val, .val, .slot (Bny.QS 1 (cellsB got ++ cellsB (Tp.read 300 c3.t).2)), .val, .val, .put, .val, .val, .put] (by kernel_rfl) (by kernel_rfl) hv0 (by exact slots6 HR1.out HR2.out HR3.out HR4.out) ?_
         clear hv0
         simp only [List.length_cons, List.length_nil, Nat.zero_add, Any.someVals]
         iterate 15 apply Exists.intro
         repeat (first
           | (refine Bny.E_off rfl ?_; simp only [Act.put, sia, scs, scz])
           | ((with_reducible refine Bny.gE 23 ?_); refine Bny.eC 1001 (.slice ya2 yn2 yk2) Try.underlying23 ?_ (hc := rowP_g1 (rowT_size _ _ _ _) (rowT_size _ _ _ _)); simp only [Act.put, sia, scs, scz])
           | ((with_reducible refine Bny.at_eappQ (t := 23) ?_); refine Bny.E_appQ rfl rfl rfl rfl rfl HGX.out rfl (Or.inl HGM.out) (.int .u8 0) 1 Try.underlying23 infoBz rfl (by decide) ⟨_, (Nat.mul_one _).symm⟩ (cellsB_one _) (bdQ HBG.out).1 (bdQ HBG.out).2 ?_; intro v9 sl9 hq9; obtain ⟨o9, n9, k9, rfl, hn9⟩ := hq9.own.slice; clear hn9; have HQ9 := Lib.hid hq9; clear hq9; simp only [Act.put, sia, scs, scz])
           | ((with_reducible refine Bny.at_estore (T := 31) ?_); refine Bny.E_putp (T := 31) (off := 22) rfl rfl rfl rfl rfl rfl 19 infoT19 rfl (by rw [rowP_size (rowT_size _ _ _ _) (rowT_size _ _ _ _)]; decide) (rowT_one _ _ _ _ _ _ _ _ _ _) (rowP_s1 (rowT_size _ _ _ _) (rowT_size _ _ _ _) (rowT_size _ _ _ _)) ?_; simp only [Act.put, sia, scs, scz])
           | ((with_reducible refine Bny.at_estore (T := 23) ?_); refine Bny.eP 43 (rowP_set43 (rowT_size _ _ _ _) (rowT_size _ _ _ _)) (Nat.lt_of_lt_of_eq (by decide : 43 < 44) (rowP_size (rowT_size _ _ _ _) (rowT_size _ _ _ _)).symm) (by kernel_rfl) ?_; simp only [Act.put, sia, scs, scz])
           | (apply Bny.E_pureq rfl rfl rfl
              case h => intro K hK; go_big_quiet_op; (refine hK _ ?_; rfl)
              case hr => exact fun _ => rfl
              simp only [Act.put, sia, scs, scz])
           | (apply Bny.E_val rfl rfl rfl rfl
              case h =>
                intro E' hA K hK
                first
                  | ((with_reducible refine Bny.at_qload (T := 31) ?_); refine Bny.q_ldv 1000 hA (by decide) rfl rfl 19 _ Try.underlying31 rfl infoT19 (by decide) rfl ?_; refine hK _ ?_; rfl)
                  | (go_big_quiet_op; first
                    | (refine hK _ ?_; rfl)
                    | (refine ⟨_, fun _ _ => rfl, ?_⟩; refine hK _ ?_; rfl)
                    | (apply Exists.intro; refine ⟨fun w1 hw1 => ?_, ?_⟩; · (first
                        | fail)
                       refine hK _ ?_; rfl))
              case hD => rfl
              simp only [Act.put, sia, scs, scz]))
         try any_goals exact undef
         refine Bny.E_nil ?_
         intro w9 hE9
         have hv : Mem w w9 (((b_9, (rowP (rowT ta (.slice da1 dn1 dk1) (.slice ba1 bn1 bk1) (.slice pa1 pn1 pk1)) (.slice xa1 n1 xk1) la (.slice ya1 yn1 yk1) (rowT (Tp.read 300 c3.t).1.t (.slice da4 dn4 dk4) (.slice ba4 bn4 bk4) (.slice pa4 pn4 pk4)) (.slice xa7 n7 xk7) 0 (.slice o9 n9 k9))) :: (s1.rows ++ (s7.rows ++ (t1.rows ++ (sl9.rows ++ []))))) ++ []) R4 := hE9.mem0 [1001, 1002, 1003, 1004, 1005] (by decide)
         clear hE9
         simp only [List.cons_append, List.nil_append, List.append_nil] at hv
         have HO34 := Lib.hid (HO3.out.mono HS4.out)
         have HQO4 := Lib.hid ((HQO.out.mono HS3.out).mono HS4.out)
         have HB31 : Hid (qa.length + c3.out.length ≤ 100000) := Lib.hid (by
           have h1 := HM.out; unfold AkM at h1; have h2 := HL'.out; rw [List.length_append] at h2; omega)
         have HB32 : Hid ((qa ++ c3.out).length + (Tp.read 300 c3.t).1.out.length ≤ 100000) := Lib.hid (by
           have h1 := HM.out; unfold AkM at h1; have h2 := HL'.out; rw [List.length_append] at h2 ⊢; omega)
         go_wp2_with (first
           | ((with_reducible refine gLd 32 ?_); refine ldC hv b_9 19 (.slice xa1 n1 xk1) Try.underlying32 ?_ (hc := rowP_i0 (rowT_size _ _ _ _)))
           | ((with_reducible refine at_append (t := 32) (dst := some 203) ?_); refine wl_appG rfl rfl rfl HQO4.out hv.q1 Try.underlying32 infoGz HO34.out HB31.out ?_; intro xa5 n5 xk5 w5 s5 hn5 hq5 hv5; clear hv; have hv := hv5; clear hv5; simp only [List.append_assoc, List.cons_append, List.nil_append] at hv; have HQ5 := Lib.hid hq5; clear hq5 hn5)
           | ((with_reducible refine at_append (t := 32) (dst := some 205) ?_); refine wl_appG rfl rfl rfl HQ5.out hv.q1 Try.underlying32 infoGz HO4.out HB32.out ?_; intro xa6 n6 xk6 w6 s6 hn6 hq6 hv6; clear hv; have hv := hv6; clear hv6; simp only [List.append_assoc, List.cons_append, List.nil_append] at hv; have HQ6 := Lib.hid hq6; clear hq6 hn6)
           | ((with_reducible refine gSt 32 ?_); refine stC hv b_9 19 (.slice xa6 n6 xk6) ?_ (hs := ⟨SetM.z, rowP_set19 (rowT_size _ _ _ _) (rowT_size _ _ _ _)⟩) (h0 := by rw [rowP_size (rowT_size _ _ _ _) (rowT_size _ _ _ _)]; decide); clear hv; intro w2 hv))
         refine ⟨?_, ?measure⟩
         repeat apply Exists.intro
         refine ⟨?rel, rfl⟩
         case rel =>
           refine ⟨k + 1, now, u, p', tr, la, 0, ta, (Tp.read 300 c3.t).1.t, qa ++ c3.out ++ (Tp.read 300 c3.t).1.out, r, got ++ (Tp.read 300 c3.t).2, R4, rfl, rfl, ⟨da1, dn1, dk1, ba1, bn1, bk1, pa1, pn1, pk1, l1, da4, dn4, dk4, ba4, bn4, bk4, pa4, pn4, pk4, l4, _, _, _, _, s6, s7, t1, sl9, hv, (HI1.out.mono HS3.out).mono HS4.out, HI4.out, HQ6.out, (HQ7.out.mono HS3.out).mono HS4.out, HG1.out, (by have h := HQ9.out; rwa [← cellsB_appQ] at h)⟩, HK', Lib.hid (by have h1 := HM.out; have h2 := HL'.out; unfold AkM at h1 ⊢; simp only [List.length_cons, List.length_append] at h1 h2 ⊢; omega), Lib.hid (fun x hx => HS4.out x (HS3.out x (HS.out x hx)))⟩
         case measure =>
         have h1 := HM.out
         unfold AkM at h1
         simp only [List.length_cons] at h1
         show (20000 - ((k : Int) + 1).toNat) + (200000 - ((now : Nat) : Int).toNat) < (20000 - ((k : Nat) : Int).toNat) + (200000 - ((now : Nat) : Int).toNat)
         omega
theorem TcpAcked_any {W : World} {av lv : Value} {data : List Nat} {bl : List Bool} (ha : Rd W 1 av (cellsB data)) (hga : goodB data) (hl : Rd W 1 lv (bl.map Value.bool)) {iss irs : Nat} (his : iss < 4294967296) (hir : irs < 4294967296) : Calls Try.prog 8 #[.int .u32 iss, .int .u32 irs, av, lv] W fun e w' => e = .returned (.bool true) ∧ New W w' := by
 obtain ⟨aa, an, ac, rfl, _⟩ := id ha
 obtain ⟨la, ln, lc, rfl, _⟩ := id hl
 obtain ⟨R, hR⟩ : ∃ R : LR, R = [(1, .slice aa an ac, cellsB data), (1, .slice la ln lc, bl.map Value.bool)] := ⟨_, rfl⟩
 have hv : Mem W W [] R := Mem.all (fun x hx => by
   subst hR
   rcases List.mem_cons.1 hx with rfl | hx
   · exact ha
   · rw [List.mem_singleton.1 hx]; exact hl)
 have h1 : (1, Value.slice aa an ac, cellsB data) ∈ R := by subst hR; exact Mem.z
 have h2 : (1, Value.slice la ln lc, bl.map Value.bool) ∈ R := by subst hR; exact Mem.s Mem.z
 by_cases h0 : 200 < an
 · exact Acked_a aa la an ac ln lc iss irs data bl W R hv h1 h2 h0
 · exact Acked_b aa la an ac ln lc iss irs data bl W R hv h1 h2 hga his hir h0
end Go.Proofs.Ythenepdbgeafkaa
