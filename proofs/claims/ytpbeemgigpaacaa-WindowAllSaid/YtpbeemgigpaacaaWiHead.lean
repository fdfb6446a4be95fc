/-
  The walk of the window laws' own head.
-/
import Derived.Test.YtpbeemgigpaacaaWiLawS
import Derived.Test.YtpbeemgigpaacaaWiTakeP
import Derived.Lib.SlBytesConst
set_option linter.unusedVariables false
set_option linter.unusedSimpArgs false
namespace Go.Proofs.Wi
open Go Go.RowKit
/-- What came, where it is known how it sorts and joins. -/
theorem took_calc0 {s : St} (h : chk s = true) {seq : Nat} {data : List Nat} {srt r0 : List Sp} (hp : srt.Perm (allL s seq data)) (hs : srt.Pairwise fun x y => x.1 ≤ y.1) (e : merge [] srt = r0) (hz : ∀ x ∈ r0, x.1 ≠ 0) {b : List Nat} {rest : List Sp} (ht : Took (gF s seq data) b rest) : b = [] ∧ rest = r0 := by
  obtain ⟨b', rest', hm, ht'⟩ := took_of_merge h hp hs
  obtain ⟨rfl, rfl⟩ := ht.unique ht'
  rcases hm with ⟨hb, e'⟩ | ⟨hb, e'⟩
  · rw [e] at e'
    exact absurd rfl (hz (0, b) (by rw [e']; simp))
  · exact ⟨hb, by rw [← e', e]⟩
theorem took_calc1 {s : St} (h : chk s = true) {seq : Nat} {data b0 : List Nat} {srt r0 : List Sp} (hp : srt.Perm (allL s seq data)) (hs : srt.Pairwise fun x y => x.1 ≤ y.1) (e : merge [] srt = (0, b0) :: r0) {b : List Nat} {rest : List Sp} (ht : Took (gF s seq data) b rest) : b = b0 ∧ rest = r0 := by
  obtain ⟨b', rest', hm, ht'⟩ := took_of_merge h hp hs
  obtain ⟨rfl, rfl⟩ := ht.unique ht'
  rcases hm with ⟨hb, e'⟩ | ⟨hb, e'⟩
  · rw [e] at e'
    cases e'
    exact ⟨rfl, rfl⟩
  · rw [e] at e'
    have := ht.sep.lo (0, b0) (by rw [← e']; simp)
    rw [hb] at this
    simp only [List.length_nil] at this
    omega
def sH0 : St := ⟨5, [], []⟩
def sHa : St := ⟨5, [], [(7, [99, 100])]⟩
def sHb : St := ⟨9, [97, 98, 99, 100], []⟩
def sHc : St := ⟨9, [100], []⟩
theorem calcA {b : List Nat} {rest : List Sp} (h : Took (gF sH0 7 [99, 100]) b rest) : b = [] ∧ outS sH0 b rest = sHa := by
  have e : allL sH0 7 [99, 100] = [(2, [99, 100])] := by decide +kernel
  obtain ⟨rfl, rfl⟩ := took_calc0 (srt := [(2, [99, 100])]) (r0 := [(2, [99, 100])]) (by decide +kernel) (by rw [e]) (by decide) (by decide +kernel) (by decide) h
  exact ⟨rfl, rfl⟩
theorem calcB {b : List Nat} {rest : List Sp} (h : Took (gF sHa 5 [97, 98, 88, 88]) b rest) : b = [97, 98, 99, 100] ∧ outS sHa b rest = sHb := by
  have e : allL sHa 5 [97, 98, 88, 88] = [(2, [99, 100]), (0, [97, 98])] := by decide +kernel
  obtain ⟨rfl, rfl⟩ := took_calc1 (srt := [(0, [97, 98]), (2, [99, 100])]) (b0 := [97, 98, 99, 100]) (r0 := []) (by decide +kernel) (by rw [e]; exact List.Perm.swap ..) (by decide) (by decide +kernel) h
  exact ⟨rfl, rfl⟩
theorem calcD {b : List Nat} {rest : List Sp} (h : Took (gF sHc 4294967290 [111, 108, 100]) b rest) : b = [] ∧ outS sHc b rest = sHc := by
  have e : allL sHc 4294967290 [111, 108, 100] = [] := by decide +kernel
  obtain ⟨rfl, rfl⟩ := took_calc0 (srt := []) (r0 := []) (by decide +kernel) (by rw [e]) (by decide) (by decide +kernel) (by decide) h
  exact ⟨rfl, rfl⟩
theorem headP {l : List PcV} (h : l.map (fun p => (p.1, p.2.2)) = [(7, [99, 100])]) : (cellsP l)[0]? = some (.int .u32 7) := by
  cases l with
  | nil => cases h
  | cons x r =>
    have h2 : x.1 = 7 := congrArg Prod.fst (List.cons.inj h).1
    simp [cellsP, encP, h2]
theorem ckH0 : chk sH0 = true := by decide +kernel
theorem ckHa : chk sHa = true := by decide +kernel
theorem ckHb : chk sHb = true := by decide +kernel
theorem ckHc : chk sHc = true := by decide +kernel
theorem rmHc : room sHc = 255 := by decide +kernel
end Go.Proofs.Wi
namespace Go
open Go.RowKit Go.Proofs.Wi
section
variable {P : Program} {ops : Array Oper} {rest : List Oper} {a : Act} {w : World} {Q : Exit → Act → World → Prop}
variable {dst : Option Tmp} {ty T T' e : TypeId} {pos : String} {after : Array Edge} {g : Option (Nat × Bool)} {x : Operand}
theorem at_conv (h : wpList P ops Q (⟨dst, .convert T T' x, ty, pos, after, g⟩ :: rest) a w) : wpList P ops Q (⟨dst, .convert T T' x, ty, pos, after, g⟩ :: rest) a w := h
/-- string(b). -/
theorem wl_str (hgd : Region.wanted (⟨dst, .convert T T' x, ty, pos, after, g⟩ : Oper) (yielded ops a.tmps) = true) {v : Value} {l : List Nat} (hx : a.eval x = v) (hs : P.underlying T = some (.slice e)) (he : P.underlying e = some (.int .u8)) (hd : P.underlying T' = some .string) (hrd : Rd w 1 v (cellsB l)) (hg : goodB l)
    {s : ByteArray} (hst : bstr l = s) (hk : wpList P ops Q rest (a.put dst (.string s)) w) : wpList P ops Q (⟨dst, .convert T T' x, ty, pos, after, g⟩ :: rest) a w := by
  subst hst
  refine wpList_want hgd fun K hK => ?_
  have h' := run_str T T' e hs he hd hrd hg
  unfold Oper.wp execOp
  simp only [hx, Sem.run_bind, h', Result.andThen_ok, Sem.run_pure]
  exact hK _ _ hk
/-- []byte("..") of a constant: read from then on. -/
theorem wl_bconv {w0 : World} {L : List (Nat × Array Value)} {R : List (Nat × Value × List Value)} {C : Array Value} {n : Nat} {bs : List Nat} (hgd : Region.wanted (⟨dst, .convert T T x, ty, pos, after, g⟩ : Oper) (yielded ops a.tmps) = true) (hv : Mem w0 w L R) (hx : a.eval x = .slice (some ⟨w.heap.size, 0, none⟩) n n)
    (ht : P.underlying T = some (.slice e)) (he : P.underlying e = some (.int .u8)) (hC : C.toList = cellsB bs) (hn : bs.length = n) (hm : n ≤ maxLen) (hk : ∀ b w', Mem w0 w' L ((1, .slice (some ⟨b, 0, none⟩) n n, cellsB bs) :: R) → wpList P ops Q rest (a.put dst (.slice (some ⟨b, 0, none⟩) n n)) w') :
    wpList P ops Q (⟨dst, .convert T T x, ty, pos, after, g⟩ :: rest) a (w.alloc (.cells C e)) := by
  refine wpList_want hgd fun K hK => ?_
  have h' := Lib.run_convert_bytes_const (P := P) w T e C n n ht he
  have hnew : New w (w.alloc (.cells C e (C.size, C.size + 1))) := (Below.refl _ _).alloc (Nat.le_refl _) _
  have hrd : Rd (w.alloc (.cells C e (C.size, C.size + 1))) 1 (.slice (some ⟨w.heap.size, 0, none⟩) n n) (cellsB bs) :=
    ⟨some ⟨w.heap.size, 0, none⟩, n, n, rfl, by rw [cellsB_len, hn, Nat.mul_one], Nat.le_refl _, hm, (fun h => by cases h), fun i hi => ⟨w.heap.size, 0, rfl, by show w.heap.size < (w.heap.push _).size; rw [Array.size_push]; omega, by rw [Nat.zero_add, World.cell?_alloc_mark, ← hC, Array.getElem?_toList]⟩⟩
  have hmem := hv.fresh hnew ⟨hrd, fun _ => ⟨w.heap.size, 0, n, n, rfl, Nat.le_refl _⟩⟩
  unfold Oper.wp execOp
  simp only [hx, Sem.run_bind, h', Result.andThen_ok, Sem.run_pure]
  exact hK _ _ (hk _ _ hmem)
end
end Go
namespace Go.Proofs.Ytpbeemgigpaacaa
open Go.Proofs.Wi Go.RowKit
section
variable {w0 w : World} {L : List (Nat × Array Value)} {R : List (Nat × Value × List Value)} {nx bn bc pn pc : Nat} {ba pa : Option Addr} {s : St} {l : List PcV}
/-- Take, its answer known. -/
theorem Take_h (hv : Mem w0 w L R) (h : InS R nx (.slice ba bn bc) (.slice pa pn pc) s l) {nxi seqi : Int} (hi : nxi = (nx : Nat)) (seq : Nat) (hq : seqi = (seq : Nat)) (hck : chk s = true) (hnx : nx < 4294967296) {da : Option Addr} {dn dc : Nat} {data : List Nat} (hd : (1, .slice da dn dc, cellsB data) ∈ R) (hdn : dn ≤ 4096)
    {s' : St} {b0 : List Nat} (hc : ∀ {b rest}, Took (gF s seq data) b rest → b = b0 ∧ outS s b rest = s') {nxo ni : Int} (ho : nxo = (s'.next : Nat)) (hni : ni = (b0.length : Nat)) {m k : Nat} (hm : m = s'.bytes.length) (hk : k = s'.ps.length) :
    Calls Try.prog 10 #[.agg #[.int .u32 nxi, .slice ba bn bc, .slice pa pn pc], .int .u32 seqi, .slice da dn dc] w fun e w' => ∃ ba' bc' pa' pc' l' R', e = .returned (.tuple #[.agg #[.int .u32 nxo, .slice ba' m bc', .slice pa' k pc'], .int .i64 ni]) ∧ Mem w0 w' L R' ∧ InS R' s'.next (.slice ba' m bc') (.slice pa' k pc') s' l' ∧ ∀ x ∈ R, x ∈ R' := by
  subst hi hq
  refine (Take_S hv h hck hnx seq hd hdn).mono ?_
  rintro e w' ⟨nx', ba', bn', bc', pa', pn', pc', l', R', b, rest, rfl, g1, g2, g3⟩
  obtain ⟨rfl, e2⟩ := hc g3
  rw [e2] at g2
  have e1 := len_rd1 (g1.rd g2.b)
  have e3 := len_rdP (g1.rd g2.p)
  have e4 : l'.length = s'.ps.length := by rw [← g2.ps, List.length_map]
  obtain rfl : bn' = m := by omega
  obtain rfl : pn' = k := by omega
  obtain rfl := g2.nx
  exact ⟨ba', bc', pa', pc', l', R' ++ R, by rw [ho, hni], g1, g2, fun x hx => List.mem_append_right _ hx⟩
theorem Read_h (hv : Mem w0 w L R) (h : InS R nx (.slice ba bn bc) (.slice pa pn pc) s l) {nxi n : Int} (hi : nxi = (nx : Nat)) (hck : chk s = true) {k m m' : Nat} (hk : clampN n s.bytes.length = k) {s' : St} (hs : (⟨s.next, s.bytes.drop k, s.ps⟩ : St) = s') (hm : m = s'.bytes.length) (hm' : m' = (s.bytes.take k).length) :
    Calls Try.prog 14 #[.agg #[.int .u32 nxi, .slice ba bn bc, .slice pa pn pc], .int .i64 n] w fun e w' => ∃ ba' bc' ga gc R', e = .returned (.tuple #[.agg #[.int .u32 nxi, .slice ba' m bc', .slice pa pn pc], .slice ga m' gc]) ∧ Mem w0 w' L R' ∧ InS R' nx (.slice ba' m bc') (.slice pa pn pc) s' l ∧ (1, .slice ga m' gc, cellsB (s.bytes.take k)) ∈ R' ∧ ∀ x ∈ R, x ∈ R' := by
  subst hi
  refine (Read_S hv h hck n).mono ?_
  rintro e w' ⟨ba', bn', bc', ga, gn, gc, R', rfl, g1, g2, g3⟩
  rw [hk] at g2 g3
  rw [hs] at g2
  have e1 := len_rd1 (g1.rd g2.b)
  have e2 := len_rd1 (g1.rd g3)
  obtain rfl : bn' = m := by omega
  obtain rfl : gn = m' := by omega
  exact ⟨ba', bc', ga, gc, R' ++ R, rfl, g1, g2, g3, fun x hx => List.mem_append_right _ hx⟩
theorem Room_h (hv : Mem w0 w L R) (h : InS R nx (.slice ba bn bc) (.slice pa pn pc) s l) {nxi r : Int} (hi : nxi = (nx : Nat)) (hck : chk s = true) (hr : room s = r) : Calls Try.prog 17 #[.agg #[.int .u32 nxi, .slice ba bn bc, .slice pa pn pc]] w fun e w' => e = .returned (.int .i64 r) ∧ New w w' := by
  subst hi hr
  exact Room_S hv h hck
theorem Check_h (hv : Mem w0 w L R) (h : InS R nx (.slice ba bn bc) (.slice pa pn pc) s l) {nxi : Int} (hi : nxi = (nx : Nat)) (hck : chk s = true) : Calls Try.prog 12 #[.agg #[.int .u32 nxi, .slice ba bn bc, .slice pa pn pc]] w fun e w' => e = .returned (.bool true) ∧ New w w' := by
  subst hi
  exact Check_S hv h hck
theorem Same_h {mx dn dc qn qc : Nat} {da qa : Option Addr} {m : List PcV} (hv : Mem w0 w L R) (h : InS R nx (.slice ba bn bc) (.slice pa pn pc) s l) (h' : InS R mx (.slice da dn dc) (.slice qa qn qc) s m) {nxi mxi : Int} (hi : nxi = (nx : Nat)) (hi' : mxi = (mx : Nat)) (hl : l.length ≤ 1000) (hg : goodSt s) :
    Calls Try.prog 11 #[.agg #[.int .u32 nxi, .slice ba bn bc, .slice pa pn pc], .agg #[.int .u32 mxi, .slice da dn dc, .slice qa qn qc]] w fun e w' => e = .returned (.bool true) ∧ New w w' := by
  subst hi hi'
  exact Same_S hv h h' hl hg
end
theorem built_str5 : Try.prog.built 26 [(0, .int .u32 5)] = some #[.int .u32 5, .slice none 0 0, .slice none 0 0] := by kernel_rfl
set_option maxRecDepth 100000 in
set_option maxHeartbeats 4000000 in
theorem heads25 (w : World) : Calls Try.prog 9 #[] w fun e w' => e = .returned (.bool true) ∧ New w w' := by
  have hv := ((Mem.nil w).old (Rd.nil w 2)).old (Rd.nil w 1)
  have hI0 : Hid (InS [(1, .slice none 0 0, []), (2, .slice none 0 0, [])] 5 (.slice none 0 0) (.slice none 0 0) sH0 []) := Lib.hid ⟨Mem.z, Mem.s Mem.z, fun p hp => (List.not_mem_nil hp).elim, rfl⟩
  go_enter Try.func9, Try.ntmps9
  have HL3 : Hid (([] : List PcV).length ≤ 1000) := Lib.hid (by simp)
  have HG3 : Hid (goodSt sHc) := Lib.hid ⟨fun x hx => by rw [List.mem_singleton.1 hx]; decide, fun p hp => (List.not_mem_nil hp).elim⟩
  go_wp2_with (first
    | ((with_reducible refine at_build (T := 26) ?_); refine wl_build rfl _ rfl built_str5 ?_)
    | ((with_reducible refine at_conv ?_); refine wl_bconv (C := #[.int .u8 99, .int .u8 100]) (n := 2) (bs := [99, 100]) rfl hv rfl Try.underlying23 Try.underlying5 rfl rfl (by unfold maxLen; omega) ?_; intro bq w7 hv1; replace hv := hv1; clear hv1)
    | ((with_reducible refine at_conv ?_); refine wl_bconv (C := #[.int .u8 97, .int .u8 98, .int .u8 88, .int .u8 88]) (n := 4) (bs := [97, 98, 88, 88]) rfl hv rfl Try.underlying23 Try.underlying5 rfl rfl (by unfold maxLen; omega) ?_; intro bq w7 hv1; replace hv := hv1; clear hv1)
    | ((with_reducible refine at_conv ?_); refine wl_bconv (C := #[.int .u8 111, .int .u8 108, .int .u8 100]) (n := 3) (bs := [111, 108, 100]) rfl hv rfl Try.underlying23 Try.underlying5 rfl rfl (by unfold maxLen; omega) ?_; intro bq w7 hv1; replace hv := hv1; clear hv1)
    | (go_at_call 10; (refine (Take_h hv (hI0.out.con _) (nx := 5) rfl 7 rfl ckH0 (by omega) Mem.z (by omega) calcA (nxo := 5) (ni := 0) rfl rfl (m := 0) (k := 1) rfl rfl).mono ?_); rintro e w1 ⟨ba1, bc1, pa1, pc1, l1, R1, rfl, hv1, hI1, hR1⟩; replace hv := hv1; clear hv1; replace hR1 : Hid (∀ x ∈ _, x ∈ R1) := Lib.hid (fun x hx => hR1 x (Mem.s hx)); obtain ⟨pb1, po1, _, _, ep1, _⟩ := (hv.rd hI1.p).some (by rw [cellsP_len]; have := hI1.ps; have := congrArg List.length this; rw [List.length_map] at this; rw [this]; decide); cases ep1; replace hI1 := Lib.hid hI1; have HP1 : Hid ((cellsP l1)[0]? = some (.int .u32 7)) := Lib.hid (headP hI1.out.ps))
    | ((with_reducible refine at_alloc (T := 26) (dst := some 1) ?_); refine wl_newb rfl #[.int .u32 0, .slice none 0 0, .slice none 0 0] 26 (fun _ => rfl) ?_; intro b1 w2 hm2; replace hv := hv.madeAt hm2; clear hm2)
    | ((with_reducible refine at_alloc (T := 26) (dst := some 3) ?_); refine wl_newb rfl #[.int .u32 0, .slice none 0 0, .slice none 0 0] 26 (fun _ => rfl) ?_; intro b3 w2 hm2; replace hv := hv.madeAt hm2; clear hm2)
    | ((with_reducible refine at_alloc (T := 26) (dst := some 5) ?_); refine wl_newb rfl #[.int .u32 0, .slice none 0 0, .slice none 0 0] 26 (fun _ => rfl) ?_; intro b5 w2 hm2; replace hv := hv.madeAt hm2; clear hm2)
    | ((with_reducible refine at_alloc (T := 26) (dst := some 7) ?_); refine wl_newb rfl #[.int .u32 0, .slice none 0 0, .slice none 0 0] 26 (fun _ => rfl) ?_; intro b7 w2 hm2; replace hv := hv.madeAt hm2; clear hm2)
    | ((with_reducible refine at_store (T := 26) ?_); refine wl_stv rfl b1 rfl _ rfl _ (hv.vars.row (by first | exact .head _ | exact .tail _ (.head _) | exact .tail _ (.tail _ (.head _)) | exact .tail _ (.tail _ (.tail _ (.head _))) | exact .tail _ (.tail _ (.tail _ (.tail _ (.head _)))) | exact .tail _ (.tail _ (.tail _ (.tail _ (.tail _ (.head _))))) | exact .tail _ (.tail _ (.tail _ (.tail _ (.tail _ (.tail _ (.head _)))))) | exact .tail _ (.tail _ (.tail _ (.tail _ (.tail _ (.tail _ (.tail _ (.head _))))))))) (hv.vars.sft (by first | exact .head _ | exact .tail _ (.head _) | exact .tail _ (.tail _ (.head _)) | exact .tail _ (.tail _ (.tail _ (.head _))) | exact .tail _ (.tail _ (.tail _ (.tail _ (.head _)))) | exact .tail _ (.tail _ (.tail _ (.tail _ (.tail _ (.head _))))) | exact .tail _ (.tail _ (.tail _ (.tail _ (.tail _ (.tail _ (.head _)))))) | exact .tail _ (.tail _ (.tail _ (.tail _ (.tail _ (.tail _ (.tail _ (.head _))))))))) 3 infoStr rfl rfl (by simp [Value.oneCell']) ?_; intro w2 hw2; (first | (replace hv := hv.set 0 rfl hw2) | (replace hv := hv.set 1 rfl hw2) | (replace hv := hv.set 2 rfl hw2) | (replace hv := hv.set 3 rfl hw2) | (replace hv := hv.set 4 rfl hw2) | (replace hv := hv.set 5 rfl hw2) | (replace hv := hv.set 6 rfl hw2) | (replace hv := hv.set 7 rfl hw2)); clear hw2; simp only [List.set] at hv)
    | ((with_reducible refine at_store (T := 26) ?_); refine wl_stv rfl b3 rfl _ rfl _ (hv.vars.row (by first | exact .head _ | exact .tail _ (.head _) | exact .tail _ (.tail _ (.head _)) | exact .tail _ (.tail _ (.tail _ (.head _))) | exact .tail _ (.tail _ (.tail _ (.tail _ (.head _)))) | exact .tail _ (.tail _ (.tail _ (.tail _ (.tail _ (.head _))))) | exact .tail _ (.tail _ (.tail _ (.tail _ (.tail _ (.tail _ (.head _)))))) | exact .tail _ (.tail _ (.tail _ (.tail _ (.tail _ (.tail _ (.tail _ (.head _))))))))) (hv.vars.sft (by first | exact .head _ | exact .tail _ (.head _) | exact .tail _ (.tail _ (.head _)) | exact .tail _ (.tail _ (.tail _ (.head _))) | exact .tail _ (.tail _ (.tail _ (.tail _ (.head _)))) | exact .tail _ (.tail _ (.tail _ (.tail _ (.tail _ (.head _))))) | exact .tail _ (.tail _ (.tail _ (.tail _ (.tail _ (.tail _ (.head _)))))) | exact .tail _ (.tail _ (.tail _ (.tail _ (.tail _ (.tail _ (.tail _ (.head _))))))))) 3 infoStr rfl rfl (by simp [Value.oneCell']) ?_; intro w2 hw2; (first | (replace hv := hv.set 0 rfl hw2) | (replace hv := hv.set 1 rfl hw2) | (replace hv := hv.set 2 rfl hw2) | (replace hv := hv.set 3 rfl hw2) | (replace hv := hv.set 4 rfl hw2) | (replace hv := hv.set 5 rfl hw2) | (replace hv := hv.set 6 rfl hw2) | (replace hv := hv.set 7 rfl hw2)); clear hw2; simp only [List.set] at hv)
    | ((with_reducible refine at_store (T := 26) ?_); refine wl_stv rfl b5 rfl _ rfl _ (hv.vars.row (by first | exact .head _ | exact .tail _ (.head _) | exact .tail _ (.tail _ (.head _)) | exact .tail _ (.tail _ (.tail _ (.head _))) | exact .tail _ (.tail _ (.tail _ (.tail _ (.head _)))) | exact .tail _ (.tail _ (.tail _ (.tail _ (.tail _ (.head _))))) | exact .tail _ (.tail _ (.tail _ (.tail _ (.tail _ (.tail _ (.head _)))))) | exact .tail _ (.tail _ (.tail _ (.tail _ (.tail _ (.tail _ (.tail _ (.head _))))))))) (hv.vars.sft (by first | exact .head _ | exact .tail _ (.head _) | exact .tail _ (.tail _ (.head _)) | exact .tail _ (.tail _ (.tail _ (.head _))) | exact .tail _ (.tail _ (.tail _ (.tail _ (.head _)))) | exact .tail _ (.tail _ (.tail _ (.tail _ (.tail _ (.head _))))) | exact .tail _ (.tail _ (.tail _ (.tail _ (.tail _ (.tail _ (.head _)))))) | exact .tail _ (.tail _ (.tail _ (.tail _ (.tail _ (.tail _ (.tail _ (.head _))))))))) 3 infoStr rfl rfl (by simp [Value.oneCell']) ?_; intro w2 hw2; (first | (replace hv := hv.set 0 rfl hw2) | (replace hv := hv.set 1 rfl hw2) | (replace hv := hv.set 2 rfl hw2) | (replace hv := hv.set 3 rfl hw2) | (replace hv := hv.set 4 rfl hw2) | (replace hv := hv.set 5 rfl hw2) | (replace hv := hv.set 6 rfl hw2) | (replace hv := hv.set 7 rfl hw2)); clear hw2; simp only [List.set] at hv)
    | ((with_reducible refine at_store (T := 26) ?_); refine wl_stv rfl b7 rfl _ rfl _ (hv.vars.row (by first | exact .head _ | exact .tail _ (.head _) | exact .tail _ (.tail _ (.head _)) | exact .tail _ (.tail _ (.tail _ (.head _))) | exact .tail _ (.tail _ (.tail _ (.tail _ (.head _)))) | exact .tail _ (.tail _ (.tail _ (.tail _ (.tail _ (.head _))))) | exact .tail _ (.tail _ (.tail _ (.tail _ (.tail _ (.tail _ (.head _)))))) | exact .tail _ (.tail _ (.tail _ (.tail _ (.tail _ (.tail _ (.tail _ (.head _))))))))) (hv.vars.sft (by first | exact .head _ | exact .tail _ (.head _) | exact .tail _ (.tail _ (.head _)) | exact .tail _ (.tail _ (.tail _ (.head _))) | exact .tail _ (.tail _ (.tail _ (.tail _ (.head _)))) | exact .tail _ (.tail _ (.tail _ (.tail _ (.tail _ (.head _))))) | exact .tail _ (.tail _ (.tail _ (.tail _ (.tail _ (.tail _ (.head _)))))) | exact .tail _ (.tail _ (.tail _ (.tail _ (.tail _ (.tail _ (.tail _ (.head _))))))))) 3 infoStr rfl rfl (by simp [Value.oneCell']) ?_; intro w2 hw2; (first | (replace hv := hv.set 0 rfl hw2) | (replace hv := hv.set 1 rfl hw2) | (replace hv := hv.set 2 rfl hw2) | (replace hv := hv.set 3 rfl hw2) | (replace hv := hv.set 4 rfl hw2) | (replace hv := hv.set 5 rfl hw2) | (replace hv := hv.set 6 rfl hw2) | (replace hv := hv.set 7 rfl hw2)); clear hw2; simp only [List.set] at hv)
    | ((with_reducible refine at_load (T := 26) ?_); refine wl_ldv rfl _ rfl _ (hv.vars.row (by first | exact .head _ | exact .tail _ (.head _) | exact .tail _ (.tail _ (.head _)) | exact .tail _ (.tail _ (.tail _ (.head _))) | exact .tail _ (.tail _ (.tail _ (.tail _ (.head _)))) | exact .tail _ (.tail _ (.tail _ (.tail _ (.tail _ (.head _))))) | exact .tail _ (.tail _ (.tail _ (.tail _ (.tail _ (.tail _ (.head _)))))) | exact .tail _ (.tail _ (.tail _ (.tail _ (.tail _ (.tail _ (.tail _ (.head _))))))))) 3 _ Try.underlying26 rfl infoStr (by decide) rfl ?_)
    | ((with_reducible refine at_load (T := 24) ?_); refine wl_ldc rfl _ _ rfl _ (hv.vars.row (by first | exact .head _ | exact .tail _ (.head _) | exact .tail _ (.tail _ (.head _)) | exact .tail _ (.tail _ (.tail _ (.head _))) | exact .tail _ (.tail _ (.tail _ (.tail _ (.head _)))) | exact .tail _ (.tail _ (.tail _ (.tail _ (.tail _ (.head _))))) | exact .tail _ (.tail _ (.tail _ (.tail _ (.tail _ (.tail _ (.head _)))))) | exact .tail _ (.tail _ (.tail _ (.tail _ (.tail _ (.tail _ (.tail _ (.head _))))))))) _ Try.underlying24 rfl _ rfl ?_)
    | ((with_reducible refine at_load (T := 22) ?_); refine wl_ldc rfl _ _ rfl _ (hv.vars.row (by first | exact .head _ | exact .tail _ (.head _) | exact .tail _ (.tail _ (.head _)) | exact .tail _ (.tail _ (.tail _ (.head _))) | exact .tail _ (.tail _ (.tail _ (.tail _ (.head _)))) | exact .tail _ (.tail _ (.tail _ (.tail _ (.tail _ (.head _))))) | exact .tail _ (.tail _ (.tail _ (.tail _ (.tail _ (.tail _ (.head _)))))) | exact .tail _ (.tail _ (.tail _ (.tail _ (.tail _ (.tail _ (.tail _ (.head _))))))))) _ Try.underlying22 rfl _ rfl ?_)
    | ((with_reducible refine at_load (T := 23) ?_); refine wl_ldc rfl _ _ rfl _ (hv.vars.row (by first | exact .head _ | exact .tail _ (.head _) | exact .tail _ (.tail _ (.head _)) | exact .tail _ (.tail _ (.tail _ (.head _))) | exact .tail _ (.tail _ (.tail _ (.tail _ (.head _)))) | exact .tail _ (.tail _ (.tail _ (.tail _ (.tail _ (.head _))))) | exact .tail _ (.tail _ (.tail _ (.tail _ (.tail _ (.tail _ (.head _)))))) | exact .tail _ (.tail _ (.tail _ (.tail _ (.tail _ (.tail _ (.tail _ (.head _))))))))) _ Try.underlying23 rfl _ rfl ?_)
    | (go_at_call 10; (refine (Take_h hv (hI1.out.con _) (nx := 5) rfl 5 rfl ckHa (by omega) Mem.z (by omega) calcB (nxo := 9) (ni := 4) rfl rfl (m := 4) (k := 0) rfl rfl).mono ?_); rintro e w1 ⟨ba2, bc2, pa2, pc2, l2, R2, rfl, hv1, hI2, hR2⟩; replace hv := hv1; clear hv1; replace hR2 : Hid (∀ x ∈ _, x ∈ R2) := Lib.hid (fun x hx => hR2 x (Mem.s hx)); replace hI2 := Lib.hid hI2)
    | (go_at_call 14; (refine (Read_h hv hI2.out (nx := 9) rfl ckHb (k := 3) rfl (s' := sHc) rfl (m := 1) rfl (m' := 3) rfl).mono ?_); rintro e w1 ⟨ba3, bc3, ga, gc, R3, rfl, hv1, hI3, hG, hR3⟩; replace hv := hv1; clear hv1; replace hR3 := Lib.hid hR3; replace hI3 := Lib.hid hI3; replace hG : Hid ((1, .slice ga 3 gc, cellsB [97, 98, 99]) ∈ R3) := Lib.hid hG)
    | (go_at_call 10; (refine (Take_h hv (hI3.out.con _) (nx := 9) rfl 4294967290 rfl ckHc (by omega) Mem.z (by omega) calcD (nxo := 9) (ni := 0) rfl rfl (m := 1) (k := 0) rfl rfl).mono ?_); rintro e w1 ⟨ba4, bc4, pa4, pc4, l4, R4, rfl, hv1, hI4, hR4⟩; replace hv := hv1; clear hv1; replace hR4 : Hid (∀ x ∈ _, x ∈ R4) := Lib.hid (fun x hx => hR4 x (Mem.s hx)); replace hI4 := Lib.hid hI4; have hQ3 : ∀ x ∈ R3, x ∈ R4 := (fun x hx => hR4.out x hx); have hQ2 : ∀ x ∈ R2, x ∈ R4 := (fun x hx => hQ3 x (hR3.out x hx)); have hQ1 : ∀ x ∈ R1, x ∈ R4 := (fun x hx => hQ2 x (hR2.out x hx)))
    | ((with_reducible refine at_load (T := 22) ?_); refine wl_rd rfl (c := cellsP l1) (hv.rd (hQ1 _ hI1.out.p)) 0 rfl _ Try.underlying22 rfl (.int .u32 7) HP1.out ?_)
    | ((with_reducible refine at_conv ?_); refine wl_str (l := [97, 98, 99, 100]) rfl rfl Try.underlying23 Try.underlying5 Try.underlying9 (hv.rd (hQ2 _ hI2.out.b)) (by unfold goodB; decide) (s := ⟨#[97, 98, 99, 100]⟩) rfl ?_)
    | ((with_reducible refine at_conv ?_); refine wl_str (l := [97, 98, 99]) rfl rfl Try.underlying23 Try.underlying5 Try.underlying9 (hv.rd (hQ3 _ hG.out)) (by unfold goodB; decide) (s := ⟨#[97, 98, 99]⟩) rfl ?_)
    | (go_at_call 17; (refine (Room_h hv (hI3.out.mono hQ3) (nx := 9) rfl ckHc rmHc).mono ?_); rintro e w1 ⟨rfl, hn1⟩; replace hv := hv.new hn1; clear hn1)
    | (go_at_call 11; (refine (Same_h hv (hI3.out.mono hQ3) hI4.out (nx := 9) (mx := 9) rfl rfl (by have := (hI2.out.small ckHb).1; omega) HG3.out).mono ?_); rintro e w1 ⟨rfl, hn1⟩; replace hv := hv.new hn1; clear hn1)
    | (go_at_call 12; (refine (Check_h hv (hI1.out.mono hQ1) (nx := 5) rfl ckHa).mono ?_); rintro e w1 ⟨rfl, hn1⟩; replace hv := hv.new hn1; clear hn1))
  go_ret
  exact ⟨rfl, hv.below⟩
end Go.Proofs.Ytpbeemgigpaacaa
