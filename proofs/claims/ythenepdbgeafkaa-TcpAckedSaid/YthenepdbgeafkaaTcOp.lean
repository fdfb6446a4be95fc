/-
 Connections, segments and parts that come in as arguments (layer 26).
-/
import Derived.Test.YthenepdbgeafkaaWiOpen
import Derived.Test.YthenepdbgeafkaaTcR
import Derived.Test.YthenepdbgeafkaaGAY
set_option linter.unusedVariables false
set_option linter.unusedSimpArgs false
namespace Go.Proofs.Tp
open Go Go.RowKit Go.Proofs.Wi
abbrev cellsTc (st lo ip po iss una nx : Int) (dv : Value) (wnd : Int) (en se : Bool) (inx : Int) (bv pv : Value) (ed : Bool) (tm rto tr er : Int) : List Value := [.int .i64 st, .int .i64 lo, .int .u32 ip, .int .i64 po, .int .u32 iss, .int .u32 una, .int .u32 nx, dv, .int .i64 wnd, .bool en, .bool se, .int .u32 inx, bv, pv, .bool ed, .int .u64 tm, .int .i64 rto, .int .i64 tr, .int .i64 er]
structure Pq where
 fr : Int
 ln : Int
 fl : Int
 ac : Nat
 wn : Int
 rd : Bool
 nw : Nat
theorem u64_ofT {q : Int} (h : (Lit.int .u64 q).wf = true) : ∃ n : Nat, q = (n : Nat) ∧ n < 18446744073709551616 := by
 simp only [Lit.wf, Bool.and_eq_true, decide_eq_true_eq] at h
 have h1 : IntKind.u64.min = 0 := by decide
 have h2 : IntKind.u64.max = 18446744073709551615 := by decide
 exact ⟨q.toNat, by omega, by omega⟩
structure RdTc (W : World) (v : Value) (st lo po wnd rto tr er : Int) (ip iss una nx inx tm : Nat) (en se ed : Bool) (dv bv pv : Value) (D bs : List Nat) (l : List PcV) : Prop where
 eq : v = .agg (cellsTc st lo ip po iss una nx dv wnd en se inx bv pv ed tm rto tr er).toArray
 u1 : ip < 4294967296 ∧ iss < 4294967296 ∧ una < 4294967296 ∧ nx < 4294967296 ∧ inx < 4294967296 ∧ tm < 18446744073709551616
 i1 : (-9223372036854775808 ≤ st ∧ st ≤ 9223372036854775807) ∧ (-9223372036854775808 ≤ wnd ∧ wnd ≤ 9223372036854775807)
 d : Rd W 1 dv (cellsB D) ∧ goodB D
 s : RdSt W inx bv pv bs l
end Go.Proofs.Tp
namespace Go.Proofs.Ythenepdbgeafkaa
open Go.Proofs.Wi Go.RowKit Go.ChangeShapes Go.WideShapes Go.Proofs.Tp
section
variable {H : Type} {enc : TypeId × Value → H} {w : World} {base : Nat} {spare : Nat → Bool} {held : Bool}
theorem fieldsTc : (Try.prog.fieldsOf 31).toList.map (fun f => (f.type, f.offset)) = [(3, 0), (3, 1), (22, 2), (3, 3), (22, 4), (22, 5), (22, 6), (23, 7), (3, 8), (4, 9), (4, 10), (27, 11), (4, 14), (28, 15), (3, 16), (3, 17), (29, 18)] := by kernel_rfl
theorem structTc : Try.prog.underlying 31 = some (.struct (Try.prog.fieldsOf 31)) := by kernel_rfl
theorem fieldsSg : (Try.prog.fieldsOf 42).toList.map (fun f => (f.type, f.offset)) = [(3, 0), (3, 1), (22, 2), (22, 3), (3, 4), (3, 5), (23, 6)] := by kernel_rfl
theorem structSg : Try.prog.underlying 42 = some (.struct (Try.prog.fieldsOf 42)) := by kernel_rfl
theorem wo_tc : Try.prog.cellsOf 31 = 19 := by kernel_rfl
theorem wo_sg : Try.prog.cellsOf 42 = 7 := by kernel_rfl
theorem wo_u64 : Try.prog.cellsOf 28 = 1 := by kernel_rfl
theorem wo_er : Try.prog.cellsOf 29 = 1 := by kernel_rfl
theorem cells3 {α : Type} {l : List α} {n : Nat} {a b c : α} (h : (l.drop n).take 3 = [a, b, c]) : l[n]? = some a ∧ l[n + 1]? = some b ∧ l[n + 2]? = some c := by
 have h0 : ((l.drop n).take 3)[0]? = some a := by rw [h]; rfl
 have h1 : ((l.drop n).take 3)[1]? = some b := by rw [h]; rfl
 have h2 : ((l.drop n).take 3)[2]? = some c := by rw [h]; rfl
 rw [List.getElem?_take, List.getElem?_drop] at h0 h1 h2
 exact ⟨by simpa using h0, by simpa using h1, by simpa using h2⟩
theorem open_streamC {n : Nat} {cs : List Value} {d : DataW H × List MemPlace} (hd : DataW.trod enc Try.prog w 0 spare held n 27 cs = some d) :
   ∃ nx bv pv bs l, cs = [.int .u32 ((nx : Nat) : Int), bv, pv] ∧ RdSt w nx bv pv bs l := by
 obtain ⟨hl, m, hf⟩ := open_str structSt fieldsSt hd
 rw [wo_st] at hl
 obtain ⟨y0, e0⟩ := hf 0 _ rfl
 obtain ⟨y1, e1⟩ := hf 1 _ rfl
 obtain ⟨y2, e2⟩ := hf 2 _ rfl
 obtain ⟨a, g0, wa⟩ := cell_int Try.underlying22 wo_u32 e0
 obtain ⟨a, rfl, ha⟩ := u32_of wa
 obtain ⟨bv, g1, bs, r1, q1⟩ := open_bytesW e1
 obtain ⟨pv, g2, l, r2, q2⟩ := open_pieces e2
 rw [wo_bs] at g1
 rw [wo_ps] at g2
 have g1' := take_1 g1
 have g2' := take_1 g2
 refine ⟨a, bv, pv, bs, l, ?_, ha, r1, q1, r2, q2⟩
 apply List.ext_getElem?
 intro i
 match i with
 | 0 => rw [g0]; rfl
 | 1 => rw [g1']; rfl
 | 2 => rw [g2']; rfl
 | i + 3 => rw [List.getElem?_eq_none (by omega), List.getElem?_eq_none (by simp)]
theorem open_tcb {v : Value} {d : DataW H} {ps : List MemPlace} (h : DataW.Trod enc Try.prog w 0 spare held 31 v d ps) :
   ∃ st lo po wnd rto tr er ip iss una nx inx tm en se ed dv bv pv D bs l, RdTc w v st lo po wnd rto tr er ip iss una nx inx tm en se ed dv bv pv D bs l := by
 obtain ⟨fuel, h⟩ := h
 obtain ⟨hl, m, hf⟩ := open_str structTc fieldsTc h
 rw [wo_tc] at hl
 obtain ⟨cs, rfl⟩ := agg_of hl (by omega)
 simp only [Value.cells] at hl hf
 obtain ⟨y0, e0⟩ := hf 0 _ rfl
 obtain ⟨y1, e1⟩ := hf 1 _ rfl
 obtain ⟨y2, e2⟩ := hf 2 _ rfl
 obtain ⟨y3, e3⟩ := hf 3 _ rfl
 obtain ⟨y4, e4⟩ := hf 4 _ rfl
 obtain ⟨y5, e5⟩ := hf 5 _ rfl
 obtain ⟨y6, e6⟩ := hf 6 _ rfl
 obtain ⟨y7, e7⟩ := hf 7 _ rfl
 obtain ⟨y8, e8⟩ := hf 8 _ rfl
 obtain ⟨y9, e9⟩ := hf 9 _ rfl
 obtain ⟨ya, ea⟩ := hf 10 _ rfl
 obtain ⟨yb, eb⟩ := hf 11 _ rfl
 obtain ⟨yc, ec⟩ := hf 12 _ rfl
 obtain ⟨yd, ed⟩ := hf 13 _ rfl
 obtain ⟨ye, ee⟩ := hf 14 _ rfl
 obtain ⟨yf, ef⟩ := hf 15 _ rfl
 obtain ⟨yg, eg⟩ := hf 16 _ rfl
 obtain ⟨st, g0, w0⟩ := cell_int Try.underlying3 wo_i e0
 obtain ⟨lo, g1, w1⟩ := cell_int Try.underlying3 wo_i e1
 obtain ⟨ip, g2, w2⟩ := cell_int Try.underlying22 wo_u32 e2
 obtain ⟨ip, rfl, z2⟩ := u32_of w2
 obtain ⟨po, g3, w3⟩ := cell_int Try.underlying3 wo_i e3
 obtain ⟨iss, g4, w4⟩ := cell_int Try.underlying22 wo_u32 e4
 obtain ⟨iss, rfl, z4⟩ := u32_of w4
 obtain ⟨una, g5, w5⟩ := cell_int Try.underlying22 wo_u32 e5
 obtain ⟨una, rfl, z5⟩ := u32_of w5
 obtain ⟨nx, g6, w6⟩ := cell_int Try.underlying22 wo_u32 e6
 obtain ⟨nx, rfl, z6⟩ := u32_of w6
 obtain ⟨dv, g7, D, r7, q7⟩ := open_bytesW e7
 rw [wo_bs] at g7
 have g7 := take_1 g7
 obtain ⟨wnd, g8, w8⟩ := cell_int Try.underlying3 wo_i e8
 obtain ⟨en, g9⟩ := cell_bool Try.underlying4 wo_b e9
 obtain ⟨se, ga⟩ := cell_bool Try.underlying4 wo_b ea
 obtain ⟨inx, bv, pv, bs, l, gb, rb⟩ := open_streamC eb
 rw [wo_st] at gb
 obtain ⟨gb0, gb1, gb2⟩ := cells3 gb
 obtain ⟨ed', gc⟩ := cell_bool Try.underlying4 wo_b ec
 obtain ⟨tm, gd, wd⟩ := cell_int Try.underlying28 wo_u64 ed
 obtain ⟨tm, rfl, zd⟩ := u64_ofT wd
 obtain ⟨rto, ge, we⟩ := cell_int Try.underlying3 wo_i ee
 obtain ⟨tr, gf, wf⟩ := cell_int Try.underlying3 wo_i ef
 obtain ⟨er, gg, wg⟩ := cell_int Try.underlying29 wo_er eg
 refine ⟨st, lo, po, wnd, rto, tr, er, ip, iss, una, nx, inx, tm, en, se, ed', dv, bv, pv, D, bs, l, ⟨?_, ⟨z2, z4, z5, z6, rb.1, zd⟩, ⟨i64_of w0, i64_of w8⟩, ⟨r7, q7⟩, rb⟩⟩
 refine congrArg Value.agg ?_
 apply Array.ext_getElem?
 intro i
 rw [← Array.getElem?_toList]
 match i with
 | 0 => rw [g0]; rfl
 | 1 => rw [g1]; rfl
 | 2 => rw [g2]; rfl
 | 3 => rw [g3]; rfl
 | 4 => rw [g4]; rfl
 | 5 => rw [g5]; rfl
 | 6 => rw [g6]; rfl
 | 7 => rw [g7]; rfl
 | 8 => rw [g8]; rfl
 | 9 => rw [g9]; rfl
 | 10 => rw [ga]; rfl
 | 11 => rw [gb0]; rfl
 | 12 => rw [gb1]; rfl
 | 13 => rw [gb2]; rfl
 | 14 => rw [gc]; rfl
 | 15 => rw [gd]; rfl
 | 16 => rw [ge]; rfl
 | 17 => rw [gf]; rfl
 | 18 => rw [gg]; rfl
 | i + 19 => rw [List.getElem?_eq_none (by omega), Array.getElem?_eq_none (by simp)]
theorem open_seg {v : Value} {d : DataW H} {ps : List MemPlace} (h : DataW.Trod enc Try.prog w 0 spare held 42 v d ps) :
   ∃ (src dst fl wnd : Int) (seq ack : Nat) (sv : Value) (D : List Nat), v = .agg #[.int .i64 src, .int .i64 dst, .int .u32 seq, .int .u32 ack, .int .i64 fl, .int .i64 wnd, sv] ∧ seq < 4294967296 ∧ ack < 4294967296 ∧ Rd w 1 sv (cellsB D) ∧ goodB D ∧ (-9223372036854775808 ≤ fl ∧ fl ≤ 9223372036854775807) := by
 obtain ⟨fuel, h⟩ := h
 obtain ⟨hl, m, hf⟩ := open_str structSg fieldsSg h
 rw [wo_sg] at hl
 obtain ⟨cs, rfl⟩ := agg_of hl (by omega)
 simp only [Value.cells] at hl hf
 obtain ⟨y0, e0⟩ := hf 0 _ rfl
 obtain ⟨y1, e1⟩ := hf 1 _ rfl
 obtain ⟨y2, e2⟩ := hf 2 _ rfl
 obtain ⟨y3, e3⟩ := hf 3 _ rfl
 obtain ⟨y4, e4⟩ := hf 4 _ rfl
 obtain ⟨y5, e5⟩ := hf 5 _ rfl
 obtain ⟨y6, e6⟩ := hf 6 _ rfl
 obtain ⟨src, g0, w0⟩ := cell_int Try.underlying3 wo_i e0
 obtain ⟨dst, g1, w1⟩ := cell_int Try.underlying3 wo_i e1
 obtain ⟨seq, g2, w2⟩ := cell_int Try.underlying22 wo_u32 e2
 obtain ⟨seq, rfl, z2⟩ := u32_of w2
 obtain ⟨ack, g3, w3⟩ := cell_int Try.underlying22 wo_u32 e3
 obtain ⟨ack, rfl, z3⟩ := u32_of w3
 obtain ⟨fl, g4, w4⟩ := cell_int Try.underlying3 wo_i e4
 obtain ⟨wnd, g5, w5⟩ := cell_int Try.underlying3 wo_i e5
 obtain ⟨sv, g6, D, r6, q6⟩ := open_bytesW e6
 rw [wo_bs] at g6
 have g6 := take_1 g6
 refine ⟨src, dst, fl, wnd, seq, ack, sv, D, ?_, z2, z3, r6, q6, i64_of w4⟩
 refine congrArg Value.agg ?_
 apply Array.ext_getElem?
 intro i
 rw [← Array.getElem?_toList]
 match i with
 | 0 => rw [g0]; rfl
 | 1 => rw [g1]; rfl
 | 2 => rw [g2]; rfl
 | 3 => rw [g3]; rfl
 | 4 => rw [g4]; rfl
 | 5 => rw [g5]; rfl
 | 6 => rw [g6]; rfl
 | i + 7 => rw [List.getElem?_eq_none (by omega), Array.getElem?_eq_none (by simp)]
instance : Inhabited Pq := ⟨⟨0, 0, 0, 0, 0, false, 0⟩⟩
theorem open_boolsW {fuel : Nat} {cs : List Value} {x : DataW H × List MemPlace} (h : DataW.trod enc Try.prog w 0 spare held fuel 53 cs = some x) : ∃ v, cs = [v] ∧ ∃ l : List Bool, Rd w 1 v (l.map Value.bool) := by
 obtain ⟨v, h1, l, h2, _⟩ := open_rd (fun b : Bool => [Value.bool b]) (fun _ => True) 1 (by omega) Try.underlying53 wo_b (fun _ => rfl) (fun n cs' d hd => by
   obtain ⟨m, e, _⟩ := DataW.trod_bool Try.underlying4 hd
   exact ⟨m, e, trivial⟩) h
 refine ⟨v, h1, l, ?_⟩
 have e : ∀ l : List Bool, l.flatMap (fun b => [Value.bool b]) = l.map Value.bool := by
   intro l
   induction l with
   | nil => rfl
   | cons a l ih => rw [List.flatMap_cons, ih]; rfl
 rw [e] at h2
 exact h2
end
theorem tcb_in {W : World} {v : Value} {st lo po wnd rto tr er : Int} {ip iss una nx inx tm : Nat} {en se ed : Bool} {dv bv pv : Value} {D bs : List Nat} {l : List PcV} (hT : RdTc W v st lo po wnd rto tr er ip iss una nx inx tm en se ed dv bv pv D bs l) (X : LR) (hX : ∀ x ∈ X, Rd W x.1 x.2.1 x.2.2) :
   ∃ (da ba pa : Option Addr) (dn dk bn bk pn pk : Nat) (R : LR), v = .agg #[.int .i64 st, .int .i64 lo, .int .u32 ip, .int .i64 po, .int .u32 iss, .int .u32 una, .int .u32 nx, .slice da dn dk, .int .i64 wnd, .bool en, .bool se, .int .u32 inx, .slice ba bn bk, .slice pa pn pk, .bool ed, .int .u64 tm, .int .i64 rto, .int .i64 tr, .int .i64 er] ∧ Mem W W [] R ∧ (∀ x ∈ X, x ∈ R) ∧ ∃ f : Bool, (∀ w' L', Mem W w' L' R → Calls Try.prog 21 #[.agg #[.int .i64 st, .int .i64 lo, .int .u32 ip, .int .i64 po, .int .u32 iss, .int .u32 una, .int .u32 nx, .slice da dn dk, .int .i64 wnd, .bool en, .bool se, .int .u32 inx, .slice ba bn bk, .slice pa pn pk, .bool ed, .int .u64 tm, .int .i64 rto, .int .i64 tr, .int .i64 er]] w' fun e w2 => e = .returned (.bool f) ∧ New w' w2) ∧ (f = true → ∃ c : Bool, (∀ w' L', Mem W w' L' R → Calls Try.prog 22 #[.agg #[.int .i64 st, .int .i64 lo, .int .u32 ip, .int .i64 po, .int .u32 iss, .int .u32 una, .int .u32 nx, .slice da dn dk, .int .i64 wnd, .bool en, .bool se, .int .u32 inx, .slice ba bn bk, .slice pa pn pk, .bool ed, .int .u64 tm, .int .i64 rto, .int .i64 tr, .int .i64 er]] w' fun e w2 => e = .returned (.bool c) ∧ New w' w2) ∧ (c = true → ∃ t : T, chkT t = true ∧ InC R t da dn dk ba bn bk pa pn pk l ∧ st = (t.st : Nat) ∧ lo = (t.lo : Nat) ∧ ip = t.ip ∧ po = (t.po : Nat) ∧ iss = t.iss ∧ una = t.una ∧ nx = t.nx ∧ D = t.data ∧ wnd = (t.wnd : Nat) ∧ en = t.en ∧ se = t.se ∧ inx = t.inn.next ∧ ed = t.ed ∧ tm = t.tm ∧ rto = (t.rto : Nat) ∧ tr = (t.tr : Nat) ∧ er = (t.er : Nat))) := by
 obtain ⟨rfl, ⟨u1, u2, u3, u4, u5, u6⟩, _, ⟨hd, _⟩, hnx, hb, hgb, hp, hl⟩ := hT
 obtain ⟨da, dn, dk, rfl, hdn, _⟩ := id hd
 obtain ⟨ba, bn, bk, rfl, _⟩ := id hb
 obtain ⟨pa, pn, pk, rfl, _⟩ := id hp
 obtain ⟨R, hR⟩ : ∃ R : LR, R = (1, .slice ba bn bk, cellsB bs) :: (2, .slice pa pn pk, cellsP l) :: (1, .slice da dn dk, cellsB D) :: (X ++ l.map (fun p => (1, p.2.1, cellsB p.2.2))) := ⟨_, rfl⟩
 have hv : Mem W W [] R := Mem.all (fun x hx => by
   subst hR
   rcases List.mem_cons.1 hx with rfl | hx
   · exact hb
   rcases List.mem_cons.1 hx with rfl | hx
   · exact hp
   rcases List.mem_cons.1 hx with rfl | hx
   · exact hd
   rcases List.mem_append.1 hx with hx | hx
   · exact hX x hx
   · obtain ⟨p, hp, rfl⟩ := List.mem_map.1 hx
     exact (hl p hp).2.1)
 have hi : InS R inx (.slice ba bn bk) (.slice pa pn pk) (stOf inx bs l) l := by
   subst hR
   exact ⟨Mem.z, Mem.s Mem.z, fun p hp => Mem.s (Mem.s (Mem.s (List.mem_append_right _ (List.mem_map.2 ⟨p, hp, rfl⟩)))), rfl⟩
 have hdm : (1, Value.slice da dn dk, cellsB D) ∈ R := by subst hR; exact Mem.s (Mem.s Mem.z)
 refine ⟨da, ba, pa, dn, dk, bn, bk, pn, pk, R, rfl, hv, fun x hx => by subst hR; exact Mem.s (Mem.s (Mem.s (List.mem_append_left _ hx))), _, fun w' L' hm => RFew_any hm hi, fun hf => ?_⟩
 have hf2 : fewB (stOf inx bs l).bytes l = true := by
   rw [Bool.and_eq_true] at hf
   exact hf.2
 have hDl : D.length = dn := len_rd1 hd
 obtain ⟨c, hc, ht⟩ := RCheck_T (st := st) (lo := lo) (po := po) (wnd := wnd) (rto := rto) (tr := tr) (er := er) (ip := ip) (iss := iss) (tm := tm) (en := en) (se := se) (ed := ed) (da := da) (dk := dk) hi hf2 hnx (fun p hp => (hl p hp).1) u4 u3 hDl
 refine ⟨c, fun w' L' hm => hc W w' L' hm, fun h => ?_⟩
 obtain ⟨t, e0, e1, e2, e3, e4, e5, e6, e7, e8, e9, ea, eb, ec, ed', ee, ef, eg, eh⟩ := ht h
 have hinx : inx = t.inn.next := by rw [← ec]; rfl
 refine ⟨t, e0, ⟨by rw [← e8]; exact hdm, by rw [← ec]; exact hi, (chkT_facts e0).2.2.2.2.2.2.2.2.2.2.2.2.2.1, ⟨by rw [← e6]; exact u3, by rw [← e7]; exact u4, by rw [← e5]; exact u2, by rw [← hinx]; exact hnx, by rw [← e3]; exact u1⟩⟩, e1, e2, e3, e4, e5, e6, e7, e8, e9, ea, eb, hinx, ed', ee, ef, eg, eh⟩
end Go.Proofs.Ythenepdbgeafkaa
