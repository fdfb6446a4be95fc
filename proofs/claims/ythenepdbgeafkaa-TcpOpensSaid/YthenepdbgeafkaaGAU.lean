import Derived.Test.YthenepdbgeafkaaGAT
import Derived.Test.YthenepdbgeafkaaGAB
import Derived.Test.YthenepdbgeafkaaGAL
import Derived.Test.YthenepdbgeafkaaGAC
set_option linter.unusedSimpArgs false
set_option linter.unusedVariables false
set_option maxRecDepth 100000
set_option maxHeartbeats 16000000
section
/-
 Connections (layer 26): Write, Read.
-/
namespace Go
section
variable {P : Program} {fn : Func} {R : Ending → World → Prop} {a : Act} {w : World}
theorem ret_cttt_ {p t1 t2 t3 : Tmp} {ty : TypeId} {ad : Addr} {v v1 v2 v3 : Value} (h : fn.results = #[.cell p ty, .tmp t1, .tmp t2, .tmp t3]) (hp : a.tmps.getD p undef = .pointer (some ad)) (hl : (loadVar ty ad).run P w = .ok v w)
   (h1 : a.tmps.getD t1 undef = v1) (h2 : a.tmps.getD t2 undef = v2) (h3 : a.tmps.getD t3 undef = v3) (hd : a.defers = []) (hR : R (.returned (.tuple #[v, v1, v2, v3])) w) : bodyPost P fn R .ret a w :=
 bodyPost_ret (v := .tuple #[v, v1, v2, v3]) (by have q1 : a.tmps[p]?.getD undef = .pointer (some ad) := by simpa using hp
                                                 have q3 : a.tmps[t1]?.getD undef = v1 := by simpa using h1
                                                 have q4 : a.tmps[t2]?.getD undef = v2 := by simpa using h2
                                                 have q5 : a.tmps[t3]?.getD undef = v3 := by simpa using h3
                                                 simp [results, h, q1, asAddr, hl, q3, q4, q5]) hd hR
end
end Go
namespace Go.Proofs.Tp
open Go Go.RowKit Go.Proofs.Wi
theorem app3 (a b c : Value) : #[a] ++ #[b, c] = #[a, b, c] := by simp
theorem perm_w {α : Type} (A : List α) (a x b : α) (L : List α) : (A ++ a :: x :: b :: L).Perm (a :: b :: (A ++ x :: L)) :=
 (List.perm_middle).trans (List.Perm.cons _ (permA1 A x b L))
def ReadV (R0 : LR) (s : St) (nx : Nat) (pv : Value) (l : List PcV) (k : Nat) (v : Value) (R' : LR) : Prop :=
 ∃ ba bn bk ga gn gk, v = .tuple #[.agg #[.int .u32 nx, .slice ba bn bk, pv], .slice ga gn gk] ∧ InS R' nx (.slice ba bn bk) pv ⟨s.next, s.bytes.drop k, s.ps⟩ l ∧ (1, Value.slice ga gn gk, cellsB (s.bytes.take k)) ∈ R' ∧ ∀ x ∈ R0, x ∈ R'
def ReadP (w0 : World) (bc bn9 bg9 : Nat) (n : Int) (L : LV) (R : LR) (nw : Nat) (t : T) (e : Ending) (w' : World) : Prop :=
 ∃ ga gn gk R', e = .returned (.tuple #[]) ∧ (1, Value.slice ga gn gk, cellsB (read n t).2) ∈ R' ++ R ∧ CM w0 w' bc ((bn9, #[.int .i64 n]) :: (bg9, #[.slice ga gn gk]) :: L) (R' ++ R) nw (read n t).1
def RTR (w0 : World) (L : LV) (R : LR) (c : C) (got : List Nat) (e : Ending) (w' : World) : Prop :=
 ∃ R' vt ga gn gk ov, e = .returned (.tuple #[vt, .slice ga gn gk, ov]) ∧ (1, Value.slice ga gn gk, cellsB got) ∈ R' ++ R ∧ RT w0 w' L (R' ++ R) c vt ov
theorem clamp_eq (n : Int) (m : Nat) : clampT n m = clampN n m := rfl
end Go.Proofs.Tp
namespace Go.Proofs.Ythenepdbgeafkaa
open Go.Proofs.Wi Go.RowKit Go.Proofs Go.Proofs.Tp
def KWr (nw : Nat) (t : T) (b : List Nat) (n : Nat) (LL : LV) (c' : C) (L' : LV) (_ : LR) : Prop := c' = flush nw ⟨{ t with data := t.data ++ b.take n }, []⟩ ∧ L' = LL
theorem write_do {w0 : World} {R : LR} {t : T} {nw b10 b4 n xn xk : Nat} {x6 x3 : Nat × Array Value} {L : LV} {b : List Nat} {xa : Option Addr} (hb : (1, .slice xa xn xk, cellsB b) ∈ R) (hn : n ≤ b.length) (hbl : b.length ≤ 1000) (hq : 0 ≤ own t ∧ own t ≤ t.data.length ∧ 0 ≤ flight t) (hd : t.data.length + n ≤ 256) (hw : t.wnd ≤ 65535) (hr : t.rto ≤ 64) (w1 : World) (bc : Nat) (A : LV)
   (hc : CM w0 w1 bc (A ++ ((b10, #[.int .i64 n]) :: x6 :: (b4, #[.slice xa xn xk]) :: x3 :: L)) R nw ⟨t, []⟩) :
   Calls Try.prog 26 (#[.pointer (some ⟨bc, 0, none⟩)] ++ #[.pointer (some ⟨b4, 0, none⟩), .pointer (some ⟨b10, 0, none⟩)]) w1 (DoP (KWr nw t b n ((b10, #[.int .i64 n]) :: x6 :: (b4, #[.slice xa xn xk]) :: x3 :: L)) w0 bc A R nw) := by
 rw [app3]
 refine (write_C (bn9 := b10) (bb9 := b4) (n := n) (hc.perm (perm_w A _ _ _ _)) hb hn hbl hq hd hw hr (by decide)).mono ?_
 intro e w' h
 obtain ⟨R', h1, h2⟩ := h.perm (perm_w A _ _ _ _).symm
 exact ⟨_, _, R', h1, ⟨rfl, rfl⟩, h2⟩
theorem Write_T {w0 w : World} {L : LV} {R : LR} (hv : Mem w0 w L R) {t : T} {da ba pa : Option Addr} {dn dk bn bk pn pk : Nat} {l : List PcV} (hI : InC R t da dn dk ba bn bk pa pn pk l) (hck : chkT t = true) {nw : Nat} {b : List Nat} {xa : Option Addr} {xn xk : Nat} (hb : (1, .slice xa xn xk, cellsB b) ∈ R) (hbl : b.length ≤ 1000) (hs : t.st = 3 ∨ t.st = 6) {n : Nat} (hn : min b.length (256 - t.data.length) = n) : Calls Try.prog 11 #[.agg #[.int .i64 t.st, .int .i64 t.lo, .int .u32 t.ip, .int .i64 t.po, .int .u32 t.iss, .int .u32 t.una, .int .u32 t.nx, .slice da dn dk, .int .i64 t.wnd, .bool t.en, .bool t.se, .int .u32 t.inn.next, .slice ba bn bk, .slice pa pn pk, .bool t.ed, .int .u64 t.tm, .int .i64 t.rto, .int .i64 t.tr, .int .i64 t.er], .slice xa xn xk, .int .u64 nw] w (RTW w0 L R (write b nw t) n 0) := by
 have hf := chkT_facts hck
 have hdn : t.data.length = dn := len_rd1 (hv.rd hI.d)
 have hxn : b.length = xn := len_rd1 (hv.rd hb)
 have hdl := hf.2.2.2.2.2.1
 obtain ⟨d, hd⟩ : ∃ d : Nat, 256 - dn = d := ⟨_, rfl⟩
 have q1 : IntKind.i64.wrap (256 - (dn : Int)) = (d : Int) := by rw [IntWalk.i64_in _ (by omega)]; omega
 have q2 : min (xn : Int) (d : Int) = (n : Int) := by omega
 have q3 : min xn d = n := by omega
 have hW : write b nw t = (flush nw ⟨{ t with data := t.data ++ b.take n }, []⟩) := by unfold write; rw [hn]
 rw [hW]
 have HB := Lib.hid hb
 have HBL := Lib.hid hbl
 have HN1 : Hid (n ≤ b.length) := Lib.hid (by omega)
 have HDN : Hid (t.data.length + n ≤ 256) := Lib.hid (by omega)
 have HQ := Lib.hid (chkT_own hck (by omega) (by omega) (by omega))
 have HWD := Lib.hid hf.2.2.2.2.2.2.1
 have HRT := Lib.hid hf.2.2.2.2.2.2.2.2.2.2.1
 have hst : ((t.st : Int) != 3) = false ∧ t.st = 3 ∨ ((t.st : Int) != 3) = true ∧ ((t.st : Int) != 6) = false := by
   rcases hs with h | h
   · exact .inl ⟨by rw [h]; rfl, h⟩
   · exact .inr ⟨by rw [h]; rfl, by rw [h]; rfl⟩
 have HI := Lib.hid hI
 have HCK := Lib.hid hck
 clear hI hck
 clear hf hdn hxn hdl hd hW hb hbl hn hs
 rcases hst with ⟨y3, hq⟩ | ⟨y3, y6⟩
 · clear hq
   go_enter Try.func11, Try.ntmps11
   go_wp2_with (first
     | ((with_reducible refine gBx 31 3 ?_); refine nwB hv #[.int .i64 t.st, .int .i64 t.lo, .int .u32 t.ip, .int .i64 t.po, .int .u32 t.iss, .int .u32 t.una, .int .u32 t.nx, .slice da dn dk, .int .i64 t.wnd, .bool t.en, .bool t.se, .int .u32 t.inn.next, .slice ba bn bk, .slice pa pn pk, .bool t.ed, .int .u64 t.tm, .int .i64 t.rto, .int .i64 t.tr, .int .i64 t.er] 31 ?_; clear hv; intro b_3 w2 hv)
     | ((with_reducible refine gBx 23 4 ?_); refine nwB hv #[.slice xa xn xk] 23 ?_; clear hv; intro b_4 w2 hv)
     | ((with_reducible refine gAl 31 6 ?_); refine nwB hv #[.int .i64 0, .int .i64 0, .int .u32 0, .int .i64 0, .int .u32 0, .int .u32 0, .int .u32 0, .slice none 0 0, .int .i64 0, .bool false, .bool false, .int .u32 0, .slice none 0 0, .slice none 0 0, .bool false, .int .u64 0, .int .i64 0, .int .i64 0, .int .i64 0] 31 ?_; clear hv; intro b_6 w2 hv)
     | ((with_reducible refine gAl 3 10 ?_); refine nwB hv #[.int .i64 0] 3 ?_; clear hv; intro b_10 w2 hv)
     | ((with_reducible refine gLd 31 ?_); refine ldV hv b_3 19 Try.underlying31 infoT19 ?_)
     | (go_at_call 17; (with_reducible refine (Check_ok hv HI.out HCK.out).mono ?_); rintro e w1 ⟨rfl, hn1⟩; replace hv := hv.new hn1; clear hn1)
     | ((with_reducible refine gLd 3 ?_); refine ldC hv b_3 0 (.int .i64 t.st) Try.underlying3 ?_)
     | ((with_reducible refine gLd 23 ?_); refine ldC hv b_4 0 (.slice xa xn xk) Try.underlying23 ?_)
     | ((with_reducible refine gLd 23 ?_); refine ldC hv b_3 7 (.slice da dn dk) Try.underlying23 ?_)
     | ((with_reducible refine gSt 3 ?_); refine stC hv b_10 0 (.int .i64 n) ?_; clear hv; intro w2 hv)
     | (go_at_call 25; (refine (done_C (K := (KWr nw t b n ((b_10, #[.int .i64 n]) :: (b_6, #[.int .i64 0, .int .i64 0, .int .u32 0, .int .i64 0, .int .u32 0, .int .u32 0, .int .u32 0, .slice none 0 0, .int .i64 0, .bool false, .bool false, .int .u32 0, .slice none 0 0, .slice none 0 0, .bool false, .int .u64 0, .int .i64 0, .int .i64 0, .int .i64 0]) :: (b_4, #[.slice xa xn xk]) :: (b_3, #[.int .i64 t.st, .int .i64 t.lo, .int .u32 t.ip, .int .i64 t.po, .int .u32 t.iss, .int .u32 t.una, .int .u32 t.nx, .slice da dn dk, .int .i64 t.wnd, .bool t.en, .bool t.se, .int .u32 t.inn.next, .slice ba bn bk, .slice pa pn pk, .bool t.ed, .int .u64 t.tm, .int .i64 t.rto, .int .i64 t.tr, .int .i64 t.er]) :: L))) hv HI.out HCK.out (nw := nw) (f := 26) (cap := #[.pointer (some ⟨b_4, 0, none⟩), .pointer (some ⟨b_10, 0, none⟩)]) (Go.Proofs.enters_of Try.func26 (by kernel_rfl) rfl) (write_do (b10 := b_10) (b4 := b_4) (x6 := (b_6, #[.int .i64 0, .int .i64 0, .int .u32 0, .int .i64 0, .int .u32 0, .int .u32 0, .int .u32 0, .slice none 0 0, .int .i64 0, .bool false, .bool false, .int .u32 0, .slice none 0 0, .slice none 0 0, .bool false, .int .u64 0, .int .i64 0, .int .i64 0, .int .i64 0])) (x3 := (b_3, #[.int .i64 t.st, .int .i64 t.lo, .int .u32 t.ip, .int .i64 t.po, .int .u32 t.iss, .int .u32 t.una, .int .u32 t.nx, .slice da dn dk, .int .i64 t.wnd, .bool t.en, .bool t.se, .int .u32 t.inn.next, .slice ba bn bk, .slice pa pn pk, .bool t.ed, .int .u64 t.tm, .int .i64 t.rto, .int .i64 t.tr, .int .i64 t.er])) (L := L) HB.out HN1.out HBL.out HQ.out HDN.out HWD.out HRT.out)).mono ?_); rintro e w1 ⟨c1, L1, R1, vt, ov1, rfl, ⟨rfl, rfl⟩, hr1⟩; obtain ⟨da1, dn1, dk1, ba1, bn1, bk1, pa1, pn1, pk1, l1, gs1, O1, rfl, hv1, hI1, hO1⟩ := hr1; clear hv; have hv := hv1; clear hv1; have HI1 := Lib.hid hI1; have HO1 := Lib.hid hO1; clear hI1 hO1; have hv2 : Mem w0 _ ([(b_10, #[.int .i64 n]), (b_6, #[.int .i64 0, .int .i64 0, .int .u32 0, .int .i64 0, .int .u32 0, .int .u32 0, .int .u32 0, .slice none 0 0, .int .i64 0, .bool false, .bool false, .int .u32 0, .slice none 0 0, .slice none 0 0, .bool false, .int .u64 0, .int .i64 0, .int .i64 0, .int .i64 0]), (b_4, #[.slice xa xn xk]), (b_3, #[.int .i64 t.st, .int .i64 t.lo, .int .u32 t.ip, .int .i64 t.po, .int .u32 t.iss, .int .u32 t.una, .int .u32 t.nx, .slice da dn dk, .int .i64 t.wnd, .bool t.en, .bool t.se, .int .u32 t.inn.next, .slice ba bn bk, .slice pa pn pk, .bool t.ed, .int .u64 t.tm, .int .i64 t.rto, .int .i64 t.tr, .int .i64 t.er])] ++ (O1 ++ L)) _ := hv.perm (perm_out O1 [(b_10, #[.int .i64 n]), (b_6, #[.int .i64 0, .int .i64 0, .int .u32 0, .int .i64 0, .int .u32 0, .int .u32 0, .int .u32 0, .slice none 0 0, .int .i64 0, .bool false, .bool false, .int .u32 0, .slice none 0 0, .slice none 0 0, .bool false, .int .u64 0, .int .i64 0, .int .i64 0, .int .i64 0]), (b_4, #[.slice xa xn xk]), (b_3, #[.int .i64 t.st, .int .i64 t.lo, .int .u32 t.ip, .int .i64 t.po, .int .u32 t.iss, .int .u32 t.una, .int .u32 t.nx, .slice da dn dk, .int .i64 t.wnd, .bool t.en, .bool t.se, .int .u32 t.inn.next, .slice ba bn bk, .slice pa pn pk, .bool t.ed, .int .u64 t.tm, .int .i64 t.rto, .int .i64 t.tr, .int .i64 t.er])] L); clear hv; have hv := hv2; clear hv2; simp only [List.cons_append, List.nil_append] at hv)
     | ((with_reducible refine gSt 31 ?_); refine stV hv b_3 19 infoT19 ?_ (h1 := (rowT_one _ _ _ _ _ _ _ _ _ _)); clear hv; intro w2 hv))
   try simp only [Act.put, sia, scs, scz]
   refine Any.wr4 7 [(0, [1003], none), (1, [1000], none), (3, [1001], some 1001)] [(3, .put)] hv ?_
   simp only [Any.someVals]
   iterate 7 apply Exists.intro
   repeat ((first
    | refine Any.E_off rfl ?_
    | ((with_reducible refine Any.gE 31 ?_); refine Any.eW 1003 19 Try.underlying31 infoT19 ?_)
    | ((with_reducible refine Any.gE 3 ?_); refine Any.eC 1000 (.int .i64 n) Try.underlying3 ?_)
    | refine Any.eV ?_
    | ((with_reducible refine Any.at_estore (T := 31) ?_); refine Any.E_putv (T := 31) rfl rfl rfl rfl rfl rfl 19 infoT19 rfl rfl (rowT_one _ _ _ _ _ _ _ _ _ _) ?_)); simp only [Act.put, sia, scs, scz])
   try any_goals exact undef
   refine Any.fin4 hv [1000, 1001, 1002, 1003] ?_; clear hv; intro w9 hv
   go_wp2
   try simp only [Exit.inBlock, Exit.then]
   refine ret_cttt_ (v := .agg (rowT (flush nw ⟨{ t with data := t.data ++ b.take n }, []⟩).t (.slice da1 dn1 dk1) (.slice ba1 bn1 bk1) (.slice pa1 pn1 pk1))) (v1 := .int .i64 n) (v2 := ov1) (v3 := .int .i64 0) rfl rfl (read_row _ b_6 31 _ (hv.vars.ro (b := b_6)) 19 _ Try.underlying31 rfl infoT19 (by decide) rfl) rfl rfl rfl rfl ?_
   exact ⟨R1, _, ov1, rfl, _, _, _, _, _, _, _, _, _, _, _, _, rfl, hv.drop.drop.drop.drop, HI1.out, HO1.out⟩
 · go_enter Try.func11, Try.ntmps11
   go_wp2_with (first
     | ((with_reducible refine gBx 31 3 ?_); refine nwB hv #[.int .i64 t.st, .int .i64 t.lo, .int .u32 t.ip, .int .i64 t.po, .int .u32 t.iss, .int .u32 t.una, .int .u32 t.nx, .slice da dn dk, .int .i64 t.wnd, .bool t.en, .bool t.se, .int .u32 t.inn.next, .slice ba bn bk, .slice pa pn pk, .bool t.ed, .int .u64 t.tm, .int .i64 t.rto, .int .i64 t.tr, .int .i64 t.er] 31 ?_; clear hv; intro b_3 w2 hv)
     | ((with_reducible refine gBx 23 4 ?_); refine nwB hv #[.slice xa xn xk] 23 ?_; clear hv; intro b_4 w2 hv)
     | ((with_reducible refine gAl 31 6 ?_); refine nwB hv #[.int .i64 0, .int .i64 0, .int .u32 0, .int .i64 0, .int .u32 0, .int .u32 0, .int .u32 0, .slice none 0 0, .int .i64 0, .bool false, .bool false, .int .u32 0, .slice none 0 0, .slice none 0 0, .bool false, .int .u64 0, .int .i64 0, .int .i64 0, .int .i64 0] 31 ?_; clear hv; intro b_6 w2 hv)
     | ((with_reducible refine gAl 3 10 ?_); refine nwB hv #[.int .i64 0] 3 ?_; clear hv; intro b_10 w2 hv)
     | ((with_reducible refine gLd 31 ?_); refine ldV hv b_3 19 Try.underlying31 infoT19 ?_)
     | (go_at_call 17; (with_reducible refine (Check_ok hv HI.out HCK.out).mono ?_); rintro e w1 ⟨rfl, hn1⟩; replace hv := hv.new hn1; clear hn1)
     | ((with_reducible refine gLd 3 ?_); refine ldC hv b_3 0 (.int .i64 t.st) Try.underlying3 ?_)
     | ((with_reducible refine gLd 23 ?_); refine ldC hv b_4 0 (.slice xa xn xk) Try.underlying23 ?_)
     | ((with_reducible refine gLd 23 ?_); refine ldC hv b_3 7 (.slice da dn dk) Try.underlying23 ?_)
     | ((with_reducible refine gSt 3 ?_); refine stC hv b_10 0 (.int .i64 n) ?_; clear hv; intro w2 hv)
     | (go_at_call 25; (refine (done_C (K := (KWr nw t b n ((b_10, #[.int .i64 n]) :: (b_6, #[.int .i64 0, .int .i64 0, .int .u32 0, .int .i64 0, .int .u32 0, .int .u32 0, .int .u32 0, .slice none 0 0, .int .i64 0, .bool false, .bool false, .int .u32 0, .slice none 0 0, .slice none 0 0, .bool false, .int .u64 0, .int .i64 0, .int .i64 0, .int .i64 0]) :: (b_4, #[.slice xa xn xk]) :: (b_3, #[.int .i64 t.st, .int .i64 t.lo, .int .u32 t.ip, .int .i64 t.po, .int .u32 t.iss, .int .u32 t.una, .int .u32 t.nx, .slice da dn dk, .int .i64 t.wnd, .bool t.en, .bool t.se, .int .u32 t.inn.next, .slice ba bn bk, .slice pa pn pk, .bool t.ed, .int .u64 t.tm, .int .i64 t.rto, .int .i64 t.tr, .int .i64 t.er]) :: L))) hv HI.out HCK.out (nw := nw) (f := 26) (cap := #[.pointer (some ⟨b_4, 0, none⟩), .pointer (some ⟨b_10, 0, none⟩)]) (Go.Proofs.enters_of Try.func26 (by kernel_rfl) rfl) (write_do (b10 := b_10) (b4 := b_4) (x6 := (b_6, #[.int .i64 0, .int .i64 0, .int .u32 0, .int .i64 0, .int .u32 0, .int .u32 0, .int .u32 0, .slice none 0 0, .int .i64 0, .bool false, .bool false, .int .u32 0, .slice none 0 0, .slice none 0 0, .bool false, .int .u64 0, .int .i64 0, .int .i64 0, .int .i64 0])) (x3 := (b_3, #[.int .i64 t.st, .int .i64 t.lo, .int .u32 t.ip, .int .i64 t.po, .int .u32 t.iss, .int .u32 t.una, .int .u32 t.nx, .slice da dn dk, .int .i64 t.wnd, .bool t.en, .bool t.se, .int .u32 t.inn.next, .slice ba bn bk, .slice pa pn pk, .bool t.ed, .int .u64 t.tm, .int .i64 t.rto, .int .i64 t.tr, .int .i64 t.er])) (L := L) HB.out HN1.out HBL.out HQ.out HDN.out HWD.out HRT.out)).mono ?_); rintro e w1 ⟨c1, L1, R1, vt, ov1, rfl, ⟨rfl, rfl⟩, hr1⟩; obtain ⟨da1, dn1, dk1, ba1, bn1, bk1, pa1, pn1, pk1, l1, gs1, O1, rfl, hv1, hI1, hO1⟩ := hr1; clear hv; have hv := hv1; clear hv1; have HI1 := Lib.hid hI1; have HO1 := Lib.hid hO1; clear hI1 hO1; have hv2 : Mem w0 _ ([(b_10, #[.int .i64 n]), (b_6, #[.int .i64 0, .int .i64 0, .int .u32 0, .int .i64 0, .int .u32 0, .int .u32 0, .int .u32 0, .slice none 0 0, .int .i64 0, .bool false, .bool false, .int .u32 0, .slice none 0 0, .slice none 0 0, .bool false, .int .u64 0, .int .i64 0, .int .i64 0, .int .i64 0]), (b_4, #[.slice xa xn xk]), (b_3, #[.int .i64 t.st, .int .i64 t.lo, .int .u32 t.ip, .int .i64 t.po, .int .u32 t.iss, .int .u32 t.una, .int .u32 t.nx, .slice da dn dk, .int .i64 t.wnd, .bool t.en, .bool t.se, .int .u32 t.inn.next, .slice ba bn bk, .slice pa pn pk, .bool t.ed, .int .u64 t.tm, .int .i64 t.rto, .int .i64 t.tr, .int .i64 t.er])] ++ (O1 ++ L)) _ := hv.perm (perm_out O1 [(b_10, #[.int .i64 n]), (b_6, #[.int .i64 0, .int .i64 0, .int .u32 0, .int .i64 0, .int .u32 0, .int .u32 0, .int .u32 0, .slice none 0 0, .int .i64 0, .bool false, .bool false, .int .u32 0, .slice none 0 0, .slice none 0 0, .bool false, .int .u64 0, .int .i64 0, .int .i64 0, .int .i64 0]), (b_4, #[.slice xa xn xk]), (b_3, #[.int .i64 t.st, .int .i64 t.lo, .int .u32 t.ip, .int .i64 t.po, .int .u32 t.iss, .int .u32 t.una, .int .u32 t.nx, .slice da dn dk, .int .i64 t.wnd, .bool t.en, .bool t.se, .int .u32 t.inn.next, .slice ba bn bk, .slice pa pn pk, .bool t.ed, .int .u64 t.tm, .int .i64 t.rto, .int .i64 t.tr, .int .i64 t.er])] L); clear hv; have hv := hv2; clear hv2; simp only [List.cons_append, List.nil_append] at hv)
     | ((with_reducible refine gSt 31 ?_); refine stV hv b_3 19 infoT19 ?_ (h1 := (rowT_one _ _ _ _ _ _ _ _ _ _)); clear hv; intro w2 hv))
   try simp only [Act.put, sia, scs, scz]
   refine Any.wr4 7 [(0, [1003], none), (1, [1000], none), (3, [1001], some 1001)] [(3, .put)] hv ?_
   simp only [Any.someVals]
   iterate 7 apply Exists.intro
   repeat ((first
    | refine Any.E_off rfl ?_
    | ((with_reducible refine Any.gE 31 ?_); refine Any.eW 1003 19 Try.underlying31 infoT19 ?_)
    | ((with_reducible refine Any.gE 3 ?_); refine Any.eC 1000 (.int .i64 n) Try.underlying3 ?_)
    | refine Any.eV ?_
    | ((with_reducible refine Any.at_estore (T := 31) ?_); refine Any.E_putv (T := 31) rfl rfl rfl rfl rfl rfl 19 infoT19 rfl rfl (rowT_one _ _ _ _ _ _ _ _ _ _) ?_)); simp only [Act.put, sia, scs, scz])
   try any_goals exact undef
   refine Any.fin4 hv [1000, 1001, 1002, 1003] ?_; clear hv; intro w9 hv
   go_wp2
   try simp only [Exit.inBlock, Exit.then]
   refine ret_cttt_ (v := .agg (rowT (flush nw ⟨{ t with data := t.data ++ b.take n }, []⟩).t (.slice da1 dn1 dk1) (.slice ba1 bn1 bk1) (.slice pa1 pn1 pk1))) (v1 := .int .i64 n) (v2 := ov1) (v3 := .int .i64 0) rfl rfl (read_row _ b_6 31 _ (hv.vars.ro (b := b_6)) 19 _ Try.underlying31 rfl infoT19 (by decide) rfl) rfl rfl rfl rfl ?_
   exact ⟨R1, _, ov1, rfl, _, _, _, _, _, _, _, _, _, _, _, _, rfl, hv.drop.drop.drop.drop, HI1.out, HO1.out⟩
end Go.Proofs.Ythenepdbgeafkaa
end

section
/-
 Connections (layer 26): Read.
-/
namespace Go.Proofs.Tp
open Go Go.RowKit Go.Proofs.Wi
theorem splice21 (a0 a1 a2 a3 a4 a5 a6 a7 a8 a9 a10 a11 a12 a13 a14 a15 a16 a17 a18 a19 a20 v0 v1 v2 : Value) : splice #[a0, a1, a2, a3, a4, a5, a6, a7, a8, a9, a10, a11, a12, a13, a14, a15, a16, a17, a18, a19, a20] 11 #[v0, v1, v2] = #[a0, a1, a2, a3, a4, a5, a6, a7, a8, a9, a10, v0, v1, v2, a14, a15, a16, a17, a18, a19, a20] := by simp [splice]
end Go.Proofs.Tp
namespace Go.Proofs.Ythenepdbgeafkaa
open Go.Proofs.Wi Go.RowKit Go.Proofs Go.Proofs.Tp
variable {w0 w : World} {L : LV} {R : LR} {t : T} {da ba pa : Option Addr} {dn dk bn bk pn pk : Nat} {l : List PcV}
theorem Read_V {R0 : LR} (hv : Mem w0 w L R) (hs : ∀ x ∈ R0, x ∈ R) (hI : InC R0 t da dn dk ba bn bk pa pn pk l) (n : Int) {k : Nat} (hk : clampN n t.inn.bytes.length = k) : Calls Try.prog 37 #[.agg #[.int .u32 t.inn.next, .slice ba bn bk, .slice pa pn pk], .int .i64 n] w fun e w' => ∃ v R', e = .returned v ∧ ReadV R0 t.inn t.inn.next (.slice pa pn pk) l k v R' ∧ Mem w0 w' L R' ∧ ∀ x ∈ R, x ∈ R' := by
 subst hk
 refine (Read_S hv (hI.s.mono hs) hI.ck n).mono ?_
 rintro e w' ⟨ba', bn', bk', ga, gn, gk, R', rfl, h1, h2, h3⟩
 exact ⟨_, _, rfl, ⟨ba', bn', bk', ga, gn, gk, rfl, h2, h3, fun x hx => mem_app R' (hs x hx)⟩, h1, fun x hx => mem_app R' hx⟩
theorem _root_.Go.Proofs.Tp.InC.rd (h : InC R t da dn dk ba bn bk pa pn pk l) {R2 : LR} (hs : ∀ x ∈ R, x ∈ R2) {ba2 : Option Addr} {bn2 bk2 k : Nat} (h2 : InS R2 t.inn.next (.slice ba2 bn2 bk2) (.slice pa pn pk) ⟨t.inn.next, t.inn.bytes.drop k, t.inn.ps⟩ l) (hck : chk ⟨t.inn.next, t.inn.bytes.drop k, t.inn.ps⟩ = true) :
   InC R2 { t with inn := ⟨t.inn.next, t.inn.bytes.drop k, t.inn.ps⟩ } da dn dk ba2 bn2 bk2 pa pn pk l := ⟨hs _ h.d, h2, hck, ⟨h.u.una, h.u.nx, h.u.iss, h.u.inn, h.u.ip⟩⟩
theorem ReadP.of {w0 w' : World} {bc bn9 bg9 nw : Nat} {n : Int} {R R' R2 : LR} {ga : Option Addr} {gn gk : Nat} (h1 : (1, Value.slice ga gn gk, cellsB (Tp.read n t).2) ∈ R' ++ R2) (h2 : CM w0 w' bc ((bn9, #[.int .i64 n]) :: (bg9, #[.slice ga gn gk]) :: L) (R' ++ R2) nw (Tp.read n t).1) (hs : ∀ x ∈ R, x ∈ R2) : ReadP w0 bc bn9 bg9 n L R nw t (.returned (.tuple #[])) w' := by
 obtain ⟨da, dn, dk, ba, bn, bk, pa, pn, pk, l, ov, gs, O, hv, hI, hO⟩ := h2
 have hx : ∀ x ∈ (R' ++ R2) ++ R, x ∈ R' ++ R2 := fun x hx => by
   rcases List.mem_append.1 hx with h | h
   · exact h
   · exact List.mem_append_right _ (hs x h)
 have hy : ∀ x ∈ R' ++ R2, x ∈ (R' ++ R2) ++ R := fun x hx => List.mem_append_left _ hx
 exact ⟨ga, gn, gk, R' ++ R2, rfl, hy _ h1, da, dn, dk, ba, bn, bk, pa, pn, pk, l, ov, gs, O, hv.keepR hx, hI.mono hy, hO.mono hy⟩
theorem read_C {bc nw bn9 bg9 : Nat} {n : Int} (hc : CM w0 w bc ((bn9, #[.int .i64 n]) :: (bg9, #[.slice none 0 0]) :: L) R nw ⟨t, []⟩) (hck : chkT t = true) : Calls Try.prog 35 #[.pointer (some ⟨bc, 0, none⟩), .pointer (some ⟨bn9, 0, none⟩), .pointer (some ⟨bg9, 0, none⟩)] w (ReadP w0 bc bn9 bg9 n L R nw t) := by
 obtain ⟨da, dn, dk, ba, bn, bk, pa, pn, pk, l, ov, gs, O, hv0, hI, hO⟩ := hc
 have hv : Mem w0 w ((bn9, #[.int .i64 n]) :: (bg9, #[.slice none 0 0]) :: (bc, #[.int .i64 t.st, .int .i64 t.lo, .int .u32 t.ip, .int .i64 t.po, .int .u32 t.iss, .int .u32 t.una, .int .u32 t.nx, .slice da dn dk, .int .i64 t.wnd, .bool t.en, .bool t.se, .int .u32 t.inn.next, .slice ba bn bk, .slice pa pn pk, .bool t.ed, .int .u64 t.tm, .int .i64 t.rto, .int .i64 t.tr, .int .i64 t.er, .int .u64 nw, ov]) :: (O ++ L)) R := hv0.perm (perm_done _ _ _ _ _)
 obtain ⟨R1, hR1⟩ : ∃ R1, R1 = R := ⟨_, rfl⟩
 rw [← hR1] at hv hI hO
 have HSUB : Hid (∀ x ∈ R, x ∈ R1) := Lib.hid (fun x hx => by rw [hR1]; exact hx)
 have HI := Lib.hid hI
 have HO := Lib.hid hO
 obtain ⟨k, hk⟩ : ∃ k, clampN n t.inn.bytes.length = k := ⟨_, rfl⟩
 have HK := Lib.hid hk
 have hkr := read_kept hck n
 have hrd : Tp.read n t = ((if openS t = true ∧ room t.inn < 64 ∧ 64 ≤ room ⟨t.inn.next, t.inn.bytes.drop k, t.inn.ps⟩ then ackC ⟨{ t with inn := ⟨t.inn.next, t.inn.bytes.drop k, t.inn.ps⟩ }, []⟩ else ⟨{ t with inn := ⟨t.inn.next, t.inn.bytes.drop k, t.inn.ps⟩ }, []⟩), t.inn.bytes.take k) := by
   unfold Tp.read
   rw [clamp_eq, hk]
 have HRD := Lib.hid hrd
 have hck2 : chk ⟨t.inn.next, t.inn.bytes.drop k, t.inn.ps⟩ = true := by
   have := (chkT_facts hkr.chk).2.2.2.2.2.2.2.2.2.2.2.2.2.1
   rw [hrd] at this
   split at this <;> exact this
 have HC2 := Lib.hid hck2
 have HSC : Hid (∃ v R', ReadV R1 t.inn t.inn.next (.slice pa pn pk) l k v R') := Lib.hid (Bny.some_of (Read_V hv (fun x hx => x |> fun _ => hx) hI n hk))
 obtain ⟨r1, hr1⟩ : ∃ r, room t.inn = r := ⟨_, rfl⟩
 obtain ⟨r2, hr2⟩ : ∃ r, room ⟨t.inn.next, t.inn.bytes.drop k, t.inn.ps⟩ = r := ⟨_, rfl⟩
 have HR1 := Lib.hid hr1
 have HR2 := Lib.hid hr2
 clear hv0 hI hO hR1 hck hkr hrd hck2
 by_cases ho : openS t = true
 · have ho2 : (t.st == 3 || t.st == 4 || t.st == 5) = true := ho
   by_cases h1 : r1 < 64
   · by_cases h2 : 64 ≤ r2
     · have HQ : Hid (read n t = (ackC ⟨{ t with inn := ⟨t.inn.next, t.inn.bytes.drop k, t.inn.ps⟩ }, []⟩, t.inn.bytes.take k)) := Lib.hid (by rw [HRD.out, if_pos ⟨ho, by rw [hr1]; exact h1, by rw [hr2]; exact h2⟩])
       clear hk ho
       go_enter Try.func35, Try.ntmps35
       go_wp2_with (first
         | ((with_reducible refine at_load (T := 27) ?_); refine wl_ldp rfl bc 11 rfl _ hv.vars.ro 3 _ Try.underlying27 rfl infoStr (by decide) (by show 11 + 3 ≤ 21; decide) (#[.int .u32 t.inn.next, .slice ba bn bk, .slice pa pn pk]) (ext21s _ _ _ _ _ _ _ _ _ _ _ _ _ _ _ _ _ _ _ _ _) ?_)
         | (go_at_call 36; (with_reducible refine (Room_S hv HI.out.s HI.out.ck).mono ?_); rintro e w1 ⟨rfl, hn1⟩; replace hv := hv.new hn1; clear hn1))
       try simp only [Act.put]
       refine Bny.wr3 16 [(5, [1002], none), (6, [1000], none), (7, [], some 7), (14, [1002], some 1002), (15, [1001], some 1001)] [(7, .mem (ReadV R1 t.inn t.inn.next (.slice pa pn pk) l k)), (8, .pure), (9, .pure), (10, .pure), (11, .pure), (12, .pure), (13, .pure), (14, .put), (15, .put)] hv ?_
       simp only [Any.someVals]
       iterate 16 apply Exists.intro
       repeat ((first
        | refine Bny.E_off rfl ?_
        | ((with_reducible refine Bny.at_estore (T := 27) ?_); refine Bny.E_putp (T := 27) (off := 11) rfl rfl rfl rfl rfl rfl 3 infoStr rfl (by show 11 + 3 ≤ 21; decide) (by simp [Value.oneCell']) (splice21 _ _ _ _ _ _ _ _ _ _ _ _ _ _ _ _ _ _ _ _ _ _ _ _) ?_)
        | ((with_reducible refine Bny.at_estore (T := 23) ?_); refine Bny.E_putc (T := 23) (off := 0) rfl rfl rfl rfl rfl rfl (by kernel_rfl) rfl (by show 0 < 1; decide) ?_)
        | ((with_reducible refine Bny.at_ecallf (f := 37) ?_); refine Bny.E_callmem rfl rfl rfl (Go.Proofs.enters_of Try.func37 (by kernel_rfl) rfl) rfl [.agg #[.int .u32 t.inn.next, .slice ba bn bk, .slice pa pn pk], .int .i64 n] rfl HSC.out R1 (fun x hx => .inl hx) (fun w0 w L R' hm hs => Read_V hm hs HI.out n HK.out) ?_; rintro v R2 ⟨ba2, bn2, bk2, ga, gn, gk, rfl, hi2, hz2, hs2⟩; have HI2 := Lib.hid hi2; have HZ2 := Lib.hid hz2; have HS2 := Lib.hid hs2; clear hi2 hz2 hs2)
        | refine Bny.ePq ?_
        | (apply Bny.E_val rfl rfl rfl rfl
           case h =>
            intro E' hA K hK
            first
             | ((with_reducible refine Bny.at_qload (T := 27) ?_); refine Bny.q_ldp 1002 (o := 11) hA (by decide) rfl rfl 3 _ Try.underlying27 rfl infoStr (by decide) (by show 11 + 3 ≤ 21; decide) #[.int .u32 t.inn.next, .slice ba bn bk, .slice pa pn pk] (ext21s _ _ _ _ _ _ _ _ _ _ _ _ _ _ _ _ _ _ _ _ _) ?_; refine hK _ ?_; rfl)
             | ((with_reducible refine Bny.at_qload (T := 3) ?_); refine Bny.q_ldc 1000 hA (by decide) rfl rfl _ Try.underlying3 rfl (.int .i64 n) rfl ?_; refine hK _ ?_; rfl)
           case hD => rfl)
        | refine Bny.eV ?_); simp only [Act.put, sia, scs, scz])
       try any_goals exact undef
       refine Bny.finr [1000, 1001, 1002] 7 ?_; clear hv; intro w9 hv
       go_wp2_with (first
         | ((with_reducible refine gLd 3 ?_); refine ldC hv bc 0 (.int .i64 t.st) Try.underlying3 ?_)
         | (go_at_call 38; (with_reducible refine (open_any _ _).mono ?_); rintro e w1 ⟨rfl, hn1⟩; replace hv := hv.new hn1; clear hn1)
         | ((with_reducible refine at_load (T := 27) ?_); refine wl_ldp rfl bc 11 rfl _ hv.vars.ro 3 _ Try.underlying27 rfl infoStr (by decide) (by show 11 + 3 ≤ 21; decide) (#[.int .u32 t.inn.next, .slice ba2 bn2 bk2, .slice pa pn pk]) (ext21s _ _ _ _ _ _ _ _ _ _ _ _ _ _ _ _ _ _ _ _ _) ?_)
         | (go_at_call 36; (with_reducible refine (Room_S hv HI2.out HC2.out).mono ?_); rintro e w1 ⟨rfl, hn1⟩; replace hv := hv.new hn1; clear hn1)
         | (go_at_call 39; (refine (ack_C (CM.of (A := [_, _]) (c := ⟨{ t with inn := ⟨t.inn.next, t.inn.bytes.drop k, t.inn.ps⟩ }, []⟩) hv (HI.out.rd HS2.out HI2.out HC2.out) (HO.out.mono HS2.out)) (by decide)).mono ?_); rintro e w1 ⟨R3, rfl, hc1⟩; obtain ⟨da3, dn3, dk3, ba3, bn3, bk3, pa3, pn3, pk3, l3, ov3, gs3, O3, hv1, hI1, hO1⟩ := CM.back (A := [_, _]) hc1; clear hv hc1; have hv : Mem w0 _ ([_, _] ++ (bc, #[.int .i64 t.st, .int .i64 t.lo, .int .u32 t.ip, .int .i64 t.po, .int .u32 t.iss, .int .u32 t.una, .int .u32 t.nx, .slice da3 dn3 dk3, .int .i64 t.wnd, .bool t.en, .bool t.se, .int .u32 t.inn.next, .slice ba3 bn3 bk3, .slice pa3 pn3 pk3, .bool t.ed, .int .u64 t.tm, .int .i64 t.rto, .int .i64 t.tr, .int .i64 t.er, .int .u64 nw, ov3]) :: (O3 ++ L)) _ := hv1; clear hv1; have HI3 := Lib.hid hI1; have HO3 := Lib.hid hO1; clear hI1 hO1; simp only [List.cons_append, List.nil_append] at hv))
       go_end0
       exact ReadP.of (R' := R3) (R2 := R2) (by rw [HQ.out]; exact mem_app _ HZ2.out) (by rw [HQ.out]; exact CM.of (A := [_, _]) (O := O3) (c := ackC ⟨{ t with inn := ⟨t.inn.next, t.inn.bytes.drop k, t.inn.ps⟩ }, []⟩) hv HI3.out HO3.out) (fun x hx => HS2.out x (HSUB.out x hx))
     · have HQ : Hid (read n t = (⟨{ t with inn := ⟨t.inn.next, t.inn.bytes.drop k, t.inn.ps⟩ }, []⟩, t.inn.bytes.take k)) := Lib.hid (by rw [HRD.out, if_neg (fun x => h2 (by have := x.2.2; rw [hr2] at this; exact this))])
       clear hk ho
       go_enter Try.func35, Try.ntmps35
       go_wp2_with (first
         | ((with_reducible refine at_load (T := 27) ?_); refine wl_ldp rfl bc 11 rfl _ hv.vars.ro 3 _ Try.underlying27 rfl infoStr (by decide) (by show 11 + 3 ≤ 21; decide) (#[.int .u32 t.inn.next, .slice ba bn bk, .slice pa pn pk]) (ext21s _ _ _ _ _ _ _ _ _ _ _ _ _ _ _ _ _ _ _ _ _) ?_)
         | (go_at_call 36; (with_reducible refine (Room_S hv HI.out.s HI.out.ck).mono ?_); rintro e w1 ⟨rfl, hn1⟩; replace hv := hv.new hn1; clear hn1))
       try simp only [Act.put]
       refine Bny.wr3 16 [(5, [1002], none), (6, [1000], none), (7, [], some 7), (14, [1002], some 1002), (15, [1001], some 1001)] [(7, .mem (ReadV R1 t.inn t.inn.next (.slice pa pn pk) l k)), (8, .pure), (9, .pure), (10, .pure), (11, .pure), (12, .pure), (13, .pure), (14, .put), (15, .put)] hv ?_
       simp only [Any.someVals]
       iterate 16 apply Exists.intro
       repeat ((first
        | refine Bny.E_off rfl ?_
        | ((with_reducible refine Bny.at_estore (T := 27) ?_); refine Bny.E_putp (T := 27) (off := 11) rfl rfl rfl rfl rfl rfl 3 infoStr rfl (by show 11 + 3 ≤ 21; decide) (by simp [Value.oneCell']) (splice21 _ _ _ _ _ _ _ _ _ _ _ _ _ _ _ _ _ _ _ _ _ _ _ _) ?_)
        | ((with_reducible refine Bny.at_estore (T := 23) ?_); refine Bny.E_putc (T := 23) (off := 0) rfl rfl rfl rfl rfl rfl (by kernel_rfl) rfl (by show 0 < 1; decide) ?_)
        | ((with_reducible refine Bny.at_ecallf (f := 37) ?_); refine Bny.E_callmem rfl rfl rfl (Go.Proofs.enters_of Try.func37 (by kernel_rfl) rfl) rfl [.agg #[.int .u32 t.inn.next, .slice ba bn bk, .slice pa pn pk], .int .i64 n] rfl HSC.out R1 (fun x hx => .inl hx) (fun w0 w L R' hm hs => Read_V hm hs HI.out n HK.out) ?_; rintro v R2 ⟨ba2, bn2, bk2, ga, gn, gk, rfl, hi2, hz2, hs2⟩; have HI2 := Lib.hid hi2; have HZ2 := Lib.hid hz2; have HS2 := Lib.hid hs2; clear hi2 hz2 hs2)
        | refine Bny.ePq ?_
        | (apply Bny.E_val rfl rfl rfl rfl
           case h =>
            intro E' hA K hK
            first
             | ((with_reducible refine Bny.at_qload (T := 27) ?_); refine Bny.q_ldp 1002 (o := 11) hA (by decide) rfl rfl 3 _ Try.underlying27 rfl infoStr (by decide) (by show 11 + 3 ≤ 21; decide) #[.int .u32 t.inn.next, .slice ba bn bk, .slice pa pn pk] (ext21s _ _ _ _ _ _ _ _ _ _ _ _ _ _ _ _ _ _ _ _ _) ?_; refine hK _ ?_; rfl)
             | ((with_reducible refine Bny.at_qload (T := 3) ?_); refine Bny.q_ldc 1000 hA (by decide) rfl rfl _ Try.underlying3 rfl (.int .i64 n) rfl ?_; refine hK _ ?_; rfl)
           case hD => rfl)
        | refine Bny.eV ?_); simp only [Act.put, sia, scs, scz])
       try any_goals exact undef
       refine Bny.finr [1000, 1001, 1002] 7 ?_; clear hv; intro w9 hv
       go_wp2_with (first
         | ((with_reducible refine gLd 3 ?_); refine ldC hv bc 0 (.int .i64 t.st) Try.underlying3 ?_)
         | (go_at_call 38; (with_reducible refine (open_any _ _).mono ?_); rintro e w1 ⟨rfl, hn1⟩; replace hv := hv.new hn1; clear hn1)
         | ((with_reducible refine at_load (T := 27) ?_); refine wl_ldp rfl bc 11 rfl _ hv.vars.ro 3 _ Try.underlying27 rfl infoStr (by decide) (by show 11 + 3 ≤ 21; decide) (#[.int .u32 t.inn.next, .slice ba2 bn2 bk2, .slice pa pn pk]) (ext21s _ _ _ _ _ _ _ _ _ _ _ _ _ _ _ _ _ _ _ _ _) ?_)
         | (go_at_call 36; (with_reducible refine (Room_S hv HI2.out HC2.out).mono ?_); rintro e w1 ⟨rfl, hn1⟩; replace hv := hv.new hn1; clear hn1))
       go_end0
       exact ReadP.of (R' := []) (R2 := R2) (by rw [HQ.out]; exact HZ2.out) (by rw [HQ.out]; exact CM.of (A := [_, _]) (O := O) (c := ⟨{ t with inn := ⟨t.inn.next, t.inn.bytes.drop k, t.inn.ps⟩ }, []⟩) hv (HI.out.rd HS2.out HI2.out HC2.out) (HO.out.mono HS2.out)) (fun x hx => HS2.out x (HSUB.out x hx))
   · have HQ : Hid (read n t = (⟨{ t with inn := ⟨t.inn.next, t.inn.bytes.drop k, t.inn.ps⟩ }, []⟩, t.inn.bytes.take k)) := Lib.hid (by rw [HRD.out, if_neg (fun x => h1 (by have := x.2.1; rw [hr1] at this; exact this))])
     clear hk ho
     go_enter Try.func35, Try.ntmps35
     go_wp2_with (first
       | ((with_reducible refine at_load (T := 27) ?_); refine wl_ldp rfl bc 11 rfl _ hv.vars.ro 3 _ Try.underlying27 rfl infoStr (by decide) (by show 11 + 3 ≤ 21; decide) (#[.int .u32 t.inn.next, .slice ba bn bk, .slice pa pn pk]) (ext21s _ _ _ _ _ _ _ _ _ _ _ _ _ _ _ _ _ _ _ _ _) ?_)
       | (go_at_call 36; (with_reducible refine (Room_S hv HI.out.s HI.out.ck).mono ?_); rintro e w1 ⟨rfl, hn1⟩; replace hv := hv.new hn1; clear hn1))
     try simp only [Act.put]
     refine Bny.wr3 16 [(5, [1002], none), (6, [1000], none), (7, [], some 7), (14, [1002], some 1002), (15, [1001], some 1001)] [(7, .mem (ReadV R1 t.inn t.inn.next (.slice pa pn pk) l k)), (8, .pure), (9, .pure), (10, .pure), (11, .pure), (12, .pure), (13, .pure), (14, .put), (15, .put)] hv ?_
     simp only [Any.someVals]
     iterate 16 apply Exists.intro
     repeat ((first
      | refine Bny.E_off rfl ?_
      | ((with_reducible refine Bny.at_estore (T := 27) ?_); refine Bny.E_putp (T := 27) (off := 11) rfl rfl rfl rfl rfl rfl 3 infoStr rfl (by show 11 + 3 ≤ 21; decide) (by simp [Value.oneCell']) (splice21 _ _ _ _ _ _ _ _ _ _ _ _ _ _ _ _ _ _ _ _ _ _ _ _) ?_)
      | ((with_reducible refine Bny.at_estore (T := 23) ?_); refine Bny.E_putc (T := 23) (off := 0) rfl rfl rfl rfl rfl rfl (by kernel_rfl) rfl (by show 0 < 1; decide) ?_)
      | ((with_reducible refine Bny.at_ecallf (f := 37) ?_); refine Bny.E_callmem rfl rfl rfl (Go.Proofs.enters_of Try.func37 (by kernel_rfl) rfl) rfl [.agg #[.int .u32 t.inn.next, .slice ba bn bk, .slice pa pn pk], .int .i64 n] rfl HSC.out R1 (fun x hx => .inl hx) (fun w0 w L R' hm hs => Read_V hm hs HI.out n HK.out) ?_; rintro v R2 ⟨ba2, bn2, bk2, ga, gn, gk, rfl, hi2, hz2, hs2⟩; have HI2 := Lib.hid hi2; have HZ2 := Lib.hid hz2; have HS2 := Lib.hid hs2; clear hi2 hz2 hs2)
      | refine Bny.ePq ?_
      | (apply Bny.E_val rfl rfl rfl rfl
         case h =>
          intro E' hA K hK
          first
           | ((with_reducible refine Bny.at_qload (T := 27) ?_); refine Bny.q_ldp 1002 (o := 11) hA (by decide) rfl rfl 3 _ Try.underlying27 rfl infoStr (by decide) (by show 11 + 3 ≤ 21; decide) #[.int .u32 t.inn.next, .slice ba bn bk, .slice pa pn pk] (ext21s _ _ _ _ _ _ _ _ _ _ _ _ _ _ _ _ _ _ _ _ _) ?_; refine hK _ ?_; rfl)
           | ((with_reducible refine Bny.at_qload (T := 3) ?_); refine Bny.q_ldc 1000 hA (by decide) rfl rfl _ Try.underlying3 rfl (.int .i64 n) rfl ?_; refine hK _ ?_; rfl)
         case hD => rfl)
      | refine Bny.eV ?_); simp only [Act.put, sia, scs, scz])
     try any_goals exact undef
     refine Bny.finr [1000, 1001, 1002] 7 ?_; clear hv; intro w9 hv
     go_wp2_with (first
       | ((with_reducible refine gLd 3 ?_); refine ldC hv bc 0 (.int .i64 t.st) Try.underlying3 ?_)
       | (go_at_call 38; (with_reducible refine (open_any _ _).mono ?_); rintro e w1 ⟨rfl, hn1⟩; replace hv := hv.new hn1; clear hn1)
       | ((with_reducible refine at_load (T := 27) ?_); refine wl_ldp rfl bc 11 rfl _ hv.vars.ro 3 _ Try.underlying27 rfl infoStr (by decide) (by show 11 + 3 ≤ 21; decide) (#[.int .u32 t.inn.next, .slice ba2 bn2 bk2, .slice pa pn pk]) (ext21s _ _ _ _ _ _ _ _ _ _ _ _ _ _ _ _ _ _ _ _ _) ?_)
       | (go_at_call 36; (with_reducible refine (Room_S hv HI2.out HC2.out).mono ?_); rintro e w1 ⟨rfl, hn1⟩; replace hv := hv.new hn1; clear hn1))
     go_end0
     exact ReadP.of (R' := []) (R2 := R2) (by rw [HQ.out]; exact HZ2.out) (by rw [HQ.out]; exact CM.of (A := [_, _]) (O := O) (c := ⟨{ t with inn := ⟨t.inn.next, t.inn.bytes.drop k, t.inn.ps⟩ }, []⟩) hv (HI.out.rd HS2.out HI2.out HC2.out) (HO.out.mono HS2.out)) (fun x hx => HS2.out x (HSUB.out x hx))
 · have ho2 : (t.st == 3 || t.st == 4 || t.st == 5) = false := (Bool.not_eq_true _).mp ho
   have HQ : Hid (read n t = (⟨{ t with inn := ⟨t.inn.next, t.inn.bytes.drop k, t.inn.ps⟩ }, []⟩, t.inn.bytes.take k)) := Lib.hid (by rw [HRD.out, if_neg (fun x => ho x.1)])
   clear hk ho
   go_enter Try.func35, Try.ntmps35
   go_wp2_with (first
     | ((with_reducible refine at_load (T := 27) ?_); refine wl_ldp rfl bc 11 rfl _ hv.vars.ro 3 _ Try.underlying27 rfl infoStr (by decide) (by show 11 + 3 ≤ 21; decide) (#[.int .u32 t.inn.next, .slice ba bn bk, .slice pa pn pk]) (ext21s _ _ _ _ _ _ _ _ _ _ _ _ _ _ _ _ _ _ _ _ _) ?_)
     | (go_at_call 36; (with_reducible refine (Room_S hv HI.out.s HI.out.ck).mono ?_); rintro e w1 ⟨rfl, hn1⟩; replace hv := hv.new hn1; clear hn1))
   try simp only [Act.put]
   refine Bny.wr3 16 [(5, [1002], none), (6, [1000], none), (7, [], some 7), (14, [1002], some 1002), (15, [1001], some 1001)] [(7, .mem (ReadV R1 t.inn t.inn.next (.slice pa pn pk) l k)), (8, .pure), (9, .pure), (10, .pure), (11, .pure), (12, .pure), (13, .pure), (14, .put), (15, .put)] hv ?_
   simp only [Any.someVals]
   iterate 16 apply Exists.intro
   repeat ((first
    | refine Bny.E_off rfl ?_
    | ((with_reducible refine Bny.at_estore (T := 27) ?_); refine Bny.E_putp (T := 27) (off := 11) rfl rfl rfl rfl rfl rfl 3 infoStr rfl (by show 11 + 3 ≤ 21; decide) (by simp [Value.oneCell']) (splice21 _ _ _ _ _ _ _ _ _ _ _ _ _ _ _ _ _ _ _ _ _ _ _ _) ?_)
    | ((with_reducible refine Bny.at_estore (T := 23) ?_); refine Bny.E_putc (T := 23) (off := 0) rfl rfl rfl rfl rfl rfl (by kernel_rfl) rfl (by show 0 < 1; decide) ?_)
    | ((with_reducible refine Bny.at_ecallf (f := 37) ?_); refine Bny.E_callmem rfl rfl rfl (Go.Proofs.enters_of Try.func37 (by kernel_rfl) rfl) rfl [.agg #[.int .u32 t.inn.next, .slice ba bn bk, .slice pa pn pk], .int .i64 n] rfl HSC.out R1 (fun x hx => .inl hx) (fun w0 w L R' hm hs => Read_V hm hs HI.out n HK.out) ?_; rintro v R2 ⟨ba2, bn2, bk2, ga, gn, gk, rfl, hi2, hz2, hs2⟩; have HI2 := Lib.hid hi2; have HZ2 := Lib.hid hz2; have HS2 := Lib.hid hs2; clear hi2 hz2 hs2)
    | refine Bny.ePq ?_
    | (apply Bny.E_val rfl rfl rfl rfl
       case h =>
        intro E' hA K hK
        first
         | ((with_reducible refine Bny.at_qload (T := 27) ?_); refine Bny.q_ldp 1002 (o := 11) hA (by decide) rfl rfl 3 _ Try.underlying27 rfl infoStr (by decide) (by show 11 + 3 ≤ 21; decide) #[.int .u32 t.inn.next, .slice ba bn bk, .slice pa pn pk] (ext21s _ _ _ _ _ _ _ _ _ _ _ _ _ _ _ _ _ _ _ _ _) ?_; refine hK _ ?_; rfl)
         | ((with_reducible refine Bny.at_qload (T := 3) ?_); refine Bny.q_ldc 1000 hA (by decide) rfl rfl _ Try.underlying3 rfl (.int .i64 n) rfl ?_; refine hK _ ?_; rfl)
       case hD => rfl)
    | refine Bny.eV ?_); simp only [Act.put, sia, scs, scz])
   try any_goals exact undef
   refine Bny.finr [1000, 1001, 1002] 7 ?_; clear hv; intro w9 hv
   go_wp2_with (first
     | ((with_reducible refine gLd 3 ?_); refine ldC hv bc 0 (.int .i64 t.st) Try.underlying3 ?_)
     | (go_at_call 38; (with_reducible refine (open_any _ _).mono ?_); rintro e w1 ⟨rfl, hn1⟩; replace hv := hv.new hn1; clear hn1)
     | ((with_reducible refine at_load (T := 27) ?_); refine wl_ldp rfl bc 11 rfl _ hv.vars.ro 3 _ Try.underlying27 rfl infoStr (by decide) (by show 11 + 3 ≤ 21; decide) (#[.int .u32 t.inn.next, .slice ba2 bn2 bk2, .slice pa pn pk]) (ext21s _ _ _ _ _ _ _ _ _ _ _ _ _ _ _ _ _ _ _ _ _) ?_)
     | (go_at_call 36; (with_reducible refine (Room_S hv HI2.out HC2.out).mono ?_); rintro e w1 ⟨rfl, hn1⟩; replace hv := hv.new hn1; clear hn1))
   go_end0
   exact ReadP.of (R' := []) (R2 := R2) (by rw [HQ.out]; exact HZ2.out) (by rw [HQ.out]; exact CM.of (A := [_, _]) (O := O) (c := ⟨{ t with inn := ⟨t.inn.next, t.inn.bytes.drop k, t.inn.ps⟩ }, []⟩) hv (HI.out.rd HS2.out HI2.out HC2.out) (HO.out.mono HS2.out)) (fun x hx => HS2.out x (HSUB.out x hx))
def KRd (n : Int) (t : T) (b7 : Nat) (LL : LV) (c' : C) (L' : LV) (R' : LR) : Prop := c' = (Tp.read n t).1 ∧ ∃ ga gn gk, L' = (b7, #[.slice ga gn gk]) :: LL ∧ (1, Value.slice ga gn gk, cellsB (Tp.read n t).2) ∈ R'
theorem read_do {w0 : World} {nw b7 b3 : Nat} {n : Int} {x4 x2 : Nat × Array Value} (hck : chkT t = true) (w1 : World) (bc : Nat) (A : LV)
   (hc : CM w0 w1 bc (A ++ ((b7, #[.slice none 0 0]) :: x4 :: (b3, #[.int .i64 n]) :: x2 :: L)) R nw ⟨t, []⟩) :
   Calls Try.prog 35 (#[.pointer (some ⟨bc, 0, none⟩)] ++ #[.pointer (some ⟨b3, 0, none⟩), .pointer (some ⟨b7, 0, none⟩)]) w1 (DoP (KRd n t b7 (x4 :: (b3, #[.int .i64 n]) :: x2 :: L)) w0 bc A R nw) := by
 rw [app3]
 refine (read_C (bn9 := b3) (bg9 := b7) (n := n) (hc.perm ((perm_w A _ _ _ _).trans (List.Perm.swap _ _ _))) hck).mono ?_
 rintro e w' ⟨ga, gn, gk, R', rfl, h1, h2⟩
 exact ⟨_, _, R', rfl, ⟨rfl, ga, gn, gk, rfl, h1⟩, h2.perm ((List.Perm.swap _ _ _).trans (perm_w A _ _ _ _).symm)⟩
theorem Read_T (hv : Mem w0 w L R) (hI : InC R t da dn dk ba bn bk pa pn pk l) (hck : chkT t = true) {n : Int} : Calls Try.prog 14 #[.agg #[.int .i64 t.st, .int .i64 t.lo, .int .u32 t.ip, .int .i64 t.po, .int .u32 t.iss, .int .u32 t.una, .int .u32 t.nx, .slice da dn dk, .int .i64 t.wnd, .bool t.en, .bool t.se, .int .u32 t.inn.next, .slice ba bn bk, .slice pa pn pk, .bool t.ed, .int .u64 t.tm, .int .i64 t.rto, .int .i64 t.tr, .int .i64 t.er], .int .i64 n] w (RTR w0 L R (Tp.read n t).1 (Tp.read n t).2) := by
 have HI := Lib.hid hI
 have HCK := Lib.hid hck
 clear hI hck
 go_enter Try.func14, Try.ntmps14
 go_wp2_with (first
   | ((with_reducible refine gBx 31 2 ?_); refine nwB hv #[.int .i64 t.st, .int .i64 t.lo, .int .u32 t.ip, .int .i64 t.po, .int .u32 t.iss, .int .u32 t.una, .int .u32 t.nx, .slice da dn dk, .int .i64 t.wnd, .bool t.en, .bool t.se, .int .u32 t.inn.next, .slice ba bn bk, .slice pa pn pk, .bool t.ed, .int .u64 t.tm, .int .i64 t.rto, .int .i64 t.tr, .int .i64 t.er] 31 ?_; clear hv; intro b_2 w2 hv)
   | ((with_reducible refine gBx 3 3 ?_); refine nwB hv #[.int .i64 n] 3 ?_; clear hv; intro b_3 w2 hv)
   | ((with_reducible refine gAl 31 4 ?_); refine nwB hv #[.int .i64 0, .int .i64 0, .int .u32 0, .int .i64 0, .int .u32 0, .int .u32 0, .int .u32 0, .slice none 0 0, .int .i64 0, .bool false, .bool false, .int .u32 0, .slice none 0 0, .slice none 0 0, .bool false, .int .u64 0, .int .i64 0, .int .i64 0, .int .i64 0] 31 ?_; clear hv; intro b_4 w2 hv)
   | ((with_reducible refine gAl 23 7 ?_); refine nwB hv #[.slice none 0 0] 23 ?_; clear hv; intro b_7 w2 hv)
   | ((with_reducible refine gLd 31 ?_); refine ldV hv b_2 19 Try.underlying31 infoT19 ?_)
   | (go_at_call 25; (refine (done_C (K := KRd n t b_7 ((b_4, #[.int .i64 0, .int .i64 0, .int .u32 0, .int .i64 0, .int .u32 0, .int .u32 0, .int .u32 0, .slice none 0 0, .int .i64 0, .bool false, .bool false, .int .u32 0, .slice none 0 0, .slice none 0 0, .bool false, .int .u64 0, .int .i64 0, .int .i64 0, .int .i64 0]) :: (b_3, #[.int .i64 n]) :: (b_2, #[.int .i64 t.st, .int .i64 t.lo, .int .u32 t.ip, .int .i64 t.po, .int .u32 t.iss, .int .u32 t.una, .int .u32 t.nx, .slice da dn dk, .int .i64 t.wnd, .bool t.en, .bool t.se, .int .u32 t.inn.next, .slice ba bn bk, .slice pa pn pk, .bool t.ed, .int .u64 t.tm, .int .i64 t.rto, .int .i64 t.tr, .int .i64 t.er]) :: L)) hv HI.out HCK.out (nw := 0) (f := 35) (cap := #[.pointer (some ⟨b_3, 0, none⟩), .pointer (some ⟨b_7, 0, none⟩)]) (Go.Proofs.enters_of Try.func35 (by kernel_rfl) rfl) (read_do (b7 := b_7) (b3 := b_3) (x4 := (b_4, #[.int .i64 0, .int .i64 0, .int .u32 0, .int .i64 0, .int .u32 0, .int .u32 0, .int .u32 0, .slice none 0 0, .int .i64 0, .bool false, .bool false, .int .u32 0, .slice none 0 0, .slice none 0 0, .bool false, .int .u64 0, .int .i64 0, .int .i64 0, .int .i64 0])) (x2 := (b_2, #[.int .i64 t.st, .int .i64 t.lo, .int .u32 t.ip, .int .i64 t.po, .int .u32 t.iss, .int .u32 t.una, .int .u32 t.nx, .slice da dn dk, .int .i64 t.wnd, .bool t.en, .bool t.se, .int .u32 t.inn.next, .slice ba bn bk, .slice pa pn pk, .bool t.ed, .int .u64 t.tm, .int .i64 t.rto, .int .i64 t.tr, .int .i64 t.er])) (L := L) HCK.out)).mono ?_); rintro e w1 ⟨c1, L1, R1, vt, ov1, rfl, ⟨rfl, ga, gn, gk, rfl, hz1⟩, hr1⟩; obtain ⟨da1, dn1, dk1, ba1, bn1, bk1, pa1, pn1, pk1, l1, gs1, O1, rfl, hv1, hI1, hO1⟩ := hr1; clear hv; have hv := hv1; clear hv1; have HI1 := Lib.hid hI1; have HO1 := Lib.hid hO1; have HZ1 := Lib.hid hz1; clear hI1 hO1 hz1; have hv2 : Mem w0 _ ([(b_7, #[.slice ga gn gk]), (b_4, #[.int .i64 0, .int .i64 0, .int .u32 0, .int .i64 0, .int .u32 0, .int .u32 0, .int .u32 0, .slice none 0 0, .int .i64 0, .bool false, .bool false, .int .u32 0, .slice none 0 0, .slice none 0 0, .bool false, .int .u64 0, .int .i64 0, .int .i64 0, .int .i64 0]), (b_3, #[.int .i64 n]), (b_2, #[.int .i64 t.st, .int .i64 t.lo, .int .u32 t.ip, .int .i64 t.po, .int .u32 t.iss, .int .u32 t.una, .int .u32 t.nx, .slice da dn dk, .int .i64 t.wnd, .bool t.en, .bool t.se, .int .u32 t.inn.next, .slice ba bn bk, .slice pa pn pk, .bool t.ed, .int .u64 t.tm, .int .i64 t.rto, .int .i64 t.tr, .int .i64 t.er])] ++ (O1 ++ L)) _ := hv.perm (perm_out O1 [(b_7, #[.slice ga gn gk]), (b_4, #[.int .i64 0, .int .i64 0, .int .u32 0, .int .i64 0, .int .u32 0, .int .u32 0, .int .u32 0, .slice none 0 0, .int .i64 0, .bool false, .bool false, .int .u32 0, .slice none 0 0, .slice none 0 0, .bool false, .int .u64 0, .int .i64 0, .int .i64 0, .int .i64 0]), (b_3, #[.int .i64 n]), (b_2, #[.int .i64 t.st, .int .i64 t.lo, .int .u32 t.ip, .int .i64 t.po, .int .u32 t.iss, .int .u32 t.una, .int .u32 t.nx, .slice da dn dk, .int .i64 t.wnd, .bool t.en, .bool t.se, .int .u32 t.inn.next, .slice ba bn bk, .slice pa pn pk, .bool t.ed, .int .u64 t.tm, .int .i64 t.rto, .int .i64 t.tr, .int .i64 t.er])] L); clear hv; have hv := hv2; clear hv2; simp only [List.cons_append, List.nil_append] at hv)
   | ((with_reducible refine gSt 31 ?_); refine stV hv b_2 19 infoT19 ?_ (h1 := (rowT_one _ _ _ _ _ _ _ _ _ _)); clear hv; intro w2 hv))
 try simp only [Act.put, sia, scs, scz]
 refine Any.wr4 6 [(0, [1003], none), (1, [1000], none), (3, [1001], some 1001)] [(3, .put)] hv ?_
 simp only [Any.someVals]
 iterate 6 apply Exists.intro
 repeat ((first
  | refine Any.E_off rfl ?_
  | ((with_reducible refine Any.gE 31 ?_); refine Any.eW 1003 19 Try.underlying31 infoT19 ?_)
  | ((with_reducible refine Any.gE 23 ?_); refine Any.eC 1000 (.slice ga gn gk) Try.underlying23 ?_)
  | refine Any.eV ?_
  | ((with_reducible refine Any.at_estore (T := 31) ?_); refine Any.E_putv (T := 31) rfl rfl rfl rfl rfl rfl 19 infoT19 rfl rfl (rowT_one _ _ _ _ _ _ _ _ _ _) ?_)); simp only [Act.put, sia, scs, scz])
 try any_goals exact undef
 refine Any.fin4 hv [1000, 1001, 1002, 1003] ?_; clear hv; intro w9 hv
 go_wp2
 try simp only [Exit.inBlock, Exit.then]
 refine ret_cell3 (v := .agg (rowT (Tp.read n t).1.t (.slice da1 dn1 dk1) (.slice ba1 bn1 bk1) (.slice pa1 pn1 pk1))) (v1 := .slice ga gn gk) (v2 := ov1) rfl rfl (read_row _ b_4 31 _ (hv.vars.ro (b := b_4)) 19 _ Try.underlying31 rfl infoT19 (by decide) rfl) rfl rfl rfl ?_
 exact ⟨R1, _, ga, gn, gk, ov1, rfl, HZ1.out, _, _, _, _, _, _, _, _, _, _, _, _, rfl, hv.drop.drop.drop.drop, HI1.out, HO1.out⟩
end Go.Proofs.Ythenepdbgeafkaa
end

section
/-
 tcp.Write of a connection that may not be: the form is wrong (ErrForm).
-/
namespace Go.Proofs.Ythenepdbgeafkaa
open Go.Proofs.Wi Go.RowKit Go.Proofs Go.Proofs.Tp
theorem Check_zero (w : World) : Calls Try.prog 17 #[.agg #[.int .i64 0, .int .i64 0, .int .u32 0, .int .i64 0, .int .u32 0, .int .u32 0, .int .u32 0, .slice none 0 0, .int .i64 0, .bool false, .bool false, .int .u32 0, .slice none 0 0, .slice none 0 0, .bool false, .int .u64 0, .int .i64 0, .int .i64 0, .int .i64 0]] w fun e w' => e = .returned (.bool false) ∧ New w w' := by
 have hv := Mem.nil w
 have hp : Hid (∀ w1, Calls Try.prog 40 #[.int .i64 0] w1 fun e w' => e = .returned (.bool false) ∧ New w1 w') := Lib.hid (fun w1 => by have := port_any 0 w1; rwa [decide_eq_false (by omega)] at this)
 go_enter Try.func17, Try.ntmps17
 go_wp2_with (first
   | ((with_reducible refine gBx 31 1 ?_); refine nwB hv #[.int .i64 0, .int .i64 0, .int .u32 0, .int .i64 0, .int .u32 0, .int .u32 0, .int .u32 0, .slice none 0 0, .int .i64 0, .bool false, .bool false, .int .u32 0, .slice none 0 0, .slice none 0 0, .bool false, .int .u64 0, .int .i64 0, .int .i64 0, .int .i64 0] 31 ?_; clear hv; intro b_1 w2 hv)
   | ((with_reducible refine gLd 3 ?_); refine ldC hv b_1 0 (.int .i64 0) Try.underlying3 ?_)
   | ((with_reducible refine gLd 3 ?_); refine ldC hv b_1 1 (.int .i64 0) Try.underlying3 ?_)
   | (go_at_call 40; (with_reducible refine (hp.out _).mono ?_); rintro e w1 ⟨rfl, hn1⟩; replace hv := hv.new hn1; clear hn1))
 go_ret
 exact ⟨rfl, hv.below⟩
theorem Write_zero (nw : Nat) (w : World) : Calls Try.prog 11 #[.agg #[.int .i64 0, .int .i64 0, .int .u32 0, .int .i64 0, .int .u32 0, .int .u32 0, .int .u32 0, .slice none 0 0, .int .i64 0, .bool false, .bool false, .int .u32 0, .slice none 0 0, .slice none 0 0, .bool false, .int .u64 0, .int .i64 0, .int .i64 0, .int .i64 0], .slice none 0 0, .int .u64 nw] w fun e w' => e = .returned (.tuple #[.agg #[.int .i64 0, .int .i64 0, .int .u32 0, .int .i64 0, .int .u32 0, .int .u32 0, .int .u32 0, .slice none 0 0, .int .i64 0, .bool false, .bool false, .int .u32 0, .slice none 0 0, .slice none 0 0, .bool false, .int .u64 0, .int .i64 0, .int .i64 0, .int .i64 0], .int .i64 0, .slice none 0 0, .int .i64 3]) ∧ New w w' := by
 have hv := Mem.nil w
 go_enter Try.func11, Try.ntmps11
 go_wp2_with (first
   | ((with_reducible refine gBx 31 3 ?_); refine nwB hv #[.int .i64 0, .int .i64 0, .int .u32 0, .int .i64 0, .int .u32 0, .int .u32 0, .int .u32 0, .slice none 0 0, .int .i64 0, .bool false, .bool false, .int .u32 0, .slice none 0 0, .slice none 0 0, .bool false, .int .u64 0, .int .i64 0, .int .i64 0, .int .i64 0] 31 ?_; clear hv; intro b_3 w2 hv)
   | ((with_reducible refine gBx 23 4 ?_); refine nwB hv #[.slice none 0 0] 23 ?_; clear hv; intro b_4 w2 hv)
   | ((with_reducible refine gAl 31 6 ?_); refine nwB hv #[.int .i64 0, .int .i64 0, .int .u32 0, .int .i64 0, .int .u32 0, .int .u32 0, .int .u32 0, .slice none 0 0, .int .i64 0, .bool false, .bool false, .int .u32 0, .slice none 0 0, .slice none 0 0, .bool false, .int .u64 0, .int .i64 0, .int .i64 0, .int .i64 0] 31 ?_; clear hv; intro b_6 w2 hv)
   | ((with_reducible refine gLd 31 ?_); refine ldV hv b_3 19 Try.underlying31 infoT19 ?_)
   | (go_at_call 17; (with_reducible refine (Check_zero _).mono ?_); rintro e w1 ⟨rfl, hn1⟩; replace hv := hv.new hn1; clear hn1)
   | ((with_reducible refine gSt 31 ?_); refine stV hv b_6 19 infoT19 ?_; clear hv; intro w2 hv))
 try rw [Exit.noGoto_ret]
 try simp only [Exit.inBlock, Exit.then]
 refine ret_cttt_ (v := .agg #[.int .i64 0, .int .i64 0, .int .u32 0, .int .i64 0, .int .u32 0, .int .u32 0, .int .u32 0, .slice none 0 0, .int .i64 0, .bool false, .bool false, .int .u32 0, .slice none 0 0, .slice none 0 0, .bool false, .int .u64 0, .int .i64 0, .int .i64 0, .int .i64 0]) (v1 := .int .i64 0) (v2 := .slice none 0 0) (v3 := .int .i64 3) rfl rfl (read_row _ b_6 31 _ (hv.vars.ro (b := b_6)) 19 _ Try.underlying31 rfl infoT19 (by decide) rfl) rfl rfl rfl rfl ?_
 exact ⟨rfl, hv.below⟩
end Go.Proofs.Ythenepdbgeafkaa
end

section
/-
 Two connections that are established (the tcp laws' pair).
-/
namespace Go.Proofs.Ythenepdbgeafkaa
open Go.Proofs.Wi Go.RowKit Go.Proofs Go.Proofs.Tp
end Go.Proofs.Ythenepdbgeafkaa
end
