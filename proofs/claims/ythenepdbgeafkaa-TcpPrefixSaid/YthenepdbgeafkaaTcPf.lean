/-
 TcpPrefix: what is read is a beginning of the stream.
-/
import Derived.Test.YthenepdbgeafkaaGAY
import Derived.Test.YthenepdbgeafkaaTcOp
import Derived.Test.YthenepdbgeafkaaGAI
import Derived.Test.YthenepdbgeafkaaGAB
import Derived.Test.YthenepdbgeafkaaGAL
set_option maxRecDepth 100000
set_option maxHeartbeats 8000000
set_option linter.unusedVariables false
set_option linter.unusedSimpArgs false
namespace Go
theorem Mem.cast {w0 w : World} {L L' : List (Nat × Array Value)} {R : List (Nat × Value × List Value)} (h : Mem w0 w L R) (e : L = L') : Mem w0 w L' R := e ▸ h
end Go
namespace Go.Proofs.Tp
open Go Go.RowKit Go.Proofs.Wi
def TkV (R0 : List (Nat × Value × List Value)) (nw : Nat) (g : G) (t : T) (v : Value) (R' : List (Nat × Value × List Value)) : Prop :=
 ∃ c' da dn dk ba bn bk pa pn pk l ov, v = .tuple #[.agg (rowT c'.t (.slice da dn dk) (.slice ba bn bk) (.slice pa pn pk)), ov] ∧ Take nw g t c' ∧ InC R' c'.t da dn dk ba bn bk pa pn pk l ∧ ∀ x ∈ R0, x ∈ R'
def RdW (w0 : World) (L : List (Nat × Array Value)) (R : List (Nat × Value × List Value)) (c : C) (got : List Nat) (e : Ending) (w' : World) : Prop :=
 ∃ R2 da dn dk ba bn bk pa pn pk l ga gn gk ov, e = .returned (.tuple #[.agg (rowT c.t (.slice da dn dk) (.slice ba bn bk) (.slice pa pn pk)), .slice ga gn gk, ov]) ∧ Mem w0 w' L R2 ∧ (∀ x ∈ R, x ∈ R2) ∧ (1, Value.slice ga gn gk, cellsB got) ∈ R2 ∧ InC R2 c.t da dn dk ba bn bk pa pn pk l
def tP (iss next : Nat) : T := ⟨3, 7, 0, 80, iss, Tp.u32 (iss + 1), Tp.u32 (iss + 1), [], 100, false, false, ⟨next, [], []⟩, false, 0, 4, 0, 0⟩
theorem tP_chk (iss next : Nat) : chkT (tP iss next) = true := by
 refine chkT_iff.2 ⟨⟨by show 3 ≤ 9; decide, ⟨by show 1 ≤ 7; decide, by show 7 ≤ 65535; decide⟩, ⟨by show 1 ≤ 80; decide, by show 80 ≤ 65535; decide⟩, by show 0 ≤ 256; decide, by show 100 ≤ 65535; decide, (fun h => nomatch h), by show 0 ≤ 1099511627776; decide, ⟨by show 1 ≤ 4; decide, by show 4 ≤ 64; decide⟩, by show 0 ≤ 12; decide, Nat.zero_le _, chk_empty _ _ (Nat.zero_le _)⟩, ?_⟩
 refine (numbers_nm (by show 3 ≤ 3; decide)).2 ?_
 unfold Nm
 rw [own_noSe rfl]
 show 0 ≤ dif (Tp.u32 (iss + 1)) (Tp.u32 (iss + 1)) ∧ dif (Tp.u32 (iss + 1)) (Tp.u32 (iss + 1)) ≤ 0
 rw [dif_self]; decide
theorem tP_pre (iss : Nat) {next : Nat} (hn : next < 4294967296) (all : List Nat) : Pre all next (tP iss next) [] :=
 ⟨tP_chk iss next, .inr (by show 3 ≤ 3; decide), 0, Nat.zero_le _, rfl, fun _ => Agr.start all next hn⟩
theorem and_rngT (x : Int) (m : Int) (k : Nat) (hm : m = (k : Int)) (hk : k < 4611686018427387904) : ∃ f : Nat, f ≤ k ∧ bits .and .i64 x m = (f : Int) := by
 have hb : (BitVec.ofInt IntKind.i64.bits x &&& BitVec.ofInt IntKind.i64.bits m).toNat ≤ k := by
   rw [BitVec.toNat_and]
   refine Nat.le_trans Nat.and_le_right ?_
   subst hm
   rw [BitVec.ofInt_natCast, BitVec.toNat_ofNat]
   exact Nat.mod_le _ _
 refine ⟨(BitVec.ofInt IntKind.i64.bits x &&& BitVec.ofInt IntKind.i64.bits m).toNat, hb, ?_⟩
 show IntKind.i64.wrap (((BitVec.ofInt IntKind.i64.bits x &&& BitVec.ofInt IntKind.i64.bits m).toNat : Nat) : Int) = _
 exact IntWalk.i64_in _ (by omega)
theorem cellsB_appP (a b : List Nat) : cellsB (a ++ b) = cellsB a ++ cellsB b := by unfold cellsB; exact List.map_append
theorem bdP {a b : Nat} (h : a + b ≤ 2000) : (a + b) / 1 ≤ maxLen ∧ (a + b) / 1 * 1 ≤ 140737488355328 := by unfold maxLen; omega
theorem mem_a0P {w0 w : World} {A O : List (Nat × Array Value)} {R : List (Nat × Value × List Value)} (h : Mem w0 w (A ++ O) R) : Mem w0 w (A ++ O ++ []) R := by rw [List.append_nil]; exact h
theorem slots2 {b : Nat} {r : Array Value} {sl : Bny.Slot} (h : sl.reads = []) : ∀ s ∈ [Bny.Slot.row b r, sl], s.reads = [] := by
 intro s hs
 rcases List.mem_cons.1 hs with rfl | hs
 · rfl
 · rw [List.mem_singleton.1 hs]; exact h
theorem slots3 {b b' : Nat} {r r' : Array Value} {sl : Bny.Slot} (h : sl.reads = []) : ∀ s ∈ [Bny.Slot.row b r, Bny.Slot.row b' r', sl], s.reads = [] := by
 intro s hs
 rcases List.mem_cons.1 hs with rfl | hs
 · rfl
 · exact slots2 h s hs
theorem cellsQ_get (l : List Pq) {k : Nat} (hk : k < l.length) {j : Nat} (hj : j < 7) : (cellsQ l)[k * 7 + j]? = (encQ l[k])[j]? := by
 have h := get_flat (en := encQ) (fun _ => rfl) l k j hj
 rw [List.getElem?_eq_getElem hk] at h
 exact h
theorem cellsQ_len (l : List Pq) : (cellsQ l).length = l.length * 7 := len_flat (en := encQ) (fun _ => rfl) l
end Go.Proofs.Tp
namespace Go.Proofs.Ythenepdbgeafkaa
open Go.Proofs.Wi Go.RowKit Go.Proofs Go.Proofs.Tp
theorem Bytes_P (u v : Value) (l : List Nat) (w : World) (hu : Rd w 1 u (cellsB l)) (hv : Rd w 1 v (cellsB l)) (hl : goodB l) : Calls Try.prog 16 #[u, v] w fun e w' => e = .returned (.bool true) ∧ w = w' := by
 have := Bytes_any u v l l w hu hv hl hl
 simpa using this
theorem Take_P {w0 w : World} {L : List (Nat × Array Value)} {R R' : List (Nat × Value × List Value)} (hv : Mem w0 w L R') (hs : ∀ x ∈ R, x ∈ R') {t : T} {da ba pa : Option Addr} {dn dk bn bk pn pk : Nat} {l : List PcV} (hI : InC R t da dn dk ba bn bk pa pn pk l) (hck : chkT t = true) {nw : Nat} {g : G} {sa : Option Addr} {sn sk : Nat} (hg : InG R g sa sn sk) : Calls Try.prog 13 #[.agg #[.int .i64 (t.st : Nat), .int .i64 (t.lo : Nat), .int .u32 (t.ip : Nat), .int .i64 (t.po : Nat), .int .u32 (t.iss : Nat), .int .u32 (t.una : Nat), .int .u32 (t.nx : Nat), .slice da dn dk, .int .i64 (t.wnd : Nat), .bool t.en, .bool t.se, .int .u32 (t.inn.next : Nat), .slice ba bn bk, .slice pa pn pk, .bool t.ed, .int .u64 (t.tm : Nat), .int .i64 (t.rto : Nat), .int .i64 (t.tr : Nat), .int .i64 (t.er : Nat)], .agg #[.int .i64 (g.src : Nat), .int .i64 (g.dst : Nat), .int .u32 (g.seq : Nat), .int .u32 (g.ack : Nat), .int .i64 (g.fl : Nat), .int .i64 (g.wnd : Nat), .slice sa sn sk], .int .u64 nw] w fun e w' => ∃ v R2, e = .returned v ∧ TkV R nw g t v R2 ∧ Mem w0 w' L R2 ∧ ∀ x ∈ R', x ∈ R2 := by
 refine (Take_T hv (hI.mono hs) hck (nw := nw) (hg.mono hs)).mono ?_
 rintro e w' ⟨c', R1, vt, ov, rfl, ht, da', dn', dk', ba', bn', bk', pa', pn', pk', l', gs, O, rfl, hm, hI', hO⟩
 exact ⟨_, _, rfl, ⟨c', _, _, _, _, _, _, _, _, _, _, _, rfl, ht, hI', fun x hx => List.mem_append_right _ (hs x hx)⟩, hm.keep (List.sublist_append_right _ _), fun x hx => List.mem_append_right _ hx⟩
theorem Read_W {w0 w : World} {L : List (Nat × Array Value)} {R : List (Nat × Value × List Value)} (hv : Mem w0 w L R) {t : T} {da ba pa : Option Addr} {dn dk bn bk pn pk : Nat} {l : List PcV} (hI : InC R t da dn dk ba bn bk pa pn pk l) (hck : chkT t = true) {n : Int} : Calls Try.prog 14 #[.agg #[.int .i64 (t.st : Nat), .int .i64 (t.lo : Nat), .int .u32 (t.ip : Nat), .int .i64 (t.po : Nat), .int .u32 (t.iss : Nat), .int .u32 (t.una : Nat), .int .u32 (t.nx : Nat), .slice da dn dk, .int .i64 (t.wnd : Nat), .bool t.en, .bool t.se, .int .u32 (t.inn.next : Nat), .slice ba bn bk, .slice pa pn pk, .bool t.ed, .int .u64 (t.tm : Nat), .int .i64 (t.rto : Nat), .int .i64 (t.tr : Nat), .int .i64 (t.er : Nat)], .int .i64 n] w (RdW w0 L R (Tp.read n t).1 (Tp.read n t).2) := by
 refine (Read_T hv hI hck (n := n)).mono ?_
 rintro e w' ⟨R1, vt, ga, gn, gk, ov, rfl, hg, da', dn', dk', ba', bn', bk', pa', pn', pk', l', gs, O, rfl, hm, hI', hO⟩
 exact ⟨_, _, _, _, _, _, _, _, _, _, _, _, _, _, _, rfl, hm.keep (List.sublist_append_right _ _), fun x hx => List.mem_append_right _ hx, hg, hI'⟩
theorem built_inP (x : Int) : Try.prog.built 27 [(0, .int .u32 x)] = some #[.int .u32 x, .slice none 0 0, .slice none 0 0] := by kernel_rfl
theorem built_sgP (s a f n : Int) (v : Option Addr) (i j : Nat) : Try.prog.built 42 [(0, .int .i64 80), (1, .int .i64 7), (2, .int .u32 s), (3, .int .u32 a), (4, .int .i64 f), (5, .int .i64 n), (6, .slice v i j)] = some #[.int .i64 80, .int .i64 7, .int .u32 s, .int .u32 a, .int .i64 f, .int .i64 n, .slice v i j] := by kernel_rfl
theorem Prefix_a (aa la : Option Addr) (an ac ln lc next iss : Nat) (all : List Nat) (pl : List Pq) (w : World) (R : List (Nat × Value × List Value)) (hv : Mem w w [] R) (ha : (1, .slice aa an ac, cellsB all) ∈ R) (hl : (7, .slice la ln lc, cellsQ pl) ∈ R) (h0 : 1000 < an) : Calls Try.prog 4 #[.slice aa an ac, .int .u32 next, .int .u32 iss, .slice la ln lc] w (fun e w' => e = .returned (.bool true) ∧ New w w') := by
 have y0 : decide ((1000 : Int) < (an : Int)) = true := decide_eq_true (by omega)
 have z0 : decide (1000 < an) = true := decide_eq_true h0
 clear h0
 go_enter Try.func4, Try.ntmps4
 go_wp2_with (first
   | (go_at_call 9; (with_reducible refine (heads26 _).mono ?_); rintro e w1 ⟨rfl, hn1⟩; replace hv := hv.new hn1; clear hn1))
 go_ret
 exact ⟨rfl, hv.below⟩
theorem Prefix_b (aa la : Option Addr) (an ac ln lc next iss : Nat) (all : List Nat) (pl : List Pq) (w : World) (R : List (Nat × Value × List Value)) (hv : Mem w w [] R) (ha : (1, .slice aa an ac, cellsB all) ∈ R) (hl : (7, .slice la ln lc, cellsQ pl) ∈ R) (h0 : ¬ 1000 < an) (h1 : 80 < ln) : Calls Try.prog 4 #[.slice aa an ac, .int .u32 next, .int .u32 iss, .slice la ln lc] w (fun e w' => e = .returned (.bool true) ∧ New w w') := by
 have y0 : decide ((1000 : Int) < (an : Int)) = false := decide_eq_false (by omega)
 have z0 : decide (1000 < an) = false := decide_eq_false h0
 have y1 : decide ((80 : Int) < (ln : Int)) = true := decide_eq_true (by omega)
 have z1 : decide (80 < ln) = true := decide_eq_true h1
 clear h0 h1
 go_enter Try.func4, Try.ntmps4
 go_wp2_with (first
   | (go_at_call 9; (with_reducible refine (heads26 _).mono ?_); rintro e w1 ⟨rfl, hn1⟩; replace hv := hv.new hn1; clear hn1))
 go_ret
 exact ⟨rfl, hv.below⟩
theorem Prefix_c (aa la : Option Addr) (an ac ln lc next iss : Nat) (all : List Nat) (pl : List Pq) (w : World) (R : List (Nat × Value × List Value)) (hv : Mem w w [] R) (ha : (1, .slice aa an ac, cellsB all) ∈ R) (hl : (7, .slice la ln lc, cellsQ pl) ∈ R) (hga : goodB all) (hgq : ∀ p ∈ pl, goodQ p) (hnx : next < 4294967296) (his : iss < 4294967296) (h0 : ¬ 1000 < an) (h1 : ¬ 80 < ln) : Calls Try.prog 4 #[.slice aa an ac, .int .u32 next, .int .u32 iss, .slice la ln lc] w (fun e w' => e = .returned (.bool true) ∧ New w w') := by
 have y0 : decide ((1000 : Int) < (an : Int)) = false := decide_eq_false (by omega)
 have z0 : decide (1000 < an) = false := decide_eq_false h0
 have y1 : decide ((80 : Int) < (ln : Int)) = false := decide_eq_false (by omega)
 have z1 : decide (80 < ln) = false := decide_eq_false h1
 have hal : all.length = an := len_rd1 (hv.rd ha)
 have hpl : pl.length = ln := by
   obtain ⟨_, _, _, e, g, _⟩ := hv.rd hl
   cases e
   rw [cellsQ_len] at g
   omega
 obtain ⟨x, hx⟩ : ∃ x, Tp.u32 (iss + 1) = x := ⟨_, rfl⟩
 have q1 : IntKind.u32.wrap ((iss : Int) + 1) = (x : Int) := by rw [← hx]; unfold Tp.u32; simp [IntKind.wrap, IntKind.bits, IntKind.signed]
 have HXX := Lib.hid hx
 have HAL := Lib.hid hal
 have HPL := Lib.hid hpl
 have HA := Lib.hid ha
 have HL := Lib.hid hl
 have HGA := Lib.hid hga
 have HGQ := Lib.hid hgq
 have HNX := Lib.hid hnx
 have HIS := Lib.hid his
 have HAN : Hid (an ≤ 1000) := Lib.hid (by omega)
 have HLN : Hid (ln ≤ 80) := Lib.hid (by omega)
 clear ha hl hga hgq hnx his h0 h1 hal hpl hx
 go_enter Try.func4, Try.ntmps4
 try simp only [List.append_eq, List.cons_append, List.nil_append]
 go_wp2_with (first
   | ((with_reducible refine at_build (T := 27) ?_); refine wl_build rfl _ rfl (built_inP _) ?_)
   | ((with_reducible refine gAl 31 9 ?_); refine nwB hv #[.int .i64 0, .int .i64 0, .int .u32 0, .int .i64 0, .int .u32 0, .int .u32 0, .int .u32 0, .slice none 0 0, .int .i64 0, .bool false, .bool false, .int .u32 0, .slice none 0 0, .slice none 0 0, .bool false, .int .u64 0, .int .i64 0, .int .i64 0, .int .i64 0] 31 ?_; clear hv; intro b_9 w2 hv)
   | ((with_reducible refine gSt 31 ?_); refine stV hv b_9 19 infoT19 ?_; clear hv; intro w2 hv))
 try simp only [Act.put]
 go_loopw [10, 11] (fun ov iv wr => ∃ (i : Nat) (t : T) (outl : List Nat) (oa da ba pa : Option Addr) (on ok dn dk bn bk pn pk : Nat) (l : List PcV) (sl : Bny.Slot) (R1 : List (Nat × Value × List Value)), i ≤ pl.length ∧ iv = .int .i64 i ∧ ov = .slice oa on ok ∧ Mem w wr ((b_9, (rowT t (.slice da dn dk) (.slice ba bn bk) (.slice pa pn pk))) :: sl.rows) R1 ∧ Hid (InC R1 t da dn dk ba bn bk pa pn pk l) ∧ Hid (Pre all next t outl) ∧ Hid (Bny.QS 1 (cellsB outl) (.slice oa on ok) sl) ∧ Hid (∀ x ∈ R, x ∈ R1)) (fun _ iv _ => pl.length - (intOf iv).toNat)
 case atStart =>
   have hrow : rowT (tP iss next) (.slice none 0 0) (.slice none 0 0) (.slice none 0 0) = #[.int .i64 3, .int .i64 7, .int .u32 0, .int .i64 80, .int .u32 iss, .int .u32 x, .int .u32 x, .slice none 0 0, .int .i64 100, .bool false, .bool false, .int .u32 next, .slice none 0 0, .slice none 0 0, .bool false, .int .u64 0, .int .i64 4, .int .i64 0, .int .i64 0] := by
     unfold tP rowT
     rw [HXX.out]
     rfl
   refine ⟨0, tP iss next, [], none, none, none, none, 0, 0, 0, 0, 0, 0, 0, 0, [], .none, _, Nat.zero_le _, rfl, rfl, ?_, Lib.hid ⟨Mem.z, ⟨Mem.z, Mem.s Mem.z, fun p hp => (List.not_mem_nil hp).elim, rfl⟩, rfl, ⟨Tp.u32_lt _, Tp.u32_lt _, HIS.out, HNX.out, by show 0 < 4294967296; decide⟩⟩, Lib.hid (tP_pre iss HNX.out all), Lib.hid (.inl ⟨none, rfl, rfl, rfl⟩), Lib.hid (fun x hx => Mem.s (Mem.s hx))⟩
   rw [hrow]
   exact (hv.add (k := 2) (v := .slice none 0 0) (c := cellsP []) (Rd.nil _ _) (fun h => absurd rfl h)).add (k := 1) (v := .slice none 0 0) (c := cellsB []) (Rd.nil _ _) (fun h => absurd rfl h)
 case round =>
   clear hv
   obtain ⟨i, t, outl, oa, da, ba, pa, on, ok, dn, dk, bn, bk, pn, pk, l, sl, R1, hi0, rfl, rfl, hv, HI, HP, HQ, HS⟩ := hrel
   have hpl := HPL.out
   have hln := HLN.out
   have hgq := HGQ.out
   by_cases hi : i < pl.length
   · have y3 : decide ((i : Int) < (ln : Int)) = true := decide_eq_true (by omega)
     have z3 : decide (i < ln) = true := decide_eq_true (by omega)
     have q4 : IntKind.i64.wrap ((i : Int) + 1) = (i : Int) + 1 := IntWalk.i64_in _ (by omega)
     have hkl : (i : Int) < (ln : Int) := by omega
     have hkm : i < ln := by omega
     obtain ⟨xf, xl, xg, xa, xw, xr, xn, hp⟩ : ∃ xf xl xg xa xw xr xn, pl[i] = ⟨xf, xl, xg, xa, xw, xr, xn⟩ := ⟨_, _, _, _, _, _, _, rfl⟩
     have hget : ∀ j, j < 7 → (cellsQ pl)[i * 7 + j]? = (encQ ⟨xf, xl, xg, xa, xw, xr, xn⟩)[j]? := fun j hj => by rw [cellsQ_get pl hi hj, hp]
     have HX0 : Hid ((cellsQ pl)[i * 7 + 0]? = some (.int .i64 xf)) := Lib.hid (hget 0 (by decide))
     have HX1 : Hid ((cellsQ pl)[i * 7 + 1]? = some (.int .i64 xl)) := Lib.hid (hget 1 (by decide))
     have HX2 : Hid ((cellsQ pl)[i * 7 + 2]? = some (.int .i64 xg)) := Lib.hid (hget 2 (by decide))
     have HX3 : Hid ((cellsQ pl)[i * 7 + 3]? = some (.int .u32 xa)) := Lib.hid (hget 3 (by decide))
     have HX4 : Hid ((cellsQ pl)[i * 7 + 4]? = some (.int .i64 xw)) := Lib.hid (hget 4 (by decide))
     have HX6 : Hid ((cellsQ pl)[i * 7 + 6]? = some (.int .u64 xn)) := Lib.hid (hget 6 (by decide))
     have HX5' : Hid ((cellsQ pl)[i * 7 + 5]? = some (.bool xr)) := Lib.hid (hget 5 (by decide))
     obtain ⟨f0, hf0, ef⟩ := and_rngT xf 1023 1023 rfl (by decide)
     obtain ⟨nn, hn0, en⟩ := and_rngT xl 63 63 rfl (by decide)
     obtain ⟨fr, hfr⟩ : ∃ fr : Nat, min f0 an = fr := ⟨_, rfl⟩
     have hm : min (f0 : Int) (an : Int) = (fr : Int) := by omega
     have HFR : Hid (fr ≤ an) := Lib.hid (by omega)
     have HNN : Hid (nn ≤ 63) := Lib.hid hn0
     have hlr := HS.out _ HL.out
     obtain ⟨lb, lo, _, _, e, hq⟩ := (hv.rd hlr).some (by rw [cellsQ_len]; omega)
     clear hq
     cases e
     have HLR := Lib.hid hlr
     have HSLR : Hid (sl.reads = []) := Lib.hid HQ.out.reads
     have HIN := Lib.hid hi
     have HCK := Lib.hid HP.out.ck
     have HXA : Hid (xa < 4294967296) := Lib.hid (by have h := hgq _ (List.getElem_mem hi); rw [hp] at h; exact h.2.2.2.2.1)
     clear hp hget hlr hi hi0 hpl hln hf0 hn0 hgq
     go_wp2
     have hv0 := Mem.cast hv (show _ = (([.row b_9 (rowT t (.slice da dn dk) (.slice ba bn bk) (.slice pa pn pk)), sl] : List Bny.Slot).flatMap Bny.Slot.rows ++ []) from by simp [Bny.Slot.rows])
     clear hv
     try simp only [Act.put]
     refine Bny.wp_region_walkS [.row b_9 (rowT t (.slice da dn dk) (.slice ba bn bk) (.slice pa pn pk)), sl] [] [⟨[], none⟩, ⟨[], none⟩, ⟨[], none⟩, ⟨[], none⟩, ⟨[], none⟩, ⟨[], none⟩, ⟨[], none⟩, ⟨[], none⟩, ⟨[], none⟩, ⟨[], none⟩, ⟨[], none⟩, ⟨[], none⟩, ⟨[], none⟩, ⟨[], none⟩, ⟨[], none⟩, ⟨[], none⟩, ⟨[], none⟩] [.val, .val, .val, .val, .val, .val, .val, .val, .val, .val, .val, .val, .val, .val, .val, .val, .val] (by kernel_rfl) (by kernel_rfl) hv0 (by exact slots2 HSLR.out) ?_
     clear hv0
     simp only [List.length_cons, List.length_nil, Nat.zero_add, Any.someVals]
     iterate 17 apply Exists.intro
     repeat (first
       | (refine Bny.E_off rfl ?_; simp only [Act.put, sia, scs, scz])
       | (apply Bny.E_pureq rfl rfl rfl
          case h => intro K hK; go_big_quiet_op; (refine hK _ ?_; rfl)
          case hr => exact fun _ => rfl
          simp only [Act.put, sia, scs, scz])
       | (apply Bny.E_val rfl rfl rfl rfl
          case h =>
            intro E' hA K hK
            first
              | ((with_reducible refine Bny.at_qload (T := 3) ?_); refine Bny.q_rd (k := 7) (b := lb) (o := lo) (n := ln) (cap := lc) (c := cellsQ pl) (Or.inl HLR.out) hA (i * 7 + 0) rfl _ Try.underlying3 rfl (.int .i64 xf) HX0.out ?_; refine hK _ ?_; rfl)
              | ((with_reducible refine Bny.at_qload (T := 3) ?_); refine Bny.q_rd (k := 7) (b := lb) (o := lo) (n := ln) (cap := lc) (c := cellsQ pl) (Or.inl HLR.out) hA (i * 7 + 1) rfl _ Try.underlying3 rfl (.int .i64 xl) HX1.out ?_; refine hK _ ?_; rfl)
              | (go_big_quiet_op; first
                | (refine hK _ ?_; rfl)
                | (refine ⟨_, fun _ _ => rfl, ?_⟩; refine hK _ ?_; rfl)
                | (apply Exists.intro; refine ⟨fun w1 hw1 => ?_, ?_⟩; · (first
                    | fail)
                   refine hK _ ?_; rfl))
          case hD => rfl
          simp only [Act.put, sia, scs, scz]))
     try any_goals exact undef
     refine Bny.E_nil ?_
     intro w9 hE9
     have hv : Mem w w9 (((b_9, (rowT t (.slice da dn dk) (.slice ba bn bk) (.slice pa pn pk))) :: (sl.rows ++ [])) ++ []) R1 := hE9.mem0 [1000, 1001] (by decide)
     clear hE9
     simp only [List.cons_append, List.nil_append, List.append_nil] at hv
     cases xr with
     | true =>
       have HX5 := HX5'
       have hpr := HP.out.read (nn : Int)
       have hgl : outl.length + (Tp.read (nn : Int) t).2.length ≤ 1000 := by
         obtain ⟨p, h1, h2, _⟩ := hpr.got
         have h3 := congrArg List.length h2
         simp only [List.length_append, List.length_take] at h3
         have h4 := HAN.out
         have h5 := HAL.out
         omega
       have HB1 : Hid (((cellsB outl).length + (cellsB (Tp.read (nn : Int) t).2).length) / 1 ≤ maxLen) := Lib.hid (by simp only [cellsB, List.length_map]; unfold maxLen; omega)
       have HB2 : Hid (((cellsB outl).length + (cellsB (Tp.read (nn : Int) t).2).length) / 1 * 1 ≤ 140737488355328) := Lib.hid (by simp only [cellsB, List.length_map]; omega)
       have HLG : Hid (∃ m, (cellsB (Tp.read (nn : Int) t).2).length = m * 1) := Lib.hid ⟨_, (Nat.mul_one _).symm⟩
       have HPR := Lib.hid hpr
       clear hgl hpr
       go_wp2_with (first
         | ((with_reducible refine at_load (T := 4) ?_); refine wl_rd rfl (c := cellsQ pl) (hv.rd HLR.out) (i * 7 + 5) rfl _ Try.underlying4 rfl (.bool true) HX5.out ?_)
         | ((with_reducible refine gLd 31 ?_); refine ldV hv b_9 19 Try.underlying31 infoT19 ?_)
         | (go_at_call 14; (refine (Read_W hv HI.out HCK.out (n := (nn : Int))).mono ?_); rintro e w1 ⟨R2, da2, dn2, dk2, ba2, bn2, bk2, pa2, pn2, pk2, l2, ga, gn, gk, ov2, rfl, hm, hs2, hg2, hI2⟩; clear hv; have hv := hm; clear hm; have HS2 := Lib.hid hs2; have HG2 := Lib.hid hg2; have HI2 := Lib.hid hI2; clear hs2 hg2 hI2)
         | ((with_reducible refine gAl 31 14 ?_); refine nwB hv #[.int .i64 0, .int .i64 0, .int .u32 0, .int .i64 0, .int .u32 0, .int .u32 0, .int .u32 0, .slice none 0 0, .int .i64 0, .bool false, .bool false, .int .u32 0, .slice none 0 0, .slice none 0 0, .bool false, .int .u64 0, .int .i64 0, .int .i64 0, .int .i64 0] 31 ?_; clear hv; intro b_14 w2 hv)
         | ((with_reducible refine gSt 31 ?_); refine stV hv b_14 19 infoT19 ?_ (h1 := (rowT_one _ _ _ _ _ _ _ _ _ _)); clear hv; intro w2 hv))
       have hv0 := Mem.cast hv (show _ = (([.row b_14 (rowT (Tp.read (nn : Int) t).1.t (.slice da2 dn2 dk2) (.slice ba2 bn2 bk2) (.slice pa2 pn2 pk2)), .row b_9 (rowT t (.slice da dn dk) (.slice ba bn bk) (.slice pa pn pk)), sl] : List Bny.Slot).flatMap Bny.Slot.rows ++ []) from by simp [Bny.Slot.rows])
       clear hv
       try simp only [Act.put]
       refine Bny.wp_region_walkS [.row b_14 (rowT (Tp.read (nn : Int) t).1.t (.slice da2 dn2 dk2) (.slice ba2 bn2 bk2) (.slice pa2 pn2 pk2)), .row b_9 (rowT t (.slice da dn dk) (.slice ba bn bk) (.slice pa pn pk)), sl] [] [⟨[1000], none⟩, ⟨[], none⟩, ⟨[], none⟩, ⟨[], some 1002⟩, ⟨[1001], some 1001⟩, ⟨[], none⟩] [.val, .val, .val, .slot (Bny.QS 1 (cellsB outl ++ cellsB (Tp.read (nn : Int) t).2)), .put, .pure] (by kernel_rfl) (by kernel_rfl) hv0 (by exact slots3 HSLR.out) ?_
       clear hv0
       simp only [List.length_cons, List.length_nil, Nat.zero_add, Any.someVals]
       iterate 6 apply Exists.intro
       repeat (first
         | (refine Bny.E_off rfl ?_; simp only [Act.put, sia, scs, scz])
         | ((with_reducible refine Bny.at_eappQ (t := 23) ?_); refine Bny.E_appQ rfl rfl rfl rfl rfl HQ.out rfl (Or.inl HG2.out) (.int .u8 0) 1 Try.underlying23 infoBz rfl (by decide) HLG.out (cellsB_one _) HB1.out HB2.out ?_; intro v9 sl9 hq9; obtain ⟨oa9, on9, ok9, rfl, hn9⟩ := hq9.own.slice; clear hn9; have HQ9 := Lib.hid hq9; clear hq9; simp only [Act.put, sia, scs, scz])
         | ((with_reducible refine Bny.at_estore (T := 31) ?_); refine Bny.E_putv (T := 31) rfl rfl rfl rfl rfl rfl 19 infoT19 rfl rfl (rowT_one _ _ _ _ _ _ _ _ _ _) ?_; simp only [Act.put, sia, scs, scz])
         | (apply Bny.E_pureq rfl rfl rfl
            case h => intro K hK; go_big_quiet_op; (refine hK _ ?_; rfl)
            case hr => exact fun _ => rfl
            simp only [Act.put, sia, scs, scz])
         | (apply Bny.E_val rfl rfl rfl rfl
            case h =>
              intro E' hA K hK
              first
                | ((with_reducible refine Bny.at_qload (T := 31) ?_); refine Bny.q_ldv 1000 hA (by decide) rfl rfl 19 _ Try.underlying31 rfl infoT19 (by decide) rfl ?_; refine hK _ ?_; rfl)
                | (go_big_quiet_op; first
                  | (refine hK _ ?_; rfl)
                  | (refine ⟨_, fun _ _ => rfl, ?_⟩; refine hK _ ?_; rfl)
                  | (apply Exists.intro; refine ⟨fun w1 hw1 => ?_, ?_⟩; · (first
                      | fail)
                     refine hK _ ?_; rfl))
            case hD => rfl
            simp only [Act.put, sia, scs, scz]))
       try any_goals exact undef
       refine Bny.E_nil ?_
       intro w9 hE9
       have hv : Mem w w9 (((b_9, (rowT (Tp.read (nn : Int) t).1.t (.slice da2 dn2 dk2) (.slice ba2 bn2 bk2) (.slice pa2 pn2 pk2))) :: (b_14, (rowT (Tp.read (nn : Int) t).1.t (.slice da2 dn2 dk2) (.slice ba2 bn2 bk2) (.slice pa2 pn2 pk2))) :: (sl9.rows ++ [])) ++ []) R2 := hE9.mem0 [1001, 1000, 1002] (by decide)
       clear hE9
       simp only [List.cons_append, List.nil_append, List.append_nil] at hv
       go_wp2
       have hin := HIN.out
       go_roundw
       case rel => exact ⟨i + 1, (Tp.read (nn : Int) t).1.t, outl ++ (Tp.read (nn : Int) t).2, oa9, da2, ba2, pa2, on9, ok9, dn2, dk2, bn2, bk2, pn2, pk2, l2, sl9, R2, by omega, by go_num, rfl, hv.keep (List.Sublist.cons_cons _ (List.sublist_cons_self ..)), HI2, HPR, Lib.hid (by have h := HQ9.out; rwa [← cellsB_appP] at h), Lib.hid (fun x hx => HS2.out x (HS.out x hx))⟩
       case measure => simp [intOf]; omega
     | false =>
       have HX5 := HX5'
       have han := HAN.out
       have hal := HAL.out
       have hfr2 := HFR.out
       obtain ⟨mm, hmm⟩ : ∃ mm : Nat, an - fr = mm := ⟨_, rfl⟩
       have q5 : IntKind.i64.wrap ((an : Int) - (fr : Int)) = (mm : Int) := by rw [IntWalk.i64_in _ (by omega)]; omega
       obtain ⟨n2, hn2⟩ : ∃ n2 : Nat, min nn mm = n2 := ⟨_, rfl⟩
       have q6 : min (nn : Int) (mm : Int) = (n2 : Int) := by omega
       obtain ⟨en, hen⟩ : ∃ en : Nat, fr + n2 = en := ⟨_, rfl⟩
       have q7 : IntKind.i64.wrap ((fr : Int) + (n2 : Int)) = (en : Int) := by rw [IntWalk.i64_in _ (by omega)]; omega
       have q8 : IntKind.u32.wrap (fr : Int) = (fr : Int) := by simp [IntKind.wrap, IntKind.bits, IntKind.signed]; omega
       obtain ⟨sq, hsq⟩ : ∃ sq : Nat, (next + fr) % 4294967296 = sq := ⟨_, rfl⟩
       have q9 : IntKind.u32.wrap ((next : Int) + (fr : Int)) = (sq : Int) := by rw [← hsq]; simp [IntKind.wrap, IntKind.bits, IntKind.signed]
       obtain ⟨fg, hfg, efg⟩ := and_rngT xg 31 31 rfl (by decide)
       obtain ⟨wn, hwn, ewn⟩ := and_rngT xw 65535 65535 rfl (by decide)
       have hnn := HNN.out
       have ham := HS.out _ HA.out
       have hcap : an ≤ ac := by
         obtain ⟨_, _, _, e, _, g, _⟩ := hv.rd ham
         cases e; exact g
       have hv8 := hv.sliced ham (l := fr) (h := en) (m := ac) (by omega) (by omega) (by omega) (Nat.le_refl _)
       obtain ⟨sa, hsl⟩ := sliced_len (ao := aa) (l := fr) (h := en) (m := ac) (k := 1)
       have hen2 : en - fr = n2 := by omega
       have hpart : ((cellsB all).drop (fr * 1)).take ((en - fr) * 1) = cellsB ((all.drop fr).take n2) := by
         rw [hen2, Nat.mul_one, Nat.mul_one]
         unfold cellsB
         rw [List.map_take, List.map_drop]
       rw [hpart, hsl, hen2] at hv8
       rw [hen2] at hsl
       obtain ⟨kc, hkc⟩ : ∃ kc, ac - fr = kc := ⟨_, rfl⟩
       rw [hkc] at hv8 hsl
       obtain ⟨R2, hR2⟩ : ∃ R2, R2 = (1, Value.slice sa n2 kc, cellsB ((all.drop fr).take n2)) :: R1 := ⟨_, rfl⟩
       rw [← hR2] at hv8
       have HI2 : Hid (InC R2 t da dn dk ba bn bk pa pn pk l) := Lib.hid (HI.out.mono fun x hx => by rw [hR2]; exact Mem.s hx)
       have HG : Hid (InG R2 ⟨80, 7, sq, xa, fg, wn, (all.drop fr).take n2⟩ sa n2 kc) := Lib.hid ⟨by rw [hR2]; exact Mem.z, by
         unfold chkG
         rw [decide_eq_true_eq]
         refine ⟨by show 1 ≤ 80; decide, by show 80 ≤ 65535; decide, by show 1 ≤ 7; decide, by show 7 ≤ 65535; decide, hfg, hwn, ?_⟩
         show ((all.drop fr).take n2).length ≤ 64
         rw [List.length_take]; omega, by show sq < 4294967296; omega, HXA.out⟩
       have HS2 : Hid (∀ x ∈ R1, x ∈ R2) := Lib.hid (fun x hx => by rw [hR2]; exact Mem.s hx)
       have HSL := Lib.hid hsl
       have HLH : Hid (fr ≤ en) := Lib.hid (by omega)
       have HHC : Hid (en ≤ ac) := Lib.hid (by omega)
       have HSQ := Lib.hid hsq
       have HFN : Hid (fr + n2 ≤ all.length) := Lib.hid (by omega)
       have HLR2 := Lib.hid (HS2.out _ HLR.out)
       have HSC : Hid (∃ v R', TkV R2 xn ⟨80, 7, sq, xa, fg, wn, (all.drop fr).take n2⟩ t v R') := Lib.hid (Bny.some_of (Take_P hv8 (fun x hx => hx) HI2.out HCK.out HG.out))
       clear hv
       have hv := hv8
       clear hv8 han hal hfr2 hmm hn2 hen hsq hfg hwn hnn ham hcap hsl hen2 hpart hkc hR2
       have hfr' := hfr
       clear hfr hm
       go_wp2_with (first
         | ((with_reducible refine at_load (T := 4) ?_); refine wl_rd rfl (c := cellsQ pl) (hv.rd HLR2.out) (i * 7 + 5) rfl _ Try.underlying4 rfl (.bool false) HX5.out ?_))
       have hv0 := Mem.cast hv (show _ = (([.row b_9 (rowT t (.slice da dn dk) (.slice ba bn bk) (.slice pa pn pk)), sl] : List Bny.Slot).flatMap Bny.Slot.rows ++ []) from by simp [Bny.Slot.rows])
       clear hv
       try simp only [Act.put]
       refine Bny.wp_region_walkS [.row b_9 (rowT t (.slice da dn dk) (.slice ba bn bk) (.slice pa pn pk)), sl] [] [⟨[1000], none⟩, ⟨[], none⟩, ⟨[], none⟩, ⟨[], none⟩, ⟨[], none⟩, ⟨[], none⟩, ⟨[], none⟩, ⟨[], none⟩, ⟨[], none⟩, ⟨[], none⟩, ⟨[], none⟩, ⟨[], none⟩, ⟨[], none⟩, ⟨[], none⟩, ⟨[], none⟩, ⟨[], none⟩, ⟨[], none⟩, ⟨[], none⟩, ⟨[], none⟩, ⟨[], none⟩, ⟨[], none⟩, ⟨[], none⟩, ⟨[], none⟩, ⟨[], none⟩, ⟨[], none⟩, ⟨[], none⟩, ⟨[], none⟩, ⟨[], none⟩, ⟨[], none⟩, ⟨[], none⟩, ⟨[], none⟩, ⟨[], none⟩, ⟨[], none⟩, ⟨[], none⟩, ⟨[], some 34⟩, ⟨[], none⟩, ⟨[], none⟩, ⟨[], none⟩, ⟨[1000], some 1000⟩] [.val, .val, .val, .val, .val, .val, .val, .val, .val, .val, .val, .val, .val, .val, .val, .val, .val, .val, .val, .val, .val, .val, .val, .val, .val, .val, .val, .val, .val, .val, .val, .val, .val, .val, .mem (TkV R2 xn ⟨80, 7, sq, xa, fg, wn, (all.drop fr).take n2⟩ t), .pure, .pure, .pure, .put] (by kernel_rfl) (by kernel_rfl) hv0 (by exact slots2 HSLR.out) ?_
       clear hv0
       simp only [List.length_cons, List.length_nil, Nat.zero_add, Any.someVals]
       iterate 39 apply Exists.intro
       repeat (first
         | (refine Bny.E_off rfl ?_; simp only [Act.put, sia, scs, scz])
         | ((with_reducible refine Bny.at_estore (T := 31) ?_); refine Bny.E_putv (T := 31) rfl rfl rfl rfl rfl rfl 19 infoT19 rfl rfl (rowT_one _ _ _ _ _ _ _ _ _ _) ?_; simp only [Act.put, sia, scs, scz])
         | ((with_reducible refine Bny.at_ecallf (f := 13) ?_); refine Bny.E_callmem rfl rfl rfl (Go.Proofs.enters_of Try.func13 (by kernel_rfl) rfl) rfl [.agg (rowT t (.slice da dn dk) (.slice ba bn bk) (.slice pa pn pk)), .agg #[.int .i64 80, .int .i64 7, .int .u32 sq, .int .u32 xa, .int .i64 fg, .int .i64 wn, .slice sa n2 kc], .int .u64 xn] rfl HSC.out R2 (fun x hx => .inl hx) (fun w0 w L R' hm hs => by have h := Take_P hm hs HI2.out HCK.out (nw := xn) HG.out; exact h) ?_; rintro v R3 ⟨c3, da3, dn3, dk3, ba3, bn3, bk3, pa3, pn3, pk3, l3, ov3, he, ht3, hi3, hs3⟩; obtain rfl : v = .tuple #[.agg (rowT c3.t (.slice da3 dn3 dk3) (.slice ba3 bn3 bk3) (.slice pa3 pn3 pk3)), ov3] := he; have HT3 := Lib.hid ht3; have HI3 := Lib.hid hi3; have HS3 := Lib.hid hs3; clear ht3 hi3 hs3; simp only [Act.put, sia, scs, scz])
         | (apply Bny.E_pureq rfl rfl rfl
            case h => intro K hK; go_big_quiet_op; (refine hK _ ?_; rfl)
            case hr => exact fun _ => rfl
            simp only [Act.put, sia, scs, scz])
         | (apply Bny.E_val rfl rfl rfl rfl
            case h =>
              intro E' hA K hK
              first
                | ((with_reducible refine Bny.at_qload (T := 31) ?_); refine Bny.q_ldv 1000 hA (by decide) rfl rfl 19 _ Try.underlying31 rfl infoT19 (by decide) rfl ?_; refine hK _ ?_; rfl)
                | ((with_reducible refine Bny.at_qload (T := 22) ?_); refine Bny.q_rd (k := 7) (b := lb) (o := lo) (n := ln) (cap := lc) (c := cellsQ pl) (Or.inl HLR2.out) hA (i * 7 + 3) rfl _ Try.underlying22 rfl (.int .u32 xa) HX3.out ?_; refine hK _ ?_; rfl)
                | ((with_reducible refine Bny.at_qload (T := 3) ?_); refine Bny.q_rd (k := 7) (b := lb) (o := lo) (n := ln) (cap := lc) (c := cellsQ pl) (Or.inl HLR2.out) hA (i * 7 + 2) rfl _ Try.underlying3 rfl (.int .i64 xg) HX2.out ?_; refine hK _ ?_; rfl)
                | ((with_reducible refine Bny.at_qload (T := 3) ?_); refine Bny.q_rd (k := 7) (b := lb) (o := lo) (n := ln) (cap := lc) (c := cellsQ pl) (Or.inl HLR2.out) hA (i * 7 + 4) rfl _ Try.underlying3 rfl (.int .i64 xw) HX4.out ?_; refine hK _ ?_; rfl)
                | ((with_reducible refine Bny.at_qload (T := 28) ?_); refine Bny.q_rd (k := 7) (b := lb) (o := lo) (n := ln) (cap := lc) (c := cellsQ pl) (Or.inl HLR2.out) hA (i * 7 + 6) rfl _ Try.underlying28 rfl (.int .u64 xn) HX6.out ?_; refine hK _ ?_; rfl)
                | ((with_reducible refine Any.at_qslice (T := 23) ?_); refine Any.q_slice rfl Try.underlying23 infoB1 (some (.int .i64 fr)) (some (.int .i64 en)) none rfl rfl rfl fr en ac (fun w => bounds_lh HLH.out HHC.out) HSL.out ?_; refine hK _ ?_; rfl)
                | ((with_reducible refine Any.at_qbuild (T := 42) ?_); refine Any.q_build _ rfl (built_sgP _ _ _ _ _ _ _) ?_; refine hK _ ?_; rfl)
                | (go_big_quiet_op; first
                  | (refine hK _ ?_; rfl)
                  | (refine ⟨_, fun _ _ => rfl, ?_⟩; refine hK _ ?_; rfl)
                  | (apply Exists.intro; refine ⟨fun w1 hw1 => ?_, ?_⟩; · (first
                      | fail)
                     refine hK _ ?_; rfl))
            case hD => rfl
            simp only [Act.put, sia, scs, scz]))
       try any_goals exact undef
       refine Bny.E_nil ?_
       intro w9 hE9
       have hv : Mem w w9 (((b_9, (rowT c3.t (.slice da3 dn3 dk3) (.slice ba3 bn3 bk3) (.slice pa3 pn3 pk3))) :: (sl.rows ++ [])) ++ []) R3 := hE9.mem1 [1000, 1001] (by decide) 34 rfl
       clear hE9
       simp only [List.cons_append, List.nil_append, List.append_nil] at hv
       go_wp2
       have hin := HIN.out
       go_roundw
       case rel => exact ⟨i + 1, c3.t, outl, oa, da3, ba3, pa3, on, ok, dn3, dk3, bn3, bk3, pn3, pk3, l3, sl, R3, by omega, by go_num, rfl, hv, HI3, Lib.hid (HP.out.take (by have := HAL.out; have := HAN.out; omega) HFN.out HSQ.out.symm rfl HT3.out), HQ, Lib.hid (fun x hx => HS3.out x (HS2.out x (HS.out x hx)))⟩
       case measure => simp [intOf]; omega
   · have y3 : decide ((i : Int) < (ln : Int)) = false := decide_eq_false (by omega)
     have z3 : decide (i < ln) = false := decide_eq_false (by omega)
     clear hpl hln hgq hi hi0
     obtain ⟨p, hp1, hp2, _⟩ := HP.out.got
     have han := HAN.out
     have hal := HAL.out
     have hlen : outl.length + t.inn.bytes.length = p := by
       have h := congrArg List.length hp2
       simp only [List.length_append, List.length_take] at h
       omega
     have hv8 := HQ.out.own.yield (A := [(b_9, (rowT t (.slice da dn dk) (.slice ba bn bk) (.slice pa pn pk)))]) (B := []) (mem_a0P (A := [(b_9, (rowT t (.slice da dn dk) (.slice ba bn bk) (.slice pa pn pk)))]) hv)
     obtain ⟨R2, hR2⟩ : ∃ R2, R2 = (1, Value.slice oa on ok, cellsB outl) :: R1 := ⟨_, rfl⟩
     rw [← hR2, List.append_nil] at hv8
     clear hv
     have hv := hv8
     have HOM : Hid ((1, Value.slice oa on ok, cellsB outl) ∈ R2) := Lib.hid (by rw [hR2]; exact Mem.z)
     have HI2 : Hid (InC R2 t da dn dk ba bn bk pa pn pk l) := Lib.hid (HI.out.mono fun x hx => by rw [hR2]; exact Mem.s hx)
     have HAM : Hid ((1, Value.slice aa an ac, cellsB all) ∈ R2) := Lib.hid (by rw [hR2]; exact Mem.s (HS.out _ HA.out))
     have HCK := Lib.hid HP.out.ck
     have HB1 : Hid (([] : List Value).length + (cellsB outl).length ≤ 2000) := Lib.hid (by simp only [cellsB, List.length_map, List.length_nil]; omega)
     have HB2 : Hid (([] ++ cellsB outl).length + (cellsB t.inn.bytes).length ≤ 2000) := Lib.hid (by simp only [cellsB, List.length_map, List.length_append, List.length_nil]; omega)
     have HGT : Hid (outl ++ t.inn.bytes = all.take p) := Lib.hid hp2
     have HPA : Hid (p ≤ an) := Lib.hid (by omega)
     have HLE : Hid (outl.length + t.inn.bytes.length = p) := Lib.hid hlen
     clear hv8 hR2 hp1 hp2 han hal hlen HQ HI HS HP
     go_wp2
     have hv0 := Mem.cast hv (show _ = (([.row b_9 (rowT t (.slice da dn dk) (.slice ba bn bk) (.slice pa pn pk))] : List Bny.Slot).flatMap Bny.Slot.rows ++ []) from by simp [Bny.Slot.rows])
     clear hv
     try simp only [Act.put]
     refine Bny.wp_region_walkS [.row b_9 (rowT t (.slice da dn dk) (.slice ba bn bk) (.slice pa pn pk))] [] [⟨[], some 0⟩, ⟨[], none⟩, ⟨[], some 0⟩, ⟨[], none⟩, ⟨[], none⟩, ⟨[1000], none⟩, ⟨[], some 0⟩, ⟨[], none⟩] [.slot (Bny.QS 1 []), .val, .slot (Bny.QS 1 ([] ++ cellsB outl)), .val, .val, .val, .slot (Bny.QS 1 ([] ++ cellsB outl ++ cellsB t.inn.bytes)), .pure] (by kernel_rfl) (by kernel_rfl) hv0 (by intro s hs; rw [List.mem_singleton.1 hs]; rfl) ?_
     clear hv0
     simp only [List.length_cons, List.length_nil, Nat.zero_add, Any.someVals]
     iterate 8 apply Exists.intro
     repeat (first
       | (refine Bny.E_off rfl ?_; simp only [Act.put, sia, scs, scz])
       | ((with_reducible refine Bny.at_ebslQ ?_); refine Bny.E_bslQ (t := 5) (z := #[]) rfl rfl rfl rfl (fun w' => (by unfold execOp; go_simp)) ?_; intro v4 sl4 hq4; obtain ⟨o4, n4, k4, rfl, hn4⟩ := hq4.own.slice; have HQ4 := Lib.hid hq4; clear hq4 hn4; simp only [Act.put, sia, scs, scz])
       | ((with_reducible refine Bny.at_eappQ (t := 23) (dst := some 118) ?_); refine Bny.E_appQ rfl rfl rfl rfl rfl HQ4.out rfl (Or.inl HOM.out) (.int .u8 0) 1 Try.underlying23 infoBz rfl (by decide) ⟨_, (Nat.mul_one _).symm⟩ (cellsB_one _) (bdP HB1.out).1 (bdP HB1.out).2 ?_; intro v5 sl5 hq5; obtain ⟨o5, n5, k5, rfl, hn5⟩ := hq5.own.slice; have HQ5 := Lib.hid hq5; clear hq5; simp only [Act.put, sia, scs, scz])
       | ((with_reducible refine Bny.at_eappQ (t := 23) (dst := some 122) ?_); refine Bny.E_appQ rfl rfl rfl rfl rfl HQ5.out rfl (Or.inl HI2.out.s.b) (.int .u8 0) 1 Try.underlying23 infoBz rfl (by decide) ⟨_, (Nat.mul_one _).symm⟩ (cellsB_one _) (bdP HB2.out).1 (bdP HB2.out).2 ?_; intro v6 sl6 hq6; obtain ⟨o6, n6, k6, rfl, hn6⟩ := hq6.own.slice; have HQ6 := Lib.hid hq6; clear hq6; simp only [Act.put, sia, scs, scz])
       | (apply Bny.E_pureq rfl rfl rfl
          case h => intro K hK; go_big_quiet_op; (refine hK _ ?_; rfl)
          case hr => exact fun _ => rfl
          simp only [Act.put, sia, scs, scz])
       | (apply Bny.E_val rfl rfl rfl rfl
          case h =>
            intro E' hA K hK
            first
              | ((with_reducible refine Bny.at_qload (T := 23) ?_); refine Bny.q_ldc 1000 hA (by decide) rfl rfl _ Try.underlying23 rfl (.slice ba bn bk) rfl ?_; refine hK _ ?_; rfl)
              | (go_big_quiet_op; first
                | (refine hK _ ?_; rfl)
                | (refine ⟨_, fun _ _ => rfl, ?_⟩; refine hK _ ?_; rfl)
                | (apply Exists.intro; refine ⟨fun w1 hw1 => ?_, ?_⟩; · (first
                    | fail)
                   refine hK _ ?_; rfl))
          case hD => rfl
          simp only [Act.put, sia, scs, scz]))
     try any_goals exact undef
     refine Bny.E_nil ?_
     intro w9 hE9
     have hv : Mem w w9 (((b_9, (rowT t (.slice da dn dk) (.slice ba bn bk) (.slice pa pn pk))) :: (sl6.rows ++ [])) ++ []) R2 := hE9.mem0 [1000, 0] (by decide)
     clear hE9
     simp only [List.cons_append, List.nil_append, List.append_nil] at hv
     have hgn : n6 = p := by
       have h1 := hn6
       have h2 := HLE.out
       simp only [cellsB, List.length_append, List.length_map, List.length_nil] at h1
       omega
     have hv8 := HQ6.out.own.yield (A := [(b_9, (rowT t (.slice da dn dk) (.slice ba bn bk) (.slice pa pn pk)))]) (B := []) (mem_a0P (A := [(b_9, (rowT t (.slice da dn dk) (.slice ba bn bk) (.slice pa pn pk)))]) hv)
     have hcc : [] ++ cellsB outl ++ cellsB t.inn.bytes = cellsB (all.take p) := by
       rw [← HGT.out, cellsB_appP, List.nil_append]
     obtain ⟨R3, hR3⟩ : ∃ R3, R3 = (1, Value.slice o6 n6 k6, cellsB (all.take p)) :: R2 := ⟨_, rfl⟩
     rw [hcc, ← hR3, List.append_nil] at hv8
     clear hv
     have hv := hv8
     have HGM : Hid ((1, Value.slice o6 n6 k6, cellsB (all.take p)) ∈ R3) := Lib.hid (by rw [hR3]; exact Mem.z)
     have HI3 : Hid (InC R3 t da dn dk ba bn bk pa pn pk l) := Lib.hid (HI2.out.mono fun x hx => by rw [hR3]; exact Mem.s hx)
     have HAM3 : Hid ((1, Value.slice aa an ac, cellsB all) ∈ R3) := Lib.hid (by rw [hR3]; exact Mem.s HAM.out)
     have HGD : Hid (goodB (all.take p)) := Lib.hid (fun x hx => HGA.out x (List.mem_of_mem_take hx))
     have HN6 := Lib.hid hgn
     have y9 : decide ((n6 : Int) ≤ (an : Int)) = true := decide_eq_true (by have := HPA.out; omega)
     have z9 : decide (n6 ≤ an) = true := decide_eq_true (by have := HPA.out; omega)
     have HPN : Hid (n6 ≤ an) := Lib.hid (by have := HPA.out; omega)
     have HTK : Hid ((cellsB all).take (n6 * 1) = cellsB (all.take p)) := Lib.hid (by rw [hgn, Nat.mul_one]; unfold cellsB; rw [List.map_take])
     clear hv8 hR3 hcc hgn hn6 HQ6
     go_wp2_with (first
       | ((with_reducible refine at_slice (T := 23) ?_); refine wl_slice_h rfl rfl hv HAM3.out Try.underlying23 infoB1 n6 rfl HPN.out ?_; intro ao6 hv7; rw [HTK.out] at hv7; clear hv; have hv := hv7; clear hv7)
       | (go_at_call 16; (refine (Bytes_P _ _ (all.take p) _ (hv.rd (Mem.s HGM.out)) (hv.rd Mem.z) HGD.out).mono ?_); rintro e w1 ⟨rfl, rfl⟩)
       | ((with_reducible refine gLd 31 ?_); refine ldV hv b_9 19 Try.underlying31 infoT19 ?_)
       | (go_at_call 17; (refine (Check_ok hv (HI3.out.mono fun x hx => Mem.s hx) HCK.out).mono ?_); rintro e w1 ⟨rfl, hn1⟩; replace hv := hv.new hn1; clear hn1)
       | (go_at_call 9; (with_reducible refine (heads26 _).mono ?_); rintro e w1 ⟨rfl, hn1⟩; replace hv := hv.new hn1; clear hn1))
     go_ret
     exact ⟨rfl, hv.below⟩
theorem TcpPrefix_any {W : World} {av lv : Value} {all : List Nat} {pl : List Pq} (ha : Rd W 1 av (cellsB all)) (hga : goodB all) (hl : Rd W 7 lv (cellsQ pl)) (hgq : ∀ p ∈ pl, goodQ p) {next iss : Nat} (hnx : next < 4294967296) (his : iss < 4294967296) : Calls Try.prog 4 #[av, .int .u32 next, .int .u32 iss, lv] W fun e w' => e = .returned (.bool true) ∧ New W w' := by
 obtain ⟨aa, an, ac, rfl, _⟩ := id ha
 obtain ⟨la, ln, lc, rfl, _⟩ := id hl
 obtain ⟨R, hR⟩ : ∃ R : List (Nat × Value × List Value), R = [(1, .slice aa an ac, cellsB all), (7, .slice la ln lc, cellsQ pl)] := ⟨_, rfl⟩
 have hv : Mem W W [] R := Mem.all (fun x hx => by
   subst hR
   rcases List.mem_cons.1 hx with rfl | hx
   · exact ha
   · rw [List.mem_singleton.1 hx]; exact hl)
 have h1 : (1, Value.slice aa an ac, cellsB all) ∈ R := by subst hR; exact Mem.z
 have h2 : (7, Value.slice la ln lc, cellsQ pl) ∈ R := by subst hR; exact Mem.s Mem.z
 by_cases h0 : 1000 < an
 · exact Prefix_a aa la an ac ln lc next iss all pl W R hv h1 h2 h0
 · by_cases h3 : 80 < ln
   · exact Prefix_b aa la an ac ln lc next iss all pl W R hv h1 h2 h0 h3
   · exact Prefix_c aa la an ac ln lc next iss all pl W R hv h1 h2 hga hgq hnx his h0 h3
end Go.Proofs.Ythenepdbgeafkaa
