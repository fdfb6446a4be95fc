/-
 Whatever comes a connection stays one that may be: the calls, what is sent read alone (layer 26).
-/
import Derived.Test.YthenepdbgeafkaaGAX
import Derived.Test.YthenepdbgeafkaaGAY
import Derived.Test.YthenepdbgeafkaaGAB
import Derived.Test.YthenepdbgeafkaaGAH
set_option linter.unusedVariables false
set_option linter.unusedSimpArgs false
namespace Go.Proofs.Tp
open Go Go.RowKit Go.Proofs.Wi
def KpC (w0 w' : World) (L : List (Nat × Array Value)) (R : List (Nat × Value × List Value)) (lo po : Nat) (c : C) (vt ov : Value) : Prop :=
 ∃ R2 da dn dk ba bn bk pa pn pk l oa on ok gs, vt = .agg (rowT c.t (.slice da dn dk) (.slice ba bn bk) (.slice pa pn pk)) ∧ ov = .slice oa on ok ∧ Mem w0 w' L R2 ∧ (∀ x ∈ R, x ∈ R2) ∧ (7, .slice oa on ok, cellsG gs) ∈ R2 ∧ InC R2 c.t da dn dk ba bn bk pa pn pk l ∧ AllG R2 gs ∧ gs.map (·.1) = c.out ∧ Kept lo po c ∧ gs.length ≤ 300
def KpO (w0 w' : World) (L : List (Nat × Array Value)) (R : List (Nat × Value × List Value)) (lo po : Nat) (c : C) (vt ov : Value) : Prop :=
 ∃ R2 da dn dk ba bn bk pa pn pk l oa on ok gs O, vt = .agg (rowT c.t (.slice da dn dk) (.slice ba bn bk) (.slice pa pn pk)) ∧ ov = .slice oa on ok ∧ Mem w0 w' (L ++ O) R2 ∧ (∀ x ∈ R, x ∈ R2) ∧ OwnQ 7 (.slice oa on ok) (cellsG gs) O ∧ InC R2 c.t da dn dk ba bn bk pa pn pk l ∧ AllG R2 gs ∧ gs.map (·.1) = c.out ∧ Kept lo po c ∧ gs.length ≤ 300
theorem KpC.of {w0 w' : World} {L : List (Nat × Array Value)} {R R' : List (Nat × Value × List Value)} {lo po : Nat} {c : C} {vt ov : Value} (h : RT w0 w' L (R' ++ R) c vt ov) (hk : Kept lo po c) (hl : c.out.length ≤ 300) : KpC w0 w' L R lo po c vt ov := by
 obtain ⟨da, dn, dk, ba, bn, bk, pa, pn, pk, l, gs, O, rfl, hv, hI, hO⟩ := h
 obtain ⟨oa, on, ok, rfl, hn⟩ := hO.own.slice
 have hlen := hO.len
 exact ⟨_, da, dn, dk, ba, bn, bk, pa, pn, pk, l, oa, on, ok, gs, rfl, rfl, hO.own.yield (A := []) (B := L) hv, fun x hx => Mem.s (List.mem_append_right _ hx), Mem.z, hI.mono fun x hx => Mem.s hx, hO.all.mono fun x hx => Mem.s hx, hO.eq, hk, by omega⟩
theorem KpO.of {w0 w' : World} {L : List (Nat × Array Value)} {R R' : List (Nat × Value × List Value)} {lo po : Nat} {c : C} {vt ov : Value} (h : RT w0 w' L (R' ++ R) c vt ov) (hk : Kept lo po c) (hl : c.out.length ≤ 300) : KpO w0 w' L R lo po c vt ov := by
 obtain ⟨da, dn, dk, ba, bn, bk, pa, pn, pk, l, gs, O, rfl, hv, hI, hO⟩ := h
 obtain ⟨oa, on, ok, rfl, hn⟩ := hO.own.slice
 have hlen := hO.len
 exact ⟨_, da, dn, dk, ba, bn, bk, pa, pn, pk, l, oa, on, ok, gs, O, rfl, rfl, hv.perm List.perm_append_comm, fun x hx => List.mem_append_right _ hx, hO.own.q, hI, hO.all, hO.eq, hk, by omega⟩
theorem Kept.each {lo po : Nat} {c : C} {gs : List Gv} (h : Kept lo po c) (he : gs.map (·.1) = c.out) : ∀ g ∈ gs, chkG g.1 = true ∧ g.1.src = lo ∧ g.1.dst = po := fun g hg => h.1.out g.1 (by rw [← he]; exact List.mem_map.2 ⟨g, hg, rfl⟩)
theorem chkI_g {s d fl wn : Int} {dn : Nat} (h : chkI s d fl wn dn = true) : (1 ≤ s ∧ s ≤ 65535) ∧ (1 ≤ d ∧ d ≤ 65535) ∧ (0 ≤ fl ∧ fl ≤ 31) ∧ (0 ≤ wn ∧ wn ≤ 65535) ∧ dn ≤ 64 := by
 unfold chkI at h
 simp only [Bool.and_eq_true, decide_eq_true_eq] at h
 omega
end Go.Proofs.Tp
namespace Go.Proofs.Ythenepdbgeafkaa
open Go.Proofs.Wi Go.RowKit Go.Proofs Go.Proofs.Tp
theorem Take_K {w0 w : World} {L : List (Nat × Array Value)} {R : List (Nat × Value × List Value)} (hv : Mem w0 w L R) {t : T} {da ba pa : Option Addr} {dn dk bn bk pn pk : Nat} {l : List PcV} (hI : InC R t da dn dk ba bn bk pa pn pk l) (hck : chkT t = true) {nw : Nat} {src dst fl wnd : Int} {seq ack : Nat} {sa : Option Addr} {sn sk : Nat} {D : List Nat} (hd : (1, Value.slice sa sn sk, cellsB D) ∈ R) (hsq : seq < 4294967296) (hak : ack < 4294967296) (hfl : -9223372036854775808 ≤ fl ∧ fl ≤ 9223372036854775807) : Calls Try.prog 13 #[.agg #[.int .i64 (t.st : Nat), .int .i64 (t.lo : Nat), .int .u32 (t.ip : Nat), .int .i64 (t.po : Nat), .int .u32 (t.iss : Nat), .int .u32 (t.una : Nat), .int .u32 (t.nx : Nat), .slice da dn dk, .int .i64 (t.wnd : Nat), .bool t.en, .bool t.se, .int .u32 (t.inn.next : Nat), .slice ba bn bk, .slice pa pn pk, .bool t.ed, .int .u64 (t.tm : Nat), .int .i64 (t.rto : Nat), .int .i64 (t.tr : Nat), .int .i64 (t.er : Nat)], .agg #[.int .i64 src, .int .i64 dst, .int .u32 seq, .int .u32 ack, .int .i64 fl, .int .i64 wnd, .slice sa sn sk], .int .u64 nw] w fun e w' => ∃ c vt ov, e = .returned (.tuple #[vt, ov]) ∧ KpO w0 w' L R t.lo t.po c vt ov := by
 cases hc : chkI src dst fl wnd sn with
 | false =>
   refine (Take_bad_T hv hI hck (nw := nw) (fun w1 => ?_)).mono ?_
   · have h := SCheck_any (.int .u32 seq) (.int .u32 ack) src dst fl wnd hfl (dn := sn) (dk := sk) (da := sa) w1
     rw [hc] at h
     exact h
   · rintro e w' ⟨R', vt, ov, rfl, hr⟩
     exact ⟨_, vt, ov, rfl, KpO.of hr (Tp.start hck) (Nat.zero_le _)⟩
 | true =>
   obtain ⟨h1, h2, h3, h4, h5⟩ := chkI_g hc
   have hsn : D.length = sn := len_rd1 (hv.rd hd)
   have hg : InG R ⟨src.toNat, dst.toNat, seq, ack, fl.toNat, wnd.toNat, D⟩ sa sn sk := ⟨hd, by
     unfold chkG
     rw [decide_eq_true_eq]
     dsimp only
     omega, hsq, hak⟩
   have e1 : src = ((src.toNat : Nat) : Int) := by omega
   have e2 : dst = ((dst.toNat : Nat) : Int) := by omega
   have e3 : fl = ((fl.toNat : Nat) : Int) := by omega
   have e4 : wnd = ((wnd.toNat : Nat) : Int) := by omega
   have h := Take_T hv hI hck (nw := nw) hg
   dsimp only at h
   rw [← e1, ← e2, ← e3, ← e4] at h
   refine h.mono ?_
   rintro e w' ⟨c', R', vt, ov, rfl, ht, hr⟩
   exact ⟨c', vt, ov, rfl, KpO.of hr (take_kept hck ht) (take_len ht)⟩
theorem Tick_K {w0 w : World} {L : List (Nat × Array Value)} {R : List (Nat × Value × List Value)} (hv : Mem w0 w L R) {t : T} {da ba pa : Option Addr} {dn dk bn bk pn pk : Nat} {l : List PcV} (hI : InC R t da dn dk ba bn bk pa pn pk l) (hck : chkT t = true) {nw : Nat} : Calls Try.prog 19 #[.agg #[.int .i64 (t.st : Nat), .int .i64 (t.lo : Nat), .int .u32 (t.ip : Nat), .int .i64 (t.po : Nat), .int .u32 (t.iss : Nat), .int .u32 (t.una : Nat), .int .u32 (t.nx : Nat), .slice da dn dk, .int .i64 (t.wnd : Nat), .bool t.en, .bool t.se, .int .u32 (t.inn.next : Nat), .slice ba bn bk, .slice pa pn pk, .bool t.ed, .int .u64 (t.tm : Nat), .int .i64 (t.rto : Nat), .int .i64 (t.tr : Nat), .int .i64 (t.er : Nat)], .int .u64 nw] w fun e w' => ∃ c vt ov, e = .returned (.tuple #[vt, ov]) ∧ KpC w0 w' L R t.lo t.po c vt ov := by
 refine (Tick_T hv hI hck (nw := nw)).mono ?_
 rintro e w' ⟨R', vt, ov, rfl, hr⟩
 exact ⟨_, vt, ov, rfl, KpC.of hr (tick_kept hck nw) (Nat.le_trans (tick_len nw t) (by decide))⟩
theorem Close_K {w0 w : World} {L : List (Nat × Array Value)} {R : List (Nat × Value × List Value)} (hv : Mem w0 w L R) {t : T} {da ba pa : Option Addr} {dn dk bn bk pn pk : Nat} {l : List PcV} (hI : InC R t da dn dk ba bn bk pa pn pk l) (hck : chkT t = true) {nw : Nat} : Calls Try.prog 12 #[.agg #[.int .i64 (t.st : Nat), .int .i64 (t.lo : Nat), .int .u32 (t.ip : Nat), .int .i64 (t.po : Nat), .int .u32 (t.iss : Nat), .int .u32 (t.una : Nat), .int .u32 (t.nx : Nat), .slice da dn dk, .int .i64 (t.wnd : Nat), .bool t.en, .bool t.se, .int .u32 (t.inn.next : Nat), .slice ba bn bk, .slice pa pn pk, .bool t.ed, .int .u64 (t.tm : Nat), .int .i64 (t.rto : Nat), .int .i64 (t.tr : Nat), .int .i64 (t.er : Nat)], .int .u64 nw] w fun e w' => ∃ c vt ov, e = .returned (.tuple #[vt, ov]) ∧ KpC w0 w' L R t.lo t.po c vt ov := by
 refine (Close_T hv hI hck (nw := nw)).mono ?_
 rintro e w' ⟨R', vt, ov, rfl, hr⟩
 exact ⟨_, vt, ov, rfl, KpC.of hr (close_kept hck nw) (Nat.le_trans (close_len nw t) (by decide))⟩
theorem Write_K {w0 w : World} {L : List (Nat × Array Value)} {R : List (Nat × Value × List Value)} (hv : Mem w0 w L R) {t : T} {da ba pa : Option Addr} {dn dk bn bk pn pk : Nat} {l : List PcV} (hI : InC R t da dn dk ba bn bk pa pn pk l) (hck : chkT t = true) {nw : Nat} {b : List Nat} {xa : Option Addr} {xn xk : Nat} (hb : (1, .slice xa xn xk, cellsB b) ∈ R) (hbl : b.length ≤ 1000) : Calls Try.prog 11 #[.agg #[.int .i64 (t.st : Nat), .int .i64 (t.lo : Nat), .int .u32 (t.ip : Nat), .int .i64 (t.po : Nat), .int .u32 (t.iss : Nat), .int .u32 (t.una : Nat), .int .u32 (t.nx : Nat), .slice da dn dk, .int .i64 (t.wnd : Nat), .bool t.en, .bool t.se, .int .u32 (t.inn.next : Nat), .slice ba bn bk, .slice pa pn pk, .bool t.ed, .int .u64 (t.tm : Nat), .int .i64 (t.rto : Nat), .int .i64 (t.tr : Nat), .int .i64 (t.er : Nat)], .slice xa xn xk, .int .u64 nw] w fun e w' => ∃ c vt ov n er, e = .returned (.tuple #[vt, .int .i64 n, ov, .int .i64 er]) ∧ KpC w0 w' L R t.lo t.po c vt ov := by
 by_cases hs : t.st = 3 ∨ t.st = 6
 · refine (Write_T hv hI hck (nw := nw) hb hbl hs rfl).mono ?_
   rintro e w' ⟨R', vt, ov, rfl, hr⟩
   exact ⟨_, vt, ov, _, _, rfl, KpC.of hr (write_kept hck hs b nw) (Nat.le_trans (write_len b nw t) (by decide))⟩
 · refine (Write_no hv hI hck (nw := nw) (xa := xa) (xn := xn) (xk := xk) (fun h => hs (.inl h)) (fun h => hs (.inr h))).mono ?_
   rintro e w' ⟨R', vt, ov, rfl, hr⟩
   exact ⟨_, vt, ov, _, _, rfl, KpC.of hr (Tp.start hck) (Nat.zero_le _)⟩
theorem Write_E {w0 w : World} {L : List (Nat × Array Value)} {R : List (Nat × Value × List Value)} (hv : Mem w0 w L R) {t : T} {da ba pa : Option Addr} {dn dk bn bk pn pk : Nat} {l : List PcV} (hI : InC R t da dn dk ba bn bk pa pn pk l) (hck : chkT t = true) {nw : Nat} {b : List Nat} {xa : Option Addr} {xn xk : Nat} (hb : (1, .slice xa xn xk, cellsB b) ∈ R) (hbl : b.length ≤ 1000) (hs : t.st = 3 ∨ t.st = 6) {n : Nat} (hn : min b.length (256 - t.data.length) = n) : Calls Try.prog 11 #[.agg #[.int .i64 (t.st : Nat), .int .i64 (t.lo : Nat), .int .u32 (t.ip : Nat), .int .i64 (t.po : Nat), .int .u32 (t.iss : Nat), .int .u32 (t.una : Nat), .int .u32 (t.nx : Nat), .slice da dn dk, .int .i64 (t.wnd : Nat), .bool t.en, .bool t.se, .int .u32 (t.inn.next : Nat), .slice ba bn bk, .slice pa pn pk, .bool t.ed, .int .u64 (t.tm : Nat), .int .i64 (t.rto : Nat), .int .i64 (t.tr : Nat), .int .i64 (t.er : Nat)], .slice xa xn xk, .int .u64 nw] w fun e w' => ∃ vt ov, e = .returned (.tuple #[vt, .int .i64 n, ov, .int .i64 0]) ∧ KpC w0 w' L R t.lo t.po (write b nw t) vt ov := by
 refine (Write_T hv hI hck (nw := nw) hb hbl hs hn).mono ?_
 rintro e w' ⟨R', vt, ov, rfl, hr⟩
 exact ⟨vt, ov, rfl, KpC.of hr (write_kept hck hs b nw) (Nat.le_trans (write_len b nw t) (by decide))⟩
theorem Tick_E {w0 w : World} {L : List (Nat × Array Value)} {R : List (Nat × Value × List Value)} (hv : Mem w0 w L R) {t : T} {da ba pa : Option Addr} {dn dk bn bk pn pk : Nat} {l : List PcV} (hI : InC R t da dn dk ba bn bk pa pn pk l) (hck : chkT t = true) {nw : Nat} : Calls Try.prog 19 #[.agg #[.int .i64 (t.st : Nat), .int .i64 (t.lo : Nat), .int .u32 (t.ip : Nat), .int .i64 (t.po : Nat), .int .u32 (t.iss : Nat), .int .u32 (t.una : Nat), .int .u32 (t.nx : Nat), .slice da dn dk, .int .i64 (t.wnd : Nat), .bool t.en, .bool t.se, .int .u32 (t.inn.next : Nat), .slice ba bn bk, .slice pa pn pk, .bool t.ed, .int .u64 (t.tm : Nat), .int .i64 (t.rto : Nat), .int .i64 (t.tr : Nat), .int .i64 (t.er : Nat)], .int .u64 nw] w fun e w' => ∃ vt ov, e = .returned (.tuple #[vt, ov]) ∧ KpC w0 w' L R t.lo t.po (tick nw ⟨t, []⟩) vt ov := by
 refine (Tick_T hv hI hck (nw := nw)).mono ?_
 rintro e w' ⟨R', vt, ov, rfl, hr⟩
 exact ⟨vt, ov, rfl, KpC.of hr (tick_kept hck nw) (Nat.le_trans (tick_len nw t) (by decide))⟩
theorem Read_K {w0 w : World} {L : List (Nat × Array Value)} {R : List (Nat × Value × List Value)} (hv : Mem w0 w L R) {t : T} {da ba pa : Option Addr} {dn dk bn bk pn pk : Nat} {l : List PcV} (hI : InC R t da dn dk ba bn bk pa pn pk l) (hck : chkT t = true) {n : Int} : Calls Try.prog 14 #[.agg #[.int .i64 (t.st : Nat), .int .i64 (t.lo : Nat), .int .u32 (t.ip : Nat), .int .i64 (t.po : Nat), .int .u32 (t.iss : Nat), .int .u32 (t.una : Nat), .int .u32 (t.nx : Nat), .slice da dn dk, .int .i64 (t.wnd : Nat), .bool t.en, .bool t.se, .int .u32 (t.inn.next : Nat), .slice ba bn bk, .slice pa pn pk, .bool t.ed, .int .u64 (t.tm : Nat), .int .i64 (t.rto : Nat), .int .i64 (t.tr : Nat), .int .i64 (t.er : Nat)], .int .i64 n] w fun e w' => ∃ c vt ov gv, e = .returned (.tuple #[vt, gv, ov]) ∧ KpC w0 w' L R t.lo t.po c vt ov := by
 refine (Read_T hv hI hck (n := n)).mono ?_
 rintro e w' ⟨R', vt, ga, gn, gk, ov, rfl, hg, hr⟩
 exact ⟨_, vt, ov, _, rfl, KpC.of hr (read_kept hck n) (Nat.le_trans (read_len n t) (by decide))⟩
end Go.Proofs.Ythenepdbgeafkaa
