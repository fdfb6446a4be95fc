import Derived.Test.YthenepdbgeafkaaTc1
import Derived.Test.YthenepdbgeafkaaGAP
import Derived.Test.YthenepdbgeafkaaGAB
set_option linter.unusedSimpArgs false
set_option linter.unusedVariables false
set_option maxRecDepth 100000
set_option maxHeartbeats 16000000
section
/-
 Connections (layer 26): a segment is sent.
-/
namespace Go.Proofs.Tp
open Go Go.RowKit Go.Proofs.Wi
variable {R : LR}
def RoomW (R0 : LR) (s : St) (v : Value) (R' : LR) : Prop := v = .int .i64 ((room s).toNat : Nat) ∧ ∀ x ∈ R0, x ∈ R'
def CloneW (R0 : LR) (data : List Nat) (v : Value) (R' : LR) : Prop := ∃ a n k, v = .slice a n k ∧ (1, v, cellsB data) ∈ R' ∧ ∀ x ∈ R0, x ∈ R'
theorem has16 : ∀ fl : Fin 32, bits .and .i64 ((fl.val : Nat) : Int) 16 = if has fl.val 16 then 16 else 0 := by decide +kernel
theorem and_16 {fl : Nat} (h : fl ≤ 31) : bits .and .i64 (fl : Int) 16 = if has fl 16 then 16 else 0 := has16 ⟨fl, by omega⟩
theorem CM.addR {w0 w : World} {bc nw : Nat} {L : LV} {c : C} (h : CM w0 w bc L R nw c) : CM w0 w bc L ((1, .slice none 0 0, cellsB []) :: R) nw c := by
 obtain ⟨da, dn, dk, ba, bn, bk, pa, pn, pk, l, ov, gs, O, hv, hI, hO⟩ := h
 exact ⟨da, dn, dk, ba, bn, bk, pa, pn, pk, l, ov, gs, O, hv.fresh (Below.refl _ _) (FR.nil _ _ 1), hI.mono fun x hx => Mem.s hx, hO.mono fun x hx => Mem.s hx⟩
theorem CMP.addR {w0 : World} {bc nw : Nat} {L : LV} {c : C} {v : Value} {x : Nat × Value × List Value} {e : Ending} {w' : World} (h : CMP w0 bc L (x :: R) nw v c e w') : CMP w0 bc L R nw v c e w' := by
 obtain ⟨R', rfl, h⟩ := h
 exact ⟨R' ++ [x], rfl, by simpa using h⟩
theorem OutC.snoc {out : List G} {ov : Value} {gs : List Gv} {O : LV} (h : OutC R out ov gs O) {g : G} {v ov' : Value} {x : Nat × Array Value} (hx : AppRow ov' 7 (cellsG gs ++ encG (g, v)) x) (hm : (1, v, cellsB g.data) ∈ R) : OutC R (out ++ [g]) ov' (gs ++ [(g, v)]) [x] :=
 ⟨by rw [cellsG_snoc]; exact OwnL.row hx, fun y hy => by
   rcases List.mem_append.1 hy with hy | hy
   · exact h.all y hy
   · rw [List.mem_singleton.1 hy]; exact hm, by rw [List.map_append, h.eq]; rfl⟩
end Go.Proofs.Tp
namespace Go.Proofs.Ythenepdbgeafkaa
open Go.Proofs.Wi Go.RowKit Go.Proofs Go.Proofs.Tp
variable {w0 w : World} {L : LV} {R : LR} {t : T} {xa : Option Addr} {xn xk : Nat}
theorem infoGz : (Try.prog.info? 42).map (fun i => (i.zero, i.size, i.bytes)) = some (some (.agg #[.int .i64 0, .int .i64 0, .int .u32 0, .int .u32 0, .int .i64 0, .int .i64 0, .slice none 0 0]), 7, 64) := by kernel_rfl
theorem Room_V {R0 : LR} (hv : Mem w0 w L R) (hs : ∀ x ∈ R0, x ∈ R) {da ba pa : Option Addr} {dn dk bn bk pn pk : Nat} {l : List PcV} (hI : InC R0 t da dn dk ba bn bk pa pn pk l) : Calls Try.prog 36 #[.agg #[.int .u32 t.inn.next, .slice ba bn bk, .slice pa pn pk]] w fun e w' => ∃ v R', e = .returned v ∧ RoomW R0 t.inn v R' ∧ Mem w0 w' L R' ∧ ∀ x ∈ R, x ∈ R' := by
 refine (Room_S hv (hI.s.mono hs) hI.ck).mono ?_
 rintro e w' ⟨rfl, hn⟩
 have := (room_nn hI.ck).1
 exact ⟨_, R, rfl, ⟨by rw [Int.toNat_of_nonneg this], hs⟩, hv.new hn, fun x hx => hx⟩
theorem Clone_V {R0 : LR} (hv : Mem w0 w L R) (hs : ∀ x ∈ R0, x ∈ R) {data : List Nat} (hm : (1, .slice xa xn xk, cellsB data) ∈ R0) (hn : xn ≤ 1000000) : Calls Try.prog 63 #[.slice xa xn xk] w fun e w' => ∃ v R', e = .returned v ∧ CloneW R0 data v R' ∧ Mem w0 w' L R' ∧ ∀ x ∈ R, x ∈ R' := by
 refine (BClone_mem xa xn xk _ w0 w L R hv (hs _ hm) (cellsB_one data) hn).mono ?_
 rintro e w' ⟨ra, rn, rk, rfl, hv1⟩
 exact ⟨_, _, rfl, ⟨ra, rn, rk, rfl, Mem.z, fun x hx => Mem.s (hs x hx)⟩, hv1, fun x hx => Mem.s hx⟩
theorem built_sg (a b c d e : Int) (x : Option Addr) (n k : Nat) : Try.prog.built 42 [(0, .int .i64 a), (1, .int .i64 b), (2, .int .u32 c), (4, .int .i64 d), (5, .int .i64 e), (6, .slice x n k)] = some #[.int .i64 a, .int .i64 b, .int .u32 c, .int .u32 0, .int .i64 d, .int .i64 e, .slice x n k] := by kernel_rfl
theorem send_ack {bc nw : Nat} {out : List G} (hc : CM w0 w bc L R nw ⟨t, out⟩) (hl : out.length ≤ 1000) {fl seq : Nat} {data : List Nat} (hm : (1, .slice xa xn xk, cellsB data) ∈ R) (hd : data.length ≤ 1000) (hf : fl ≤ 31) (hh : has fl 16 = true) :
   Calls Try.prog 44 #[.pointer (some ⟨bc, 0, none⟩), .int .i64 fl, .int .u32 seq, .slice xa xn xk] w (CMP w0 bc L R nw (.tuple #[]) (send fl seq data ⟨t, out⟩)) := by
 obtain ⟨da, dn, dk, ba, bn, bk, pa, pn, pk, l, ov, gs, O, hv, HI, HO⟩ := hc.get
 clear hc
 have q1 : bits .and .i64 (fl : Int) 16 = 16 := by rw [and_16 hf, if_pos hh]
 have hS : send fl seq data ⟨t, out⟩ = ⟨t, out ++ [(⟨t.lo, t.po, seq, t.inn.next, fl, (room t.inn).toNat, data⟩ : G)]⟩ := by unfold send Tp.seg; rw [if_pos hh]
 rw [hS]
 have hxn : xn ≤ 1000000 := by have := len_rd1 (hv.rd hm); omega
 have HX := Lib.hid hm
 have HXN := Lib.hid hxn
 have HSR : Hid (∃ v R', RoomW R t.inn v R') := Lib.hid ⟨_, R, rfl, fun x hx => hx⟩
 have HSC : Hid (∃ v R', CloneW R data v R') := Lib.hid ⟨_, R, xa, xn, xk, rfl, hm, fun x hx => hx⟩
 have hB3 : 1 ≤ maxLen := by unfold maxLen; omega
 have HB0 : Hid (∀ (za : Option Addr) (zn zk : Nat), ∀ x ∈ ([.int .i64 t.lo, .int .i64 t.po, .int .u32 seq, .int .u32 t.inn.next, .int .i64 fl, .int .i64 ((room t.inn).toNat : Nat), .slice za zn zk] : List Value), x.oneCell' = true) := Lib.hid (fun za zn zk x hx => by
   simp at hx
   rcases hx with rfl | rfl | rfl | rfl | rfl | rfl | rfl <;> rfl)
 have hgl : gs.length = out.length := HO.out.len
 have HC1 : Hid ((0 + 1 + 1 + 1 + 1 + 1 + 1 + 1) / 7 ≤ maxLen) := Lib.hid (by unfold maxLen; omega)
 have HC2 : Hid ((0 + 1 + 1 + 1 + 1 + 1 + 1 + 1) / 7 * 64 ≤ 140737488355328) := Lib.hid (by omega)
 have HD1 : Hid (((cellsG gs).length + (0 + 1 + 1 + 1 + 1 + 1 + 1 + 1)) / 7 ≤ maxLen) := Lib.hid (by rw [cellsG_len, hgl]; unfold maxLen; omega)
 have HD2 : Hid (((cellsG gs).length + (0 + 1 + 1 + 1 + 1 + 1 + 1 + 1)) / 7 * 64 ≤ 140737488355328) := Lib.hid (by rw [cellsG_len, hgl]; omega)
 clear hm hd hf hh hxn hl hS hgl
 go_enter Try.func44, Try.ntmps44
 go_wp2
 try simp only [Act.put]
 refine Bny.wr1 23 [(4, [1000], none), (9, [1000], none), (16, [1000], none), (17, [], some 17), (19, [], some 19), (21, [], some 21), (22, [21], some 21)] [(17, .mem (RoomW R t.inn)), (19, .mem (CloneW R data)), (20, .pure), (21, .lay #[.int .i64 0, .int .i64 0, .int .u32 0, .int .u32 0, .int .i64 0, .int .i64 0, .slice none 0 0]), (22, .put)] hv ?_
 simp only [Any.someVals]
 iterate 23 apply Exists.intro
 repeat ((first
  | refine Bny.E_off rfl ?_
  | ((with_reducible refine Bny.at_ealloc ?_); refine Bny.E_lay (t := 42) rfl rfl rfl (fun _ => rfl) ?_; intro b_8)
  | ((with_reducible refine Bny.at_estore (T := 42) ?_); refine Bny.E_putv (T := 42) rfl rfl rfl rfl rfl rfl 7 infoG7 rfl rfl (by simp [Value.oneCell']) ?_)
  | ((with_reducible refine Bny.at_ebuild (T := 42) ?_); refine Bny.E_build rfl rfl rfl _ rfl (built_sg _ _ _ _ _ _ _ _) ?_)
  | ((with_reducible refine Bny.at_ecallf (f := 36) ?_); refine Bny.E_callmem rfl rfl rfl (Go.Proofs.enters_of Try.func36 (by kernel_rfl) rfl) rfl [.agg #[.int .u32 t.inn.next, .slice ba bn bk, .slice pa pn pk]] rfl HSR.out R (fun x hx => .inl hx) (fun w0 w L R' hm hs => Room_V hm hs HI.out) ?_; rintro v R2 ⟨rfl, hs2⟩; clear hs2)
  | ((with_reducible refine Bny.at_ecallf (f := 63) ?_); refine Bny.E_callmem rfl rfl rfl (Go.Proofs.enters_of Try.func63 (by kernel_rfl) rfl) rfl [.slice xa xn xk] rfl HSC.out R (fun x hx => .inl hx) (fun w0 w L R' hm hs => Clone_V hm hs HX.out HXN.out) ?_; rintro v R2 ⟨za, zn, zk, rfl, hz2, hs2⟩; have HZ2 := Lib.hid hz2; have HS2 := Lib.hid hs2; clear hz2 hs2)
  | refine Bny.ePq ?_
  | ((with_reducible refine Bny.gE 3 ?_); refine Bny.eC 1000 (.int .i64 t.lo) Try.underlying3 ?_)
  | ((with_reducible refine Bny.gE 3 ?_); refine Bny.eC 1000 (.int .i64 t.po) Try.underlying3 ?_)
  | (apply Bny.E_val rfl rfl rfl rfl
     case h =>
      intro E' hA K hK
      first
       | ((with_reducible refine Bny.at_qload (T := 27) ?_); refine Bny.q_ldp 1000 (o := 11) hA (by decide) rfl rfl 3 _ Try.underlying27 rfl infoStr (by decide) (by show 11 + 3 ≤ 21; decide) #[.int .u32 t.inn.next, .slice ba bn bk, .slice pa pn pk] (ext21s _ _ _ _ _ _ _ _ _ _ _ _ _ _ _ _ _ _ _ _ _) ?_; refine hK _ ?_; rfl)
     case hD => rfl)
  | refine Bny.eV ?_); simp only [Act.put, sia, scs, scz])
 try any_goals exact undef
 refine Bny.finr [21, 1000] 19 ?_; clear hv; intro w9 hv
 go_wp2_with (first
   | ((with_reducible refine gLd 22 ?_); refine ldC hv bc 11 (.int .u32 t.inn.next) Try.underlying22 ?_)
   | ((with_reducible refine gSt 22 ?_); refine stC hv b_8 3 (.int .u32 t.inn.next) ?_; clear hv; intro w2 hv))
 try simp only [Act.put]
 rcases HO.out.own with ⟨rfl, hz, rfl⟩ | ⟨x0, hrow, rfl⟩
 · obtain rfl : gs = [] := by
     have := congrArg List.length hz
     rw [cellsG_len] at this
     exact List.length_eq_zero_iff.1 (by simp at this; omega)
   simp only [List.nil_append] at hv
   clear hz
   refine Any.wr2 11 [(4, [1001], none), (5, [1000], none), (6, [], some 6), (7, [6], some 7), (10, [1001], some 1001)] [(6, .laidBy (fun B => .slice (some ⟨B, 0, none⟩) 1 1)), (7, .env 6 (fun zs v x => AppRow v 7 zs.toList x)), (10, .put)] hv ?_
   simp only [Any.someVals]
   iterate 11 apply Exists.intro
   repeat ((first
    | refine Any.E_off rfl ?_
    | ((with_reducible refine Any.gE 32 ?_); refine Any.eC 1001 (.slice none 0 0) Try.underlying32 ?_)
    | ((with_reducible refine Any.gE 42 ?_); refine Any.eW 1000 7 Try.underlying42 infoG7 ?_)
    | refine Any.eV ?_
    | ((with_reducible refine Any.at_ebsl ?_); refine Any.E_bslA (z := #[.int .i64 t.lo, .int .i64 t.po, .int .u32 seq, .int .u32 t.inn.next, .int .i64 fl, .int .i64 ((room t.inn).toNat : Nat), .slice za zn zk]) (t := 42) rfl rfl rfl (fun w' => (by unfold execOp; go_simp)) ?_; intro B6)
    | ((with_reducible refine Any.at_eapp (t := 32) ?_); refine Any.E_appnilE (j := 6) rfl rfl rfl rfl rfl (by decide) rfl rfl rfl hB3 (List.cons_ne_nil _ _) (.agg #[.int .i64 0, .int .i64 0, .int .u32 0, .int .u32 0, .int .i64 0, .int .i64 0, .slice none 0 0]) 64 Try.underlying32 infoGz rfl (by decide) (HB0.out _ _ _) HC1.out HC2.out ?_; intro v8 x8 ha8; obtain ⟨n8, c8, rfl, g8⟩ := id ha8; replace g8 := Lib.hid g8; replace ha8 := Lib.hid ha8)
    | ((with_reducible refine Any.at_estore (T := 32) ?_); refine Any.E_putc (T := 32) (v := .slice (some ⟨x8.1, 0, none⟩) n8 c8) rfl rfl rfl rfl rfl rfl (by kernel_rfl) rfl (by show 20 < 21; decide) ?_)); simp only [Act.put, sia, scs, scz])
   try any_goals exact undef
   refine Any.fin2 hv [1001, 7] ?_; clear hv; intro w9 hv
   go_end0
   have hO2 := (HO.out.mono (fun x hx => mem_app R2 hx)).snoc (g := (⟨t.lo, t.po, seq, t.inn.next, fl, (room t.inn).toNat, data⟩ : G)) (v := .slice za zn zk) ha8.out (List.mem_append_left _ HZ2.out)
   exact ⟨R2, rfl, CM.of (A := []) (O := [x8]) (c := ⟨t, out ++ [(⟨t.lo, t.po, seq, t.inn.next, fl, (room t.inn).toNat, data⟩ : G)]⟩) (hv.keepR (fun x hx => (List.mem_append.1 hx).elim id (HS2.out x))) (HI.out.mono (fun x hx => mem_app R2 hx)) hO2⟩
 · obtain ⟨on, oc, rfl, g0⟩ := id hrow
   replace hrow := Lib.hid hrow
   clear g0
   simp only [List.cons_append, List.nil_append] at hv
   refine Any.wr3 11 [(4, [1001], none), (5, [1000], none), (6, [], some 6), (7, [6], some 1002), (10, [1001], some 1001)] [(6, .laidBy (fun B => .slice (some ⟨B, 0, none⟩) 1 1)), (7, .env 6 (fun zs v x => AppRow v 7 (cellsG gs ++ zs.toList) x)), (10, .put)] hv ?_
   simp only [Any.someVals]
   iterate 11 apply Exists.intro
   repeat ((first
    | refine Any.E_off rfl ?_
    | ((with_reducible refine Any.gE 32 ?_); refine Any.eC 1001 (.slice (some ⟨x0.1, 0, none⟩) on oc) Try.underlying32 ?_)
    | ((with_reducible refine Any.gE 42 ?_); refine Any.eW 1000 7 Try.underlying42 infoG7 ?_)
    | refine Any.eV ?_
    | ((with_reducible refine Any.at_ebsl ?_); refine Any.E_bslA (z := #[.int .i64 t.lo, .int .i64 t.po, .int .u32 seq, .int .u32 t.inn.next, .int .i64 fl, .int .i64 ((room t.inn).toNat : Nat), .slice za zn zk]) (t := 42) rfl rfl rfl (fun w' => (by unfold execOp; go_simp)) ?_; intro B6)
    | ((with_reducible refine Any.at_eapp (t := 32) ?_); refine Any.E_appE (j := 6) rfl rfl rfl rfl rfl hrow.out rfl (by decide) rfl rfl rfl hB3 (.agg #[.int .i64 0, .int .i64 0, .int .u32 0, .int .u32 0, .int .i64 0, .int .i64 0, .slice none 0 0]) 64 Try.underlying32 infoGz rfl (by decide) (HB0.out _ _ _) HD1.out HD2.out ?_; intro v8 x8 ha8; obtain ⟨n8, c8, rfl, g8⟩ := id ha8; replace g8 := Lib.hid g8; replace ha8 := Lib.hid ha8)
    | ((with_reducible refine Any.at_estore (T := 32) ?_); refine Any.E_putc (T := 32) (v := .slice (some ⟨x8.1, 0, none⟩) n8 c8) rfl rfl rfl rfl rfl rfl (by kernel_rfl) rfl (by show 20 < 21; decide) ?_)); simp only [Act.put, sia, scs, scz])
   try any_goals exact undef
   refine Any.fin3 hv [1001, 1002] ?_; clear hv; intro w9 hv
   go_end0
   have hO2 := (HO.out.mono (fun x hx => mem_app R2 hx)).snoc (g := (⟨t.lo, t.po, seq, t.inn.next, fl, (room t.inn).toNat, data⟩ : G)) (v := .slice za zn zk) ha8.out (List.mem_append_left _ HZ2.out)
   exact ⟨R2, rfl, CM.of (A := []) (O := [x8]) (c := ⟨t, out ++ [(⟨t.lo, t.po, seq, t.inn.next, fl, (room t.inn).toNat, data⟩ : G)]⟩) (hv.keepR (fun x hx => (List.mem_append.1 hx).elim id (HS2.out x))) (HI.out.mono (fun x hx => mem_app R2 hx)) hO2⟩
theorem send_no {bc nw : Nat} {out : List G} (hc : CM w0 w bc L R nw ⟨t, out⟩) (hl : out.length ≤ 1000) {fl seq : Nat} {data : List Nat} (hm : (1, .slice xa xn xk, cellsB data) ∈ R) (hd : data.length ≤ 1000) (hf : fl ≤ 31) (hh : ¬ has fl 16 = true) :
   Calls Try.prog 44 #[.pointer (some ⟨bc, 0, none⟩), .int .i64 fl, .int .u32 seq, .slice xa xn xk] w (CMP w0 bc L R nw (.tuple #[]) (send fl seq data ⟨t, out⟩)) := by
 obtain ⟨da, dn, dk, ba, bn, bk, pa, pn, pk, l, ov, gs, O, hv, HI, HO⟩ := hc.get
 clear hc
 have q1 : bits .and .i64 (fl : Int) 16 = 0 := by rw [and_16 hf, if_neg hh]
 have hS : send fl seq data ⟨t, out⟩ = ⟨t, out ++ [(⟨t.lo, t.po, seq, 0, fl, (room t.inn).toNat, data⟩ : G)]⟩ := by unfold send Tp.seg; rw [if_neg hh]
 rw [hS]
 have hxn : xn ≤ 1000000 := by have := len_rd1 (hv.rd hm); omega
 have HX := Lib.hid hm
 have HXN := Lib.hid hxn
 have HSR : Hid (∃ v R', RoomW R t.inn v R') := Lib.hid ⟨_, R, rfl, fun x hx => hx⟩
 have HSC : Hid (∃ v R', CloneW R data v R') := Lib.hid ⟨_, R, xa, xn, xk, rfl, hm, fun x hx => hx⟩
 have hB3 : 1 ≤ maxLen := by unfold maxLen; omega
 have HB0 : Hid (∀ (za : Option Addr) (zn zk : Nat), ∀ x ∈ ([.int .i64 t.lo, .int .i64 t.po, .int .u32 seq, .int .u32 0, .int .i64 fl, .int .i64 ((room t.inn).toNat : Nat), .slice za zn zk] : List Value), x.oneCell' = true) := Lib.hid (fun za zn zk x hx => by
   simp at hx
   rcases hx with rfl | rfl | rfl | rfl | rfl | rfl | rfl <;> rfl)
 have hgl : gs.length = out.length := HO.out.len
 have HC1 : Hid ((0 + 1 + 1 + 1 + 1 + 1 + 1 + 1) / 7 ≤ maxLen) := Lib.hid (by unfold maxLen; omega)
 have HC2 : Hid ((0 + 1 + 1 + 1 + 1 + 1 + 1 + 1) / 7 * 64 ≤ 140737488355328) := Lib.hid (by omega)
 have HD1 : Hid (((cellsG gs).length + (0 + 1 + 1 + 1 + 1 + 1 + 1 + 1)) / 7 ≤ maxLen) := Lib.hid (by rw [cellsG_len, hgl]; unfold maxLen; omega)
 have HD2 : Hid (((cellsG gs).length + (0 + 1 + 1 + 1 + 1 + 1 + 1 + 1)) / 7 * 64 ≤ 140737488355328) := Lib.hid (by rw [cellsG_len, hgl]; omega)
 clear hm hd hf hh hxn hl hS hgl
 go_enter Try.func44, Try.ntmps44
 go_wp2
 try simp only [Act.put]
 refine Bny.wr1 23 [(4, [1000], none), (9, [1000], none), (16, [1000], none), (17, [], some 17), (19, [], some 19), (21, [], some 21), (22, [21], some 21)] [(17, .mem (RoomW R t.inn)), (19, .mem (CloneW R data)), (20, .pure), (21, .lay #[.int .i64 0, .int .i64 0, .int .u32 0, .int .u32 0, .int .i64 0, .int .i64 0, .slice none 0 0]), (22, .put)] hv ?_
 simp only [Any.someVals]
 iterate 23 apply Exists.intro
 repeat ((first
  | refine Bny.E_off rfl ?_
  | ((with_reducible refine Bny.at_ealloc ?_); refine Bny.E_lay (t := 42) rfl rfl rfl (fun _ => rfl) ?_; intro b_8)
  | ((with_reducible refine Bny.at_estore (T := 42) ?_); refine Bny.E_putv (T := 42) rfl rfl rfl rfl rfl rfl 7 infoG7 rfl rfl (by simp [Value.oneCell']) ?_)
  | ((with_reducible refine Bny.at_ebuild (T := 42) ?_); refine Bny.E_build rfl rfl rfl _ rfl (built_sg _ _ _ _ _ _ _ _) ?_)
  | ((with_reducible refine Bny.at_ecallf (f := 36) ?_); refine Bny.E_callmem rfl rfl rfl (Go.Proofs.enters_of Try.func36 (by kernel_rfl) rfl) rfl [.agg #[.int .u32 t.inn.next, .slice ba bn bk, .slice pa pn pk]] rfl HSR.out R (fun x hx => .inl hx) (fun w0 w L R' hm hs => Room_V hm hs HI.out) ?_; rintro v R2 ⟨rfl, hs2⟩; clear hs2)
  | ((with_reducible refine Bny.at_ecallf (f := 63) ?_); refine Bny.E_callmem rfl rfl rfl (Go.Proofs.enters_of Try.func63 (by kernel_rfl) rfl) rfl [.slice xa xn xk] rfl HSC.out R (fun x hx => .inl hx) (fun w0 w L R' hm hs => Clone_V hm hs HX.out HXN.out) ?_; rintro v R2 ⟨za, zn, zk, rfl, hz2, hs2⟩; have HZ2 := Lib.hid hz2; have HS2 := Lib.hid hs2; clear hz2 hs2)
  | refine Bny.ePq ?_
  | ((with_reducible refine Bny.gE 3 ?_); refine Bny.eC 1000 (.int .i64 t.lo) Try.underlying3 ?_)
  | ((with_reducible refine Bny.gE 3 ?_); refine Bny.eC 1000 (.int .i64 t.po) Try.underlying3 ?_)
  | (apply Bny.E_val rfl rfl rfl rfl
     case h =>
      intro E' hA K hK
      first
       | ((with_reducible refine Bny.at_qload (T := 27) ?_); refine Bny.q_ldp 1000 (o := 11) hA (by decide) rfl rfl 3 _ Try.underlying27 rfl infoStr (by decide) (by show 11 + 3 ≤ 21; decide) #[.int .u32 t.inn.next, .slice ba bn bk, .slice pa pn pk] (ext21s _ _ _ _ _ _ _ _ _ _ _ _ _ _ _ _ _ _ _ _ _) ?_; refine hK _ ?_; rfl)
     case hD => rfl)
  | refine Bny.eV ?_); simp only [Act.put, sia, scs, scz])
 try any_goals exact undef
 refine Bny.finr [21, 1000] 19 ?_; clear hv; intro w9 hv
 go_wp2
 try simp only [Act.put]
 rcases HO.out.own with ⟨rfl, hz, rfl⟩ | ⟨x0, hrow, rfl⟩
 · obtain rfl : gs = [] := by
     have := congrArg List.length hz
     rw [cellsG_len] at this
     exact List.length_eq_zero_iff.1 (by simp at this; omega)
   simp only [List.nil_append] at hv
   clear hz
   refine Any.wr2 11 [(4, [1001], none), (5, [1000], none), (6, [], some 6), (7, [6], some 7), (10, [1001], some 1001)] [(6, .laidBy (fun B => .slice (some ⟨B, 0, none⟩) 1 1)), (7, .env 6 (fun zs v x => AppRow v 7 zs.toList x)), (10, .put)] hv ?_
   simp only [Any.someVals]
   iterate 11 apply Exists.intro
   repeat ((first
    | refine Any.E_off rfl ?_
    | ((with_reducible refine Any.gE 32 ?_); refine Any.eC 1001 (.slice none 0 0) Try.underlying32 ?_)
    | ((with_reducible refine Any.gE 42 ?_); refine Any.eW 1000 7 Try.underlying42 infoG7 ?_)
    | refine Any.eV ?_
    | ((with_reducible refine Any.at_ebsl ?_); refine Any.E_bslA (z := #[.int .i64 t.lo, .int .i64 t.po, .int .u32 seq, .int .u32 0, .int .i64 fl, .int .i64 ((room t.inn).toNat : Nat), .slice za zn zk]) (t := 42) rfl rfl rfl (fun w' => (by unfold execOp; go_simp)) ?_; intro B6)
    | ((with_reducible refine Any.at_eapp (t := 32) ?_); refine Any.E_appnilE (j := 6) rfl rfl rfl rfl rfl (by decide) rfl rfl rfl hB3 (List.cons_ne_nil _ _) (.agg #[.int .i64 0, .int .i64 0, .int .u32 0, .int .u32 0, .int .i64 0, .int .i64 0, .slice none 0 0]) 64 Try.underlying32 infoGz rfl (by decide) (HB0.out _ _ _) HC1.out HC2.out ?_; intro v8 x8 ha8; obtain ⟨n8, c8, rfl, g8⟩ := id ha8; replace g8 := Lib.hid g8; replace ha8 := Lib.hid ha8)
    | ((with_reducible refine Any.at_estore (T := 32) ?_); refine Any.E_putc (T := 32) (v := .slice (some ⟨x8.1, 0, none⟩) n8 c8) rfl rfl rfl rfl rfl rfl (by kernel_rfl) rfl (by show 20 < 21; decide) ?_)); simp only [Act.put, sia, scs, scz])
   try any_goals exact undef
   refine Any.fin2 hv [1001, 7] ?_; clear hv; intro w9 hv
   go_end0
   have hO2 := (HO.out.mono (fun x hx => mem_app R2 hx)).snoc (g := (⟨t.lo, t.po, seq, 0, fl, (room t.inn).toNat, data⟩ : G)) (v := .slice za zn zk) ha8.out (List.mem_append_left _ HZ2.out)
   exact ⟨R2, rfl, CM.of (A := []) (O := [x8]) (c := ⟨t, out ++ [(⟨t.lo, t.po, seq, 0, fl, (room t.inn).toNat, data⟩ : G)]⟩) (hv.keepR (fun x hx => (List.mem_append.1 hx).elim id (HS2.out x))) (HI.out.mono (fun x hx => mem_app R2 hx)) hO2⟩
 · obtain ⟨on, oc, rfl, g0⟩ := id hrow
   replace hrow := Lib.hid hrow
   clear g0
   simp only [List.cons_append, List.nil_append] at hv
   refine Any.wr3 11 [(4, [1001], none), (5, [1000], none), (6, [], some 6), (7, [6], some 1002), (10, [1001], some 1001)] [(6, .laidBy (fun B => .slice (some ⟨B, 0, none⟩) 1 1)), (7, .env 6 (fun zs v x => AppRow v 7 (cellsG gs ++ zs.toList) x)), (10, .put)] hv ?_
   simp only [Any.someVals]
   iterate 11 apply Exists.intro
   repeat ((first
    | refine Any.E_off rfl ?_
    | ((with_reducible refine Any.gE 32 ?_); refine Any.eC 1001 (.slice (some ⟨x0.1, 0, none⟩) on oc) Try.underlying32 ?_)
    | ((with_reducible refine Any.gE 42 ?_); refine Any.eW 1000 7 Try.underlying42 infoG7 ?_)
    | refine Any.eV ?_
    | ((with_reducible refine Any.at_ebsl ?_); refine Any.E_bslA (z := #[.int .i64 t.lo, .int .i64 t.po, .int .u32 seq, .int .u32 0, .int .i64 fl, .int .i64 ((room t.inn).toNat : Nat), .slice za zn zk]) (t := 42) rfl rfl rfl (fun w' => (by unfold execOp; go_simp)) ?_; intro B6)
    | ((with_reducible refine Any.at_eapp (t := 32) ?_); refine Any.E_appE (j := 6) rfl rfl rfl rfl rfl hrow.out rfl (by decide) rfl rfl rfl hB3 (.agg #[.int .i64 0, .int .i64 0, .int .u32 0, .int .u32 0, .int .i64 0, .int .i64 0, .slice none 0 0]) 64 Try.underlying32 infoGz rfl (by decide) (HB0.out _ _ _) HD1.out HD2.out ?_; intro v8 x8 ha8; obtain ⟨n8, c8, rfl, g8⟩ := id ha8; replace g8 := Lib.hid g8; replace ha8 := Lib.hid ha8)
    | ((with_reducible refine Any.at_estore (T := 32) ?_); refine Any.E_putc (T := 32) (v := .slice (some ⟨x8.1, 0, none⟩) n8 c8) rfl rfl rfl rfl rfl rfl (by kernel_rfl) rfl (by show 20 < 21; decide) ?_)); simp only [Act.put, sia, scs, scz])
   try any_goals exact undef
   refine Any.fin3 hv [1001, 1002] ?_; clear hv; intro w9 hv
   go_end0
   have hO2 := (HO.out.mono (fun x hx => mem_app R2 hx)).snoc (g := (⟨t.lo, t.po, seq, 0, fl, (room t.inn).toNat, data⟩ : G)) (v := .slice za zn zk) ha8.out (List.mem_append_left _ HZ2.out)
   exact ⟨R2, rfl, CM.of (A := []) (O := [x8]) (c := ⟨t, out ++ [(⟨t.lo, t.po, seq, 0, fl, (room t.inn).toNat, data⟩ : G)]⟩) (hv.keepR (fun x hx => (List.mem_append.1 hx).elim id (HS2.out x))) (HI.out.mono (fun x hx => mem_app R2 hx)) hO2⟩
end Go.Proofs.Ythenepdbgeafkaa
end

section
/-
 Connections (layer 26): what is sent, by kinds; which states send.
-/
namespace Go.Proofs.Ythenepdbgeafkaa
open Go.Proofs.Wi Go.RowKit Go.Proofs Go.Proofs.Tp
variable {w0 w : World} {L : LV} {R : LR} {bc nw : Nat} {t : T} {out : List G} {xa : Option Addr} {xn xk : Nat}
theorem snd2 (hc : CM w0 w bc L R nw ⟨t, out⟩) (hl : out.length ≤ 1000) {seq : Nat} {data : List Nat} (hm : (1, .slice xa xn xk, cellsB data) ∈ R) (hd : data.length ≤ 1000) :
   Calls Try.prog 44 #[.pointer (some ⟨bc, 0, none⟩), .int .i64 2, .int .u32 seq, .slice xa xn xk] w (CMP w0 bc L R nw (.tuple #[]) (send 2 seq data ⟨t, out⟩)) := send_no hc hl (fl := 2) hm hd (by decide) (by decide)
theorem snn2 (hc : CM w0 w bc L R nw ⟨t, out⟩) (hl : out.length ≤ 1000) {seq : Nat} :
   Calls Try.prog 44 #[.pointer (some ⟨bc, 0, none⟩), .int .i64 2, .int .u32 seq, .slice none 0 0] w (CMP w0 bc L R nw (.tuple #[]) (send 2 seq [] ⟨t, out⟩)) := (snd2 hc.addR hl Mem.z (Nat.zero_le _)).mono fun _ _ h => h.addR
theorem snd4 (hc : CM w0 w bc L R nw ⟨t, out⟩) (hl : out.length ≤ 1000) {seq : Nat} {data : List Nat} (hm : (1, .slice xa xn xk, cellsB data) ∈ R) (hd : data.length ≤ 1000) :
   Calls Try.prog 44 #[.pointer (some ⟨bc, 0, none⟩), .int .i64 4, .int .u32 seq, .slice xa xn xk] w (CMP w0 bc L R nw (.tuple #[]) (send 4 seq data ⟨t, out⟩)) := send_no hc hl (fl := 4) hm hd (by decide) (by decide)
theorem snn4 (hc : CM w0 w bc L R nw ⟨t, out⟩) (hl : out.length ≤ 1000) {seq : Nat} :
   Calls Try.prog 44 #[.pointer (some ⟨bc, 0, none⟩), .int .i64 4, .int .u32 seq, .slice none 0 0] w (CMP w0 bc L R nw (.tuple #[]) (send 4 seq [] ⟨t, out⟩)) := (snd4 hc.addR hl Mem.z (Nat.zero_le _)).mono fun _ _ h => h.addR
theorem snd16 (hc : CM w0 w bc L R nw ⟨t, out⟩) (hl : out.length ≤ 1000) {seq : Nat} {data : List Nat} (hm : (1, .slice xa xn xk, cellsB data) ∈ R) (hd : data.length ≤ 1000) :
   Calls Try.prog 44 #[.pointer (some ⟨bc, 0, none⟩), .int .i64 16, .int .u32 seq, .slice xa xn xk] w (CMP w0 bc L R nw (.tuple #[]) (send 16 seq data ⟨t, out⟩)) := send_ack hc hl (fl := 16) hm hd (by decide) (by decide)
theorem snn16 (hc : CM w0 w bc L R nw ⟨t, out⟩) (hl : out.length ≤ 1000) {seq : Nat} :
   Calls Try.prog 44 #[.pointer (some ⟨bc, 0, none⟩), .int .i64 16, .int .u32 seq, .slice none 0 0] w (CMP w0 bc L R nw (.tuple #[]) (send 16 seq [] ⟨t, out⟩)) := (snd16 hc.addR hl Mem.z (Nat.zero_le _)).mono fun _ _ h => h.addR
theorem snd17 (hc : CM w0 w bc L R nw ⟨t, out⟩) (hl : out.length ≤ 1000) {seq : Nat} {data : List Nat} (hm : (1, .slice xa xn xk, cellsB data) ∈ R) (hd : data.length ≤ 1000) :
   Calls Try.prog 44 #[.pointer (some ⟨bc, 0, none⟩), .int .i64 17, .int .u32 seq, .slice xa xn xk] w (CMP w0 bc L R nw (.tuple #[]) (send 17 seq data ⟨t, out⟩)) := send_ack hc hl (fl := 17) hm hd (by decide) (by decide)
theorem snn17 (hc : CM w0 w bc L R nw ⟨t, out⟩) (hl : out.length ≤ 1000) {seq : Nat} :
   Calls Try.prog 44 #[.pointer (some ⟨bc, 0, none⟩), .int .i64 17, .int .u32 seq, .slice none 0 0] w (CMP w0 bc L R nw (.tuple #[]) (send 17 seq [] ⟨t, out⟩)) := (snd17 hc.addR hl Mem.z (Nat.zero_le _)).mono fun _ _ h => h.addR
theorem snd18 (hc : CM w0 w bc L R nw ⟨t, out⟩) (hl : out.length ≤ 1000) {seq : Nat} {data : List Nat} (hm : (1, .slice xa xn xk, cellsB data) ∈ R) (hd : data.length ≤ 1000) :
   Calls Try.prog 44 #[.pointer (some ⟨bc, 0, none⟩), .int .i64 18, .int .u32 seq, .slice xa xn xk] w (CMP w0 bc L R nw (.tuple #[]) (send 18 seq data ⟨t, out⟩)) := send_ack hc hl (fl := 18) hm hd (by decide) (by decide)
theorem snn18 (hc : CM w0 w bc L R nw ⟨t, out⟩) (hl : out.length ≤ 1000) {seq : Nat} :
   Calls Try.prog 44 #[.pointer (some ⟨bc, 0, none⟩), .int .i64 18, .int .u32 seq, .slice none 0 0] w (CMP w0 bc L R nw (.tuple #[]) (send 18 seq [] ⟨t, out⟩)) := (snd18 hc.addR hl Mem.z (Nat.zero_le _)).mono fun _ _ h => h.addR
theorem snd24 (hc : CM w0 w bc L R nw ⟨t, out⟩) (hl : out.length ≤ 1000) {seq : Nat} {data : List Nat} (hm : (1, .slice xa xn xk, cellsB data) ∈ R) (hd : data.length ≤ 1000) :
   Calls Try.prog 44 #[.pointer (some ⟨bc, 0, none⟩), .int .i64 24, .int .u32 seq, .slice xa xn xk] w (CMP w0 bc L R nw (.tuple #[]) (send 24 seq data ⟨t, out⟩)) := send_ack hc hl (fl := 24) hm hd (by decide) (by decide)
theorem ack_C (hc : CM w0 w bc L R nw ⟨t, out⟩) (hl : out.length ≤ 1000) : Calls Try.prog 39 #[.pointer (some ⟨bc, 0, none⟩)] w (CMP w0 bc L R nw (.tuple #[]) (ackC ⟨t, out⟩)) := by
 obtain ⟨da, dn, dk, ba, bn, bk, pa, pn, pk, l, ov, gs, O, hv, HI, HO⟩ := hc.get
 clear hc
 have HL := Lib.hid hl
 clear hl
 go_enter Try.func39, Try.ntmps39
 go_wp2_with (first
   | ((with_reducible refine gLd 22 ?_); refine ldC hv bc 6 (.int .u32 t.nx) Try.underlying22 ?_)
   | (go_at_call 44; (refine (snn16 (CM.of (A := []) (c := ⟨t, out⟩) hv HI.out HO.out) HL.out).mono ?_); rintro e w1 ⟨R1, rfl, hc1⟩; obtain ⟨da1, dn1, dk1, ba1, bn1, bk1, pa1, pn1, pk1, l1, ov1, gs1, O1, hv1, hI1, hO1⟩ := CM.back (A := []) hc1; clear hv hc1; have hv : Mem w0 _ ([] ++ (bc, #[.int .i64 t.st, .int .i64 t.lo, .int .u32 t.ip, .int .i64 t.po, .int .u32 t.iss, .int .u32 t.una, .int .u32 t.nx, .slice da1 dn1 dk1, .int .i64 t.wnd, .bool t.en, .bool t.se, .int .u32 t.inn.next, .slice ba1 bn1 bk1, .slice pa1 pn1 pk1, .bool t.ed, .int .u64 t.tm, .int .i64 t.rto, .int .i64 t.tr, .int .i64 t.er, .int .u64 nw, ov1]) :: (O1 ++ L)) _ := hv1; clear hv1; have HI1 := Lib.hid hI1; have HO1 := Lib.hid hO1; clear hI1 hO1; simp only [List.cons_append, List.nil_append] at hv))
 go_end0
 exact ⟨R1, rfl, CM.of (A := []) (c := ackC ⟨t, out⟩) (hv.keep (by exact List.sublist_append_right [] _)) HI1.out HO1.out⟩
theorem Index_ints (b n cap : Nat) (z : Nat → Int) (x : Int) (w : World) (hn : n ≤ 9223372036854775807) (hc : ∀ i, i < n → w.cell? ⟨b, i, none⟩ = some (.int .i64 (z i))) :
   Calls Try.prog 75 #[.slice (some ⟨b, 0, none⟩) n cap, .int .i64 x] w fun e w' => (∃ k : Nat, k < n ∧ z k = x ∧ e = .returned (.int .i64 k) ∧ w = w') ∨ ((∀ k, k < n → z k ≠ x) ∧ e = .returned (.int .i64 (-1)) ∧ w = w') := by
 have HC := Lib.hid hc; clear hc
 go_enter Try.func75, Try.ntmps75
 go_wp2
 go_loop [5, 8] (fun j i => ∃ k : Nat, k ≤ n ∧ i = .int .i64 k ∧ Hid (∀ j, j < k → z j ≠ x)) (fun _ i => n - (intOf i).toNat)
 case atStart => exact ⟨0, by omega, rfl, Lib.hid fun j h => by omega⟩
 case round =>
   obtain ⟨k, hk, rfl, hb⟩ := hrel
   by_cases hk2 : k < n
   · have hki : (k : Int) < (n : Int) := by omega
     have hcx := HC.out k hk2
     by_cases hz : x = z k
     · go_wp2
       go_ret
       exact .inl ⟨k, hk2, by simp [hz], rfl, rfl⟩
     · go_wp2
       go_round
       case rel => exact ⟨k + 1, by omega, by go_num, Lib.hid fun j hj => by rcases Nat.lt_or_ge j k with g | g; · exact hb.out j g
                                                                             · rw [show j = k from by omega]; exact fun e => hz e.symm⟩
       case measure => simp [intOf]; omega
   · have hki : ¬ (k : Int) < (n : Int) := by omega
     go_wp2
     go_ret
     exact .inr ⟨fun j hj => hb.out j (by omega), rfl, rfl⟩
theorem Contains_ints (b n cap : Nat) (z : Nat → Int) (x : Int) (c : Bool) (w : World) (hn : n ≤ 9223372036854775807) (hc : ∀ i, i < n → w.cell? ⟨b, i, none⟩ = some (.int .i64 (z i))) (hx : c = true ↔ ∃ k, k < n ∧ z k = x) :
   Calls Try.prog 67 #[.slice (some ⟨b, 0, none⟩) n cap, .int .i64 x] w fun e w' => e = .returned (.bool c) ∧ w = w' := by
 have hi := Index_ints b n cap z x w hn hc
 have HC := Lib.hid hc; clear hc
 cases c
 · have hno : ∀ k, k < n → z k ≠ x := fun k hk e => by have := hx.2 ⟨k, hk, e⟩; cases this
   have hi' := hi.mono (R' := fun e w' => e = .returned (.int .i64 (-1)) ∧ w = w') fun e w' h => by
     rcases h with ⟨k, hk, e, _⟩ | ⟨_, h⟩
     · exact absurd e (hno k hk)
     · exact h
   clear hi hx hno
   go_enter Try.func67, Try.ntmps67
   go_wp2_with (go_at_call 75; refine hi'.mono ?_; rintro e w' ⟨rfl, rfl⟩)
   go_ret
   exact ⟨rfl, rfl⟩
 · obtain ⟨k0, hk0, e0⟩ := hx.1 rfl
   have hi' := hi.mono (R' := fun e w' => ∃ k : Nat, e = .returned (.int .i64 k) ∧ w = w') fun e w' h => by
     rcases h with ⟨k, hk, _, h⟩ | ⟨h, _⟩
     · exact ⟨k, h⟩
     · exact absurd e0 (h k0 hk0)
   clear hi hx e0
   go_enter Try.func67, Try.ntmps67
   go_wp2_with (go_at_call 75; refine hi'.mono ?_; rintro e w' ⟨k, rfl, rfl⟩)
   all_goals
     go_ret
     exact ⟨rfl, rfl⟩

theorem Contains_rd {w : World} {b n cap : Nat} {zs : List Int} (h : Rd w 1 (.slice (some ⟨b, 0, none⟩) n cap) (zs.map fun z => Value.int .i64 z)) (hz : zs ≠ []) (hn : n ≤ 1000) (x : Int) (c : Bool) (hc : decide (x ∈ zs) = c) : Calls Try.prog 67 #[.slice (some ⟨b, 0, none⟩) n cap, .int .i64 x] w fun e w' => e = .returned (.bool c) ∧ w = w' := by
 subst hc
 obtain ⟨b', o', n', cap', e, g1, _, _, _, g5⟩ := h.some (by rw [List.length_map]; exact List.length_pos_iff.2 hz)
 cases e
 rw [List.length_map, Nat.mul_one] at g1
 refine Contains_ints b n cap (fun i => zs.getD i 0) x (decide (x ∈ zs)) w (by omega) (fun i hi => ?_) ?_
 · have := g5 i (by rw [List.length_map]; omega)
   rw [Nat.zero_add] at this
   rw [this, List.getElem?_map, List.getElem?_eq_getElem (by omega)]
   simp [List.getD, List.getElem?_eq_getElem (show i < zs.length by omega)]
 · rw [decide_eq_true_eq]
   constructor
   · intro hx
     obtain ⟨i, hi, e⟩ := List.mem_iff_getElem.1 hx
     exact ⟨i, by omega, by simp [List.getD, List.getElem?_eq_getElem hi, e]⟩
   · rintro ⟨i, hi, e⟩
     rw [← e]
     simp [List.getD, List.getElem?_eq_getElem (show i < zs.length by omega)]
theorem sends_C (hc : CM w0 w bc L R nw ⟨t, out⟩) : Calls Try.prog 55 #[.pointer (some ⟨bc, 0, none⟩)] w (CMP w0 bc L R nw (.bool (sends t)) ⟨t, out⟩) := by
 obtain ⟨da, dn, dk, ba, bn, bk, pa, pn, pk, l, ov, gs, O, hv, HI, HO⟩ := hc.get
 clear hc
 have e : decide ((t.st : Int) ∈ ([3, 4, 6, 7, 8] : List Int)) = sends t := by
   unfold sends
   rw [Bool.eq_iff_iff]
   simp only [decide_eq_true_eq, Bool.or_eq_true, beq_iff_eq, List.mem_cons, List.not_mem_nil, or_false]
   omega
 have HE := Lib.hid e
 clear e
 go_enter Try.func55, Try.ntmps55
 go_wp2_with (first
   | ((with_reducible refine at_load (T := 3) ?_); have hv1 := hv.bsl' (k := 1) (n := 5) (c := ([3, 4, 6, 7, 8] : List Int).map fun z => Value.int .i64 z) ⟨rfl, made_alloc _ #[.int .i64 3, .int .i64 4, .int .i64 6, .int .i64 7, .int .i64 8] 3⟩ rfl rfl (by unfold maxLen; omega); replace hv := hv1; clear hv1; refine wl_ldc rfl bc 0 rfl _ hv.vars.ro _ Try.underlying3 rfl (.int .i64 t.st) rfl ?_)
   | (go_at_call 67; (refine (Contains_rd (zs := [3, 4, 6, 7, 8]) (hv.rd Mem.z) (by decide) (by decide) _ (sends t) HE.out).mono ?_); rintro e w1 ⟨rfl, rfl⟩))
 go_ret
 exact ⟨[_], rfl, CM.of (A := []) (c := ⟨t, out⟩) hv (HI.out.mono fun x hx => Mem.s hx) (HO.out.mono fun x hx => Mem.s hx)⟩
end Go.Proofs.Ythenepdbgeafkaa
end

section
/-
 Connections (layer 26): which may be; what is done with one.
-/
namespace Go.Proofs.Tp
open Go Go.RowKit Go.Proofs.Wi
def RT (w0 w' : World) (L : LV) (R : LR) (c : C) (vt ov : Value) : Prop :=
 ∃ da dn dk ba bn bk pa pn pk l gs O, vt = .agg (rowT c.t (.slice da dn dk) (.slice ba bn bk) (.slice pa pn pk)) ∧ Mem w0 w' (O ++ L) R ∧ InC R c.t da dn dk ba bn bk pa pn pk l ∧ OutC R c.out ov gs O
def DoP (K : C → LV → LR → Prop) (w0 : World) (bc : Nat) (A : LV) (R : LR) (nw : Nat) (e : Ending) (w' : World) : Prop :=
 ∃ c' L' R', e = .returned (.tuple #[]) ∧ K c' L' (R' ++ R) ∧ CM w0 w' bc (A ++ L') (R' ++ R) nw c'
def DoneP (K : C → LV → LR → Prop) (w0 : World) (R : LR) (e : Ending) (w' : World) : Prop :=
 ∃ c' L' R' vt ov, e = .returned (.tuple #[vt, ov]) ∧ K c' L' (R' ++ R) ∧ RT w0 w' L' (R' ++ R) c' vt ov
end Go.Proofs.Tp
namespace Go.Proofs.Ythenepdbgeafkaa
open Go.Proofs.Wi Go.RowKit Go.Proofs Go.Proofs.Tp
variable {t : T} {da ba pa : Option Addr} {dn dk bn bk pn pk : Nat}
theorem numbers_0 (h0 : t.st = 0) (h : t.tm = 0) (w : World) : Calls Try.prog 42 #[.agg #[.int .i64 t.st, .int .i64 t.lo, .int .u32 t.ip, .int .i64 t.po, .int .u32 t.iss, .int .u32 t.una, .int .u32 t.nx, .slice da dn dk, .int .i64 t.wnd, .bool t.en, .bool t.se, .int .u32 t.inn.next, .slice ba bn bk, .slice pa pn pk, .bool t.ed, .int .u64 t.tm, .int .i64 t.rto, .int .i64 t.tr, .int .i64 t.er]] w fun e w' => e = .returned (.bool true) ∧ New w w' := by
 have hv := Mem.nil w
 have y0 : ((t.st : Int) == 0) = true := by rw [h0]; rfl
 have y1 : ((t.tm : Int) == 0) = true := by rw [h]; rfl
 clear h0 h
 go_enter Try.func42, Try.ntmps42
 go_wp2_with (first
   | ((with_reducible refine gBx 31 1 ?_); refine nwB hv #[.int .i64 t.st, .int .i64 t.lo, .int .u32 t.ip, .int .i64 t.po, .int .u32 t.iss, .int .u32 t.una, .int .u32 t.nx, .slice da dn dk, .int .i64 t.wnd, .bool t.en, .bool t.se, .int .u32 t.inn.next, .slice ba bn bk, .slice pa pn pk, .bool t.ed, .int .u64 t.tm, .int .i64 t.rto, .int .i64 t.tr, .int .i64 t.er] 31 ?_; clear hv; intro b_1 w2 hv)
   | ((with_reducible refine gLd 3 ?_); refine ldC hv b_1 0 (.int .i64 t.st) Try.underlying3 ?_)
   | ((with_reducible refine gLd 28 ?_); refine ldC hv b_1 15 (.int .u64 t.tm) Try.underlying28 ?_))
 go_ret
 exact ⟨rfl, hv.below⟩
theorem numbers_12 (h0 : t.st = 1 ∨ t.st = 2) (h1 : t.una = t.iss) (h2 : t.nx = Tp.u32 (t.iss + 1)) (h3 : dn = 0) (h4 : t.en = false) (w : World) : Calls Try.prog 42 #[.agg #[.int .i64 t.st, .int .i64 t.lo, .int .u32 t.ip, .int .i64 t.po, .int .u32 t.iss, .int .u32 t.una, .int .u32 t.nx, .slice da dn dk, .int .i64 t.wnd, .bool t.en, .bool t.se, .int .u32 t.inn.next, .slice ba bn bk, .slice pa pn pk, .bool t.ed, .int .u64 t.tm, .int .i64 t.rto, .int .i64 t.tr, .int .i64 t.er]] w fun e w' => e = .returned (.bool true) ∧ New w w' := by
 have hv := Mem.nil w
 subst h3
 have q1 : IntKind.u32.wrap ((t.iss : Int) + 1) = (t.nx : Int) := by rw [h2]; unfold Tp.u32; simp [IntKind.wrap, IntKind.bits, IntKind.signed]
 have y1 : ((t.una : Int) == (t.iss : Int)) = true := by rw [h1]; simp
 clear h1 h2
 rcases h0 with h0 | h0
 · have y2 : ((t.st : Int) == 0) = false := by rw [h0]; rfl
   have y3 : ((t.st : Int) == 1) = true := by rw [h0]; rfl
   clear h0
   go_enter Try.func42, Try.ntmps42
   go_wp2_with (first
     | ((with_reducible refine gBx 31 1 ?_); refine nwB hv #[.int .i64 t.st, .int .i64 t.lo, .int .u32 t.ip, .int .i64 t.po, .int .u32 t.iss, .int .u32 t.una, .int .u32 t.nx, .slice da 0 dk, .int .i64 t.wnd, .bool t.en, .bool t.se, .int .u32 t.inn.next, .slice ba bn bk, .slice pa pn pk, .bool t.ed, .int .u64 t.tm, .int .i64 t.rto, .int .i64 t.tr, .int .i64 t.er] 31 ?_; clear hv; intro b_1 w2 hv)
     | ((with_reducible refine gLd 3 ?_); refine ldC hv b_1 0 (.int .i64 t.st) Try.underlying3 ?_)
     | ((with_reducible refine gLd 22 ?_); refine ldC hv b_1 5 (.int .u32 t.una) Try.underlying22 ?_)
     | ((with_reducible refine gLd 22 ?_); refine ldC hv b_1 4 (.int .u32 t.iss) Try.underlying22 ?_)
     | ((with_reducible refine gLd 22 ?_); refine ldC hv b_1 6 (.int .u32 t.nx) Try.underlying22 ?_)
     | ((with_reducible refine gLd 23 ?_); refine ldC hv b_1 7 (.slice da 0 dk) Try.underlying23 ?_)
     | ((with_reducible refine gLd 4 ?_); refine ldC hv b_1 9 (.bool t.en) Try.underlying4 ?_))
   go_ret
   exact ⟨rfl, hv.below⟩
 · have y2 : ((t.st : Int) == 0) = false := by rw [h0]; rfl
   have y3 : ((t.st : Int) == 1) = false := by rw [h0]; rfl
   have y4 : ((t.st : Int) == 2) = true := by rw [h0]; rfl
   clear h0
   go_enter Try.func42, Try.ntmps42
   go_wp2_with (first
     | ((with_reducible refine gBx 31 1 ?_); refine nwB hv #[.int .i64 t.st, .int .i64 t.lo, .int .u32 t.ip, .int .i64 t.po, .int .u32 t.iss, .int .u32 t.una, .int .u32 t.nx, .slice da 0 dk, .int .i64 t.wnd, .bool t.en, .bool t.se, .int .u32 t.inn.next, .slice ba bn bk, .slice pa pn pk, .bool t.ed, .int .u64 t.tm, .int .i64 t.rto, .int .i64 t.tr, .int .i64 t.er] 31 ?_; clear hv; intro b_1 w2 hv)
     | ((with_reducible refine gLd 3 ?_); refine ldC hv b_1 0 (.int .i64 t.st) Try.underlying3 ?_)
     | ((with_reducible refine gLd 22 ?_); refine ldC hv b_1 5 (.int .u32 t.una) Try.underlying22 ?_)
     | ((with_reducible refine gLd 22 ?_); refine ldC hv b_1 4 (.int .u32 t.iss) Try.underlying22 ?_)
     | ((with_reducible refine gLd 22 ?_); refine ldC hv b_1 6 (.int .u32 t.nx) Try.underlying22 ?_)
     | ((with_reducible refine gLd 23 ?_); refine ldC hv b_1 7 (.slice da 0 dk) Try.underlying23 ?_)
     | ((with_reducible refine gLd 4 ?_); refine ldC hv b_1 9 (.bool t.en) Try.underlying4 ?_))
   go_ret
   exact ⟨rfl, hv.below⟩
theorem numbers_3 (h0 : t.st ≠ 0) (h1 : t.st ≠ 1) (h2 : t.st ≠ 2) (h3 : 0 ≤ own t) (h4 : own t ≤ dn) (w : World) : Calls Try.prog 42 #[.agg #[.int .i64 t.st, .int .i64 t.lo, .int .u32 t.ip, .int .i64 t.po, .int .u32 t.iss, .int .u32 t.una, .int .u32 t.nx, .slice da dn dk, .int .i64 t.wnd, .bool t.en, .bool t.se, .int .u32 t.inn.next, .slice ba bn bk, .slice pa pn pk, .bool t.ed, .int .u64 t.tm, .int .i64 t.rto, .int .i64 t.tr, .int .i64 t.er]] w fun e w' => e = .returned (.bool true) ∧ New w w' := by
 have hv := Mem.nil w
 have y0 : ((t.st : Int) == 0) = false := by rw [beq_eq_false_iff_ne]; omega
 have y1 : ((t.st : Int) == 1) = false := by rw [beq_eq_false_iff_ne]; omega
 have y2 : ((t.st : Int) == 2) = false := by rw [beq_eq_false_iff_ne]; omega
 obtain ⟨fr, hfr⟩ : ∃ f : Nat, ownN t.nx t.una t.se = (f : Int) := ⟨(own t).toNat, by have := own_N t; omega⟩
 have hb : (fr : Int) ≤ (dn : Int) := by have := own_N t; omega
 have hb2 : fr ≤ dn := by omega
 clear h0 h1 h2 h3 h4
 go_enter Try.func42, Try.ntmps42
 go_wp2_with (first
   | ((with_reducible refine gBx 31 1 ?_); refine nwB hv #[.int .i64 t.st, .int .i64 t.lo, .int .u32 t.ip, .int .i64 t.po, .int .u32 t.iss, .int .u32 t.una, .int .u32 t.nx, .slice da dn dk, .int .i64 t.wnd, .bool t.en, .bool t.se, .int .u32 t.inn.next, .slice ba bn bk, .slice pa pn pk, .bool t.ed, .int .u64 t.tm, .int .i64 t.rto, .int .i64 t.tr, .int .i64 t.er] 31 ?_; clear hv; intro b_1 w2 hv)
   | ((with_reducible refine gLd 3 ?_); refine ldC hv b_1 0 (.int .i64 t.st) Try.underlying3 ?_))
 refine Any.wp_region_walk [⟨[1000], none⟩, ⟨[], none⟩, ⟨[], none⟩, ⟨[], none⟩, ⟨[1000], none⟩, ⟨[], none⟩, ⟨[], none⟩, ⟨[1000], none⟩] [.val] (by kernel_rfl) (by kernel_rfl) (hv.vars.keep (List.sublist_append_left [(b_1, #[.int .i64 t.st, .int .i64 t.lo, .int .u32 t.ip, .int .i64 t.po, .int .u32 t.iss, .int .u32 t.una, .int .u32 t.nx, .slice da dn dk, .int .i64 t.wnd, .bool t.en, .bool t.se, .int .u32 t.inn.next, .slice ba bn bk, .slice pa pn pk, .bool t.ed, .int .u64 t.tm, .int .i64 t.rto, .int .i64 t.tr, .int .i64 t.er])] ([] : LV))) ?_
 simp only [List.length_cons, List.length_nil, Nat.zero_add, Any.someVals]
 iterate 12 apply Exists.intro
 repeat (first
   | (refine Any.E_off rfl ?_; simp only [Act.put, sia, scs, scz])
   | (apply Any.E_pureq rfl rfl rfl
      case h => intro K hK; go_big_quiet_op; (refine hK _ ?_; rfl)
      case hr => exact fun _ => rfl
      simp only [Act.put, sia, scs, scz])
   | (apply Any.E_val rfl rfl rfl rfl
      case h =>
        intro E' hA K hK
        first
          | ((with_reducible refine Any.at_qload (T := 31) ?_); refine Any.q_ldv 1000 hA (by decide) rfl rfl 19 _ Try.underlying31 rfl infoT19 (by decide) rfl ?_; refine hK _ ?_; rfl)
          | ((with_reducible refine Any.at_qload (T := 23) ?_); refine Any.q_ldc 1000 hA (by decide) rfl rfl _ Try.underlying23 rfl (.slice da dn dk) rfl ?_; refine hK _ ?_; rfl)
          | (go_big_quiet_op; first
            | (refine hK _ ?_; rfl)
            | (refine ⟨_, fun _ _ => rfl, ?_⟩; refine hK _ ?_; rfl)
            | (apply Exists.intro; refine ⟨fun w1 hw1 => ?_, ?_⟩; · (first
                | (go_at_call 56; exact Any.calls_VE (own_v _ _ _ _ _ _ _ _ _ _ _ _ _ _ _ _ _ _ _ _) hw1))
               refine hK _ ?_; rfl))
      case hD => rfl
      simp only [Act.put, sia, scs, scz])
   | ((with_reducible refine Any.at_ealloc ?_); refine Any.E_lay rfl rfl rfl (fun _ => rfl) ?_; intro B; simp only [Act.put, sia, scs, scz]))
 try any_goals exact undef
 refine Any.E_nil ?_
 intro w9 hE9
 replace hv : Mem w w9 ([(b_1, #[.int .i64 t.st, .int .i64 t.lo, .int .u32 t.ip, .int .i64 t.po, .int .u32 t.iss, .int .u32 t.una, .int .u32 t.nx, .slice da dn dk, .int .i64 t.wnd, .bool t.en, .bool t.se, .int .u32 t.inn.next, .slice ba bn bk, .slice pa pn pk, .bool t.ed, .int .u64 t.tm, .int .i64 t.rto, .int .i64 t.tr, .int .i64 t.er])] ++ ([] : LV)) _ := hE9.memr hv [1000] (by decide)
 clear hE9
 simp only [List.cons_append, List.nil_append] at hv
 go_wp2
 go_ret
 exact ⟨rfl, hv.below⟩
theorem numbers_ok (h : numbers t = true) (hd : t.data.length = dn) (w : World) : Calls Try.prog 42 #[.agg #[.int .i64 t.st, .int .i64 t.lo, .int .u32 t.ip, .int .i64 t.po, .int .u32 t.iss, .int .u32 t.una, .int .u32 t.nx, .slice da dn dk, .int .i64 t.wnd, .bool t.en, .bool t.se, .int .u32 t.inn.next, .slice ba bn bk, .slice pa pn pk, .bool t.ed, .int .u64 t.tm, .int .i64 t.rto, .int .i64 t.tr, .int .i64 t.er]] w fun e w' => e = .returned (.bool true) ∧ New w w' := by
 unfold numbers at h
 by_cases h0 : t.st = 0
 · rw [if_pos h0] at h
   exact numbers_0 h0 (by simpa using h) w
 · rw [if_neg h0] at h
   by_cases h1 : t.st = 1 ∨ t.st = 2
   · rw [if_pos h1] at h
     simp only [Bool.and_eq_true, beq_iff_eq, List.isEmpty_iff, Bool.not_eq_true'] at h
     obtain ⟨⟨⟨e1, e2⟩, e3⟩, e4⟩ := h
     exact numbers_12 h1 e1 e2 (by rw [← hd, e3]; rfl) e4 w
   · rw [if_neg h1] at h
     have h := of_decide_eq_true h
     exact numbers_3 h0 (fun e => h1 (.inl e)) (fun e => h1 (.inr e)) h.1 (by omega) w
theorem port_ok {n : Nat} (h1 : 1 ≤ n) (h2 : n ≤ 65535) (w : World) : Calls Try.prog 40 #[.int .i64 n] w fun e w' => e = .returned (.bool true) ∧ New w w' := by
 have := port_any (n : Int) w
 rwa [decide_eq_true (show (1 : Int) ≤ (n : Int) ∧ (n : Int) ≤ 65535 by omega)] at this
theorem ext19s (a0 a1 a2 a3 a4 a5 a6 a7 a8 a9 a10 a11 a12 a13 a14 a15 a16 a17 a18 : Value) : #[a0, a1, a2, a3, a4, a5, a6, a7, a8, a9, a10, a11, a12, a13, a14, a15, a16, a17, a18].extract 11 (11 + 3) = #[a11, a12, a13] := by
 apply Array.ext'
 rw [Array.toList_extract]; rfl
theorem Check_ok {w0 w : World} {L : LV} {R : LR} (hv : Mem w0 w L R) {l : List PcV} (hI : InC R t da dn dk ba bn bk pa pn pk l) (hck : chkT t = true) : Calls Try.prog 17 #[.agg #[.int .i64 t.st, .int .i64 t.lo, .int .u32 t.ip, .int .i64 t.po, .int .u32 t.iss, .int .u32 t.una, .int .u32 t.nx, .slice da dn dk, .int .i64 t.wnd, .bool t.en, .bool t.se, .int .u32 t.inn.next, .slice ba bn bk, .slice pa pn pk, .bool t.ed, .int .u64 t.tm, .int .i64 t.rto, .int .i64 t.tr, .int .i64 t.er]] w fun e w' => e = .returned (.bool true) ∧ New w w' := by
 have hd : t.data.length = dn := len_rd1 (hv.rd hI.d)
 obtain ⟨h1, h2, h3, h4, h5, h6, h7, h8, h9, ha, hb, hc, hd2, he, hf⟩ := chkT_facts hck
 have HWK : Hid (∀ (w1 : World) (_ : Unit), New w w1 → Calls Try.prog 41 #[.agg #[.int .u32 t.inn.next, .slice ba bn bk, .slice pa pn pk]] w1 fun e w' => e = .returned (.bool true) ∧ New w1 w') := Lib.hid (fun w1 _ hn => Check_S (hv.new hn) hI.s he)
 have HNU : Hid (∀ w1, Calls Try.prog 42 #[.agg #[.int .i64 t.st, .int .i64 t.lo, .int .u32 t.ip, .int .i64 t.po, .int .u32 t.iss, .int .u32 t.una, .int .u32 t.nx, .slice da dn dk, .int .i64 t.wnd, .bool t.en, .bool t.se, .int .u32 t.inn.next, .slice ba bn bk, .slice pa pn pk, .bool t.ed, .int .u64 t.tm, .int .i64 t.rto, .int .i64 t.tr, .int .i64 t.er]] w1 fun e w' => e = .returned (.bool true) ∧ New w1 w') := Lib.hid (fun w1 => numbers_ok hf hd w1)
 have HP1 := Lib.hid h2
 have HP2 := Lib.hid h3
 have HQ1 := Lib.hid h4
 have HQ2 := Lib.hid h5
 clear hv
 have hv := Mem.nil w
 have a1 : decide ((t.st : Int) < 0) = false := decide_eq_false (by omega)
 have a2 : decide ((9 : Int) < (t.st : Int)) = false := decide_eq_false (by omega)
 have a3 : decide (9 < t.st) = false := decide_eq_false (by omega)
 have a4 : decide ((256 : Int) < (dn : Int)) = false := decide_eq_false (by omega)
 have a5 : decide (256 < dn) = false := decide_eq_false (by omega)
 have a6 : decide ((t.wnd : Int) < 0) = false := decide_eq_false (by omega)
 have a7 : decide ((65535 : Int) < (t.wnd : Int)) = false := decide_eq_false (by omega)
 have a8 : decide (65535 < t.wnd) = false := decide_eq_false (by omega)
 have a9 : decide ((1099511627776 : Int) < (t.tm : Int)) = false := decide_eq_false (by omega)
 have b1 : decide (1099511627776 < t.tm) = false := decide_eq_false (by omega)
 have b2 : decide ((t.rto : Int) < 1) = false := decide_eq_false (by omega)
 have b3 : decide (t.rto < 1) = false := decide_eq_false (by omega)
 have b4 : decide ((64 : Int) < (t.rto : Int)) = false := decide_eq_false (by omega)
 have b5 : decide (64 < t.rto) = false := decide_eq_false (by omega)
 have b6 : decide ((t.tr : Int) < 0) = false := decide_eq_false (by omega)
 have b7 : decide ((12 : Int) < (t.tr : Int)) = false := decide_eq_false (by omega)
 have b8 : decide (12 < t.tr) = false := decide_eq_false (by omega)
 have c1 : decide ((0 : Int) ≤ (t.er : Int)) = true := decide_eq_true (by omega)
 have c2 : decide ((t.er : Int) ≤ 1000) = true := decide_eq_true (by omega)
 have c3 : decide (t.er ≤ 1000) = true := decide_eq_true (by omega)
 rcases Bool.eq_false_or_eq_true t.se with hs | hs
 · have hen := h8 hs
   rw [hs, hen] at HNU
   clear h1 h2 h3 h4 h5 h6 h7 h8 h9 ha hb hc hd2 he hf hd hI hck
   go_enter Try.func17, Try.ntmps17
   go_wp2_with (first
     | ((with_reducible refine gBx 31 1 ?_); refine nwB hv #[.int .i64 t.st, .int .i64 t.lo, .int .u32 t.ip, .int .i64 t.po, .int .u32 t.iss, .int .u32 t.una, .int .u32 t.nx, .slice da dn dk, .int .i64 t.wnd, .bool t.en, .bool t.se, .int .u32 t.inn.next, .slice ba bn bk, .slice pa pn pk, .bool t.ed, .int .u64 t.tm, .int .i64 t.rto, .int .i64 t.tr, .int .i64 t.er] 31 ?_; clear hv; intro b_1 w2 hv)
     | ((with_reducible refine gLd 3 ?_); refine ldC hv b_1 0 (.int .i64 t.st) Try.underlying3 ?_)
     | ((with_reducible refine gLd 3 ?_); refine ldC hv b_1 1 (.int .i64 t.lo) Try.underlying3 ?_)
     | ((with_reducible refine gLd 3 ?_); refine ldC hv b_1 3 (.int .i64 t.po) Try.underlying3 ?_)
     | ((with_reducible refine gLd 23 ?_); refine ldC hv b_1 7 (.slice da dn dk) Try.underlying23 ?_)
     | ((with_reducible refine gLd 3 ?_); refine ldC hv b_1 8 (.int .i64 t.wnd) Try.underlying3 ?_)
     | ((with_reducible refine gLd 4 ?_); refine ldC hv b_1 10 (.bool t.se) Try.underlying4 ?_)
     | ((with_reducible refine gLd 4 ?_); refine ldC hv b_1 9 (.bool t.en) Try.underlying4 ?_)
     | ((with_reducible refine gLd 28 ?_); refine ldC hv b_1 15 (.int .u64 t.tm) Try.underlying28 ?_)
     | ((with_reducible refine gLd 3 ?_); refine ldC hv b_1 16 (.int .i64 t.rto) Try.underlying3 ?_)
     | ((with_reducible refine gLd 3 ?_); refine ldC hv b_1 17 (.int .i64 t.tr) Try.underlying3 ?_)
     | ((with_reducible refine gLd 29 ?_); refine ldC hv b_1 18 (.int .i64 t.er) Try.underlying29 ?_)
     | ((with_reducible refine at_load (T := 27) ?_); refine wl_ldp rfl b_1 11 rfl _ hv.vars.ro 3 _ Try.underlying27 rfl infoStr (by decide) (by show 11 + 3 ≤ 19; decide) (#[.int .u32 t.inn.next, .slice ba bn bk, .slice pa pn pk]) (ext19s _ _ _ _ _ _ _ _ _ _ _ _ _ _ _ _ _ _ _) ?_)
     | ((with_reducible refine gLd 31 ?_); refine ldV hv b_1 19 Try.underlying31 infoT19 ?_)
     | (go_at_call 40; (with_reducible refine (port_ok HP1.out HP2.out _).mono ?_); rintro e w1 ⟨rfl, hn1⟩; replace hv := hv.new hn1; clear hn1)
     | (go_at_call 40; (with_reducible refine (port_ok HQ1.out HQ2.out _).mono ?_); rintro e w1 ⟨rfl, hn1⟩; replace hv := hv.new hn1; clear hn1)
     | (go_at_call 41; (with_reducible refine (HWK.out _ () hv.below).mono ?_); rintro e w1 ⟨rfl, hn1⟩; replace hv := hv.new hn1; clear hn1)
     | (go_at_call 42; (with_reducible refine (HNU.out _).mono ?_); rintro e w1 ⟨rfl, hn1⟩; replace hv := hv.new hn1; clear hn1))
   go_ret
   exact ⟨rfl, hv.below⟩
 · rw [hs] at HNU
   clear h1 h2 h3 h4 h5 h6 h7 h8 h9 ha hb hc hd2 he hf hd hI hck
   go_enter Try.func17, Try.ntmps17
   go_wp2_with (first
     | ((with_reducible refine gBx 31 1 ?_); refine nwB hv #[.int .i64 t.st, .int .i64 t.lo, .int .u32 t.ip, .int .i64 t.po, .int .u32 t.iss, .int .u32 t.una, .int .u32 t.nx, .slice da dn dk, .int .i64 t.wnd, .bool t.en, .bool t.se, .int .u32 t.inn.next, .slice ba bn bk, .slice pa pn pk, .bool t.ed, .int .u64 t.tm, .int .i64 t.rto, .int .i64 t.tr, .int .i64 t.er] 31 ?_; clear hv; intro b_1 w2 hv)
     | ((with_reducible refine gLd 3 ?_); refine ldC hv b_1 0 (.int .i64 t.st) Try.underlying3 ?_)
     | ((with_reducible refine gLd 3 ?_); refine ldC hv b_1 1 (.int .i64 t.lo) Try.underlying3 ?_)
     | ((with_reducible refine gLd 3 ?_); refine ldC hv b_1 3 (.int .i64 t.po) Try.underlying3 ?_)
     | ((with_reducible refine gLd 23 ?_); refine ldC hv b_1 7 (.slice da dn dk) Try.underlying23 ?_)
     | ((with_reducible refine gLd 3 ?_); refine ldC hv b_1 8 (.int .i64 t.wnd) Try.underlying3 ?_)
     | ((with_reducible refine gLd 4 ?_); refine ldC hv b_1 10 (.bool t.se) Try.underlying4 ?_)
     | ((with_reducible refine gLd 4 ?_); refine ldC hv b_1 9 (.bool t.en) Try.underlying4 ?_)
     | ((with_reducible refine gLd 28 ?_); refine ldC hv b_1 15 (.int .u64 t.tm) Try.underlying28 ?_)
     | ((with_reducible refine gLd 3 ?_); refine ldC hv b_1 16 (.int .i64 t.rto) Try.underlying3 ?_)
     | ((with_reducible refine gLd 3 ?_); refine ldC hv b_1 17 (.int .i64 t.tr) Try.underlying3 ?_)
     | ((with_reducible refine gLd 29 ?_); refine ldC hv b_1 18 (.int .i64 t.er) Try.underlying29 ?_)
     | ((with_reducible refine at_load (T := 27) ?_); refine wl_ldp rfl b_1 11 rfl _ hv.vars.ro 3 _ Try.underlying27 rfl infoStr (by decide) (by show 11 + 3 ≤ 19; decide) (#[.int .u32 t.inn.next, .slice ba bn bk, .slice pa pn pk]) (ext19s _ _ _ _ _ _ _ _ _ _ _ _ _ _ _ _ _ _ _) ?_)
     | ((with_reducible refine gLd 31 ?_); refine ldV hv b_1 19 Try.underlying31 infoT19 ?_)
     | (go_at_call 40; (with_reducible refine (port_ok HP1.out HP2.out _).mono ?_); rintro e w1 ⟨rfl, hn1⟩; replace hv := hv.new hn1; clear hn1)
     | (go_at_call 40; (with_reducible refine (port_ok HQ1.out HQ2.out _).mono ?_); rintro e w1 ⟨rfl, hn1⟩; replace hv := hv.new hn1; clear hn1)
     | (go_at_call 41; (with_reducible refine (HWK.out _ () hv.below).mono ?_); rintro e w1 ⟨rfl, hn1⟩; replace hv := hv.new hn1; clear hn1)
     | (go_at_call 42; (with_reducible refine (HNU.out _).mono ?_); rintro e w1 ⟨rfl, hn1⟩; replace hv := hv.new hn1; clear hn1))
   go_ret
   exact ⟨rfl, hv.below⟩
end Go.Proofs.Ythenepdbgeafkaa
end
