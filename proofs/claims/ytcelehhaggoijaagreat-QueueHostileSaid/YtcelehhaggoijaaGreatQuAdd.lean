/-
  What a driver hands over: right, parts that lie within memory, a part laid.
-/
import Derived.Test.YtcelehhaggoijaaGreatQuChk3
import Derived.Test.YtcelehhaggoijaaGreatQuBufs
import Derived.Test.YtcelehhaggoijaaGreatCut1
set_option linter.unusedVariables false
set_option linter.unusedSimpArgs false
namespace Go.Proofs.Qu
open Go Go.RowKit Go.Proofs.Nm
theorem splice_w (a b c d e f g v : Value) : splice #[a, b, c, d, e, f, g] 6 #[v] = #[a, b, c, d, e, f, v] := by simp [splice]
theorem part_cells (l : List Pt) {k : Nat} (hk : k < l.length) : ((cellsPt l).drop (k * 3)).take 3 = [.int .i64 ((l[k]'hk).1 : Nat), .int .i64 ((l[k]'hk).2.1 : Nat), .bool (l[k]'hk).2.2] := part_flat (k := 3) (en := encP) (fun _ => rfl) l k hk
theorem wrapU64 {n : Nat} (h : n < 18446744073709551616) : IntKind.u64.wrap (n : Int) = (n : Int) := by
  have e : IntKind.u64.wrap (n : Int) = (n : Int) % 18446744073709551616 := rfl
  rw [e]; omega
end Go.Proofs.Qu
namespace Go.Proofs.YtcelehhaggoijaaGreat
open Go.Proofs.Qu Go.Proofs.Nm Go.RowKit Go.Proofs
set_option maxRecDepth 100000 in
set_option maxHeartbeats 4000000 in
theorem QRight_ok {w0 w : World} {L : List (Nat × Array Value)} {R : List (Nat × Value × List Value)} {mb mo mn mc : Nat} {M : List Nat} (hv : Mem w0 w L R) (hm : InM R mb mo mn mc M) {base n av la : Nat} {fv cv : Value} {free : List Nat} {chs : List Chn} (hq : InQ R fv cv free chs) (hok : OkQ n free chs) (hb : base + sizeN n ≤ mn) :
    Calls Tryz.prog 41 #[(.agg #[(.slice (some ⟨mb, mo, none⟩) mn mc)]), .agg #[.int .i64 (base : Nat), .int .i64 (n : Nat), fv, .int .u16 (av : Nat), .int .u16 (la : Nat), cv]] w fun e w' => e = .returned (.bool true) ∧ New w w' := by
  have hv0 := hv
  clear hv
  have hv : Mem w w [] R := ⟨Vars.nil w, fun x hx => ⟨(hv0.rds x hx).1, fun _ _ _ _ _ _ p hp => (List.not_mem_nil hp).elim⟩⟩
  obtain ⟨fa, fn, fc, rfl, _⟩ := id (hv.rd hq.fr)
  obtain ⟨ca, cn, cc, rfl, _⟩ := id (hv.rd hq.ch)
  have HQ := Lib.hid hq
  have HOK := Lib.hid hok
  have HB := Lib.hid hb
  have HM8 : Hid (mn ≤ 8192) := Lib.hid hm.most
  clear hv0 hq hok hb hm
  go_enter Tryz.func41, Tryz.ntmps41
  go_wp2_with (first
    | ((with_reducible refine at_box (T := 28) (dst := some 2) ?_); refine wl_newb rfl #[(.slice (some ⟨mb, mo, none⟩) mn mc)] 28 (fun _ => rfl) ?_; intro b2 w2 hm2; replace hv := hv.madeAt hm2; clear hm2)
    | ((with_reducible refine at_box (T := 32) (dst := some 3) ?_); refine wl_newb rfl #[.int .i64 (base : Nat), .int .i64 (n : Nat), .slice fa fn fc, .int .u16 (av : Nat), .int .u16 (la : Nat), .slice ca cn cc] 32 (fun _ => rfl) ?_; intro b3 w2 hm2; replace hv := hv.madeAt hm2; clear hm2)
    | ((with_reducible refine at_load (T := 32) ?_); refine wl_ldv rfl b3 rfl _ (hv.vars.row (by first | exact .head _ | exact .tail _ (.head _) | exact .tail _ (.tail _ (.head _)) | exact .tail _ (.tail _ (.tail _ (.head _))) | exact .tail _ (.tail _ (.tail _ (.tail _ (.head _)))) | exact .tail _ (.tail _ (.tail _ (.tail _ (.tail _ (.head _))))) | exact .tail _ (.tail _ (.tail _ (.tail _ (.tail _ (.tail _ (.head _)))))) | exact .tail _ (.tail _ (.tail _ (.tail _ (.tail _ (.tail _ (.tail _ (.head _))))))))) 6 _ Tryz.underlying32 rfl infoQ (by decide) rfl ?_)
    | (go_at_call 13; (with_reducible refine (QCheck_ok hv HQ.out HOK.out).mono ?_); rintro e w1 ⟨rfl, hn1⟩; replace hv := hv.new hn1; clear hn1)
    | ((with_reducible refine at_load (T := 28) ?_); refine wl_ldv rfl b2 rfl _ (hv.vars.row (by first | exact .head _ | exact .tail _ (.head _) | exact .tail _ (.tail _ (.head _)) | exact .tail _ (.tail _ (.tail _ (.head _))) | exact .tail _ (.tail _ (.tail _ (.tail _ (.head _)))) | exact .tail _ (.tail _ (.tail _ (.tail _ (.tail _ (.head _))))) | exact .tail _ (.tail _ (.tail _ (.tail _ (.tail _ (.tail _ (.head _)))))) | exact .tail _ (.tail _ (.tail _ (.tail _ (.tail _ (.tail _ (.tail _ (.head _))))))))) 1 _ Tryz.underlying28 rfl infoM (by decide) rfl ?_)
    | ((with_reducible refine at_load (T := 3) ?_); refine wl_ldc rfl b3 0 rfl _ (hv.vars.row (by first | exact .head _ | exact .tail _ (.head _) | exact .tail _ (.tail _ (.head _)) | exact .tail _ (.tail _ (.tail _ (.head _))) | exact .tail _ (.tail _ (.tail _ (.tail _ (.head _)))) | exact .tail _ (.tail _ (.tail _ (.tail _ (.tail _ (.head _))))) | exact .tail _ (.tail _ (.tail _ (.tail _ (.tail _ (.tail _ (.head _)))))) | exact .tail _ (.tail _ (.tail _ (.tail _ (.tail _ (.tail _ (.tail _ (.head _))))))))) _ Tryz.underlying3 rfl (.int .i64 (base : Nat)) rfl ?_)
    | ((with_reducible refine at_load (T := 3) ?_); refine wl_ldc rfl b3 1 rfl _ (hv.vars.row (by first | exact .head _ | exact .tail _ (.head _) | exact .tail _ (.tail _ (.head _)) | exact .tail _ (.tail _ (.tail _ (.head _))) | exact .tail _ (.tail _ (.tail _ (.tail _ (.head _)))) | exact .tail _ (.tail _ (.tail _ (.tail _ (.tail _ (.head _))))) | exact .tail _ (.tail _ (.tail _ (.tail _ (.tail _ (.tail _ (.head _)))))) | exact .tail _ (.tail _ (.tail _ (.tail _ (.tail _ (.tail _ (.tail _ (.head _))))))))) _ Tryz.underlying3 rfl (.int .i64 (n : Nat)) rfl ?_)
    | (go_at_call 38; (with_reducible refine (RingCheck_ok _ _ _ _ _ _ HOK.out.sz HB.out HM8.out _).mono ?_); rintro e w1 ⟨rfl, hn1⟩; replace hv := hv.new hn1; clear hn1))
  go_ret
  exact ⟨rfl, hv.below⟩
set_option maxRecDepth 100000 in
set_option maxHeartbeats 4000000 in
theorem Add1_ok {mb mo mn mc : Nat} {M : List Nat} (hm : OkM mn M) {bm : Nat} (p ln : Nat) (wr : Bool) (h1 : 0 < ln) (h : p + ln ≤ mn) (w : World) (hrow : w.rowD bm = #[(.slice (some ⟨mb, mo, none⟩) mn mc)]) (hlt : bm < w.heap.size) (hr : Rd w 1 (.slice (some ⟨mb, mo, none⟩) mn mc) (cellsB M)) :
    Calls Tryz.prog 43 #[.agg #[.int .i64 (p : Nat), .int .i64 (ln : Nat), .bool wr], .pointer (some ⟨bm, 0, none⟩)] w fun e w' => e = .returned (.bool false) ∧ New w w' := by
  have hv0 := (Mem.nil w).old hr
  have hv : Mem w w [] [(1, (.slice (some ⟨mb, mo, none⟩) mn mc), cellsB M)] := hv0
  have HM : Hid (InM [(1, (.slice (some ⟨mb, mo, none⟩) mn mc), cellsB M)] mb mo mn mc M) := Lib.hid ⟨Mem.z, hm.len, hm.pos, hm.most, hm.good⟩
  clear hv0 hr
  have HROW := Lib.hid hrow
  have HLT := Lib.hid hlt
  have H1 := Lib.hid h1
  have HH := Lib.hid h
  clear h1 h hrow hlt hm
  go_enter Tryz.func43, Tryz.ntmps43
  go_wp2_with (first
    | ((with_reducible refine at_box (T := 39) (dst := some 2) ?_); refine wl_newb rfl #[.int .i64 (p : Nat), .int .i64 (ln : Nat), .bool wr] 39 (fun _ => rfl) ?_; intro b2 w2 hm2; replace hv := hv.madeAt hm2; clear hm2)
    | ((with_reducible refine at_load (T := 28) ?_); refine wl_ldv rfl bm rfl _ ((New.row hv.below HLT.out).trans HROW.out) 1 _ Tryz.underlying28 rfl infoM (by decide) rfl ?_)
    | ((with_reducible refine at_load (T := 39) ?_); refine wl_ldv rfl b2 rfl _ (hv.vars.row (by first | exact .head _ | exact .tail _ (.head _) | exact .tail _ (.tail _ (.head _)) | exact .tail _ (.tail _ (.tail _ (.head _))) | exact .tail _ (.tail _ (.tail _ (.tail _ (.head _)))) | exact .tail _ (.tail _ (.tail _ (.tail _ (.tail _ (.head _))))) | exact .tail _ (.tail _ (.tail _ (.tail _ (.tail _ (.tail _ (.head _)))))) | exact .tail _ (.tail _ (.tail _ (.tail _ (.tail _ (.tail _ (.tail _ (.head _))))))))) 3 _ Tryz.underlying39 rfl infoB3 (by decide) rfl ?_)
    | (go_at_call 44; (with_reducible refine (lies_w HM.out.ok p ln wr H1.out HH.out _ (hv.rd HM.out.rd)).mono ?_); rintro e w1 ⟨rfl, hn1⟩; replace hv := hv.new hn1; clear hn1))
  go_ret
  exact ⟨rfl, hv.below⟩
set_option maxRecDepth 100000 in
set_option maxHeartbeats 4000000 in
theorem IndexB_no {v : Value} {l : List Pt} (hl100 : l.length ≤ 100000) {f : FuncId} {cap : Array Value} (hE : Enters Tryz.prog f) (w : World) (hr : Rd w 3 v (cellsPt l)) (hdo : ∀ p ∈ l, ∀ w1, New w w1 → Calls Tryz.prog f (#[.agg #[.int .i64 (p.1 : Nat), .int .i64 (p.2.1 : Nat), .bool p.2.2]] ++ cap) w1 fun e w' => e = .returned (.bool false) ∧ New w1 w') :
    Calls Tryz.prog 90 #[v, .func (.func f) #[] cap] w fun e w' => e = .returned (.int .i64 (-1)) ∧ New w w' := by
  have hv := (Mem.nil w).old hr
  obtain ⟨aa, an, ac, rfl, _⟩ := id hr
  have HL : Hid ((3, Value.slice aa an ac, cellsPt l) ∈ [(3, Value.slice aa an ac, cellsPt l)]) := Lib.hid Mem.z
  have HE := Lib.hid hE
  have HDO := Lib.hid hdo
  have hln : l.length = an := len_rdPt hr
  have HLN := Lib.hid hln
  have HAB : Hid (an ≤ 100000) := Lib.hid (by omega)
  clear hl100 hE hdo hr hln
  go_enter Tryz.func90, Tryz.ntmps90
  go_wp2
  go_loopw [8] (fun kv wr => ∃ k : Nat, k ≤ an ∧ kv = .int .i64 (k : Nat) ∧ Mem w wr [] [(3, Value.slice aa an ac, cellsPt l)]) (fun kv _ => an - (intOf kv).toNat)
  case atStart => exact ⟨0, Nat.zero_le _, rfl, hv⟩
  case round =>
    clear hv
    obtain ⟨k, hk0, rfl, hv⟩ := hrel
    by_cases hk : k < an
    · have hki : (k : Int) < (an : Int) := by omega
      have hkb : (k : Int) ≤ 100000 := by have := HAB.out; omega
      have hkl : k < l.length := by rw [HLN.out]; exact hk
      obtain ⟨⟨p, ln, wr⟩, hc⟩ : ∃ c, l[k] = c := ⟨_, rfl⟩
      have HKC : Hid (((cellsPt l).drop (k * 3)).take 3 = [.int .i64 (p : Nat), .int .i64 (ln : Nat), .bool wr]) := Lib.hid (by
        have := part_cells l hkl
        rw [hc] at this; exact this)
      have HP : Hid (∀ w1, New w w1 → Calls Tryz.prog f (#[.agg #[.int .i64 (p : Nat), .int .i64 (ln : Nat), .bool wr]] ++ cap) w1 fun e w' => e = .returned (.bool false) ∧ New w1 w') := Lib.hid (fun w1 hn => by
        have := HDO.out l[k] (List.getElem_mem _) w1 hn
        rw [hc] at this; exact this)
      obtain ⟨xb, xo, _, _, e, hq⟩ := (hv.rd HL.out).some (by rw [cellsPt_len]; omega)
      clear hq
      cases e
      have HKN := Lib.hid hk
      clear hkl hc hk0 hk
      go_wp2_with (first
        | ((with_reducible refine at_load (T := 39) ?_); refine wl_rdv rfl (hv.rd HL.out) (k * 3) rfl 3 _ Tryz.underlying39 rfl infoB3 (by decide) #[.int .i64 (p : Nat), .int .i64 (ln : Nat), .bool wr] HKC.out rfl ?_)
        | ((with_reducible refine at_call ?_); refine wl_callv rfl HE.out rfl [.agg #[.int .i64 (p : Nat), .int .i64 (ln : Nat), .bool wr]] rfl (HP.out _ hv.below) ?_; rintro e w1 ⟨rfl, hn1⟩; refine ⟨_, rfl, ?_⟩; replace hv := hv.new hn1; clear hn1))
      have hkn := HKN.out
      go_roundw
      case rel => exact ⟨k + 1, by omega, by go_num, hv⟩
      case measure => simp [intOf]; omega
    · have hki : ¬ (k : Int) < (an : Int) := by omega
      clear hk hk0
      go_wp2
      go_ret
      exact ⟨rfl, hv.below⟩
set_option maxRecDepth 100000 in
set_option maxHeartbeats 4000000 in
theorem Contains_no {v : Value} {l : List Pt} (hl100 : l.length ≤ 100000) {f : FuncId} {cap : Array Value} (hE : Enters Tryz.prog f) (w : World) (hr : Rd w 3 v (cellsPt l)) (hdo : ∀ p ∈ l, ∀ w1, New w w1 → Calls Tryz.prog f (#[.agg #[.int .i64 (p.1 : Nat), .int .i64 (p.2.1 : Nat), .bool p.2.2]] ++ cap) w1 fun e w' => e = .returned (.bool false) ∧ New w1 w') :
    Calls Tryz.prog 42 #[v, .func (.func f) #[] cap] w fun e w' => e = .returned (.bool false) ∧ New w w' := by
  have hv := Mem.nil w
  have HX := Lib.hid (IndexB_no hl100 hE w hr hdo)
  clear hl100 hE hdo hr
  go_enter Tryz.func42, Tryz.ntmps42
  go_wp2_with (first
    | (go_at_call 90; (with_reducible refine (HX.out).mono ?_); rintro e w1 ⟨rfl, hn1⟩; replace hv := hv.new hn1; clear hn1))
  go_ret
  exact ⟨rfl, hv.below⟩
theorem built_d (p ln : Nat) : Tryz.prog.built 164 [(0, .int .u64 (p : Nat)), (1, .int .u32 (ln : Nat))] = some #[.int .u64 (p : Nat), .int .u32 (ln : Nat), .int .u16 0, .int .u16 0] := by kernel_rfl
set_option maxRecDepth 100000 in
set_option maxHeartbeats 16000000 in
theorem lay_00 {w0 w : World} {L : List (Nat × Array Value)} {R : List (Nat × Value × List Value)} {mb mo mn mc : Nat} {M : List Nat} {bw bc base n av la hd db d0 dn dc rm : Nat} {fv cv : Value} {ds : List Nat} (hv : Mem w0 w ((bw, #[.int .i64 (base : Nat), .int .i64 (n : Nat), fv, .int .u16 (av : Nat), .int .u16 (la : Nat), cv, (.slice (some ⟨mb, mo, none⟩) mn mc)]) :: (bc, #[.int .i64 (hd : Nat), .slice (some ⟨db, d0, none⟩) dn dc, .int .i64 (rm : Nat)]) :: L) R) (hm : InM R mb mo mn mc M) (hn : okN n) (hb : base + sizeN n ≤ mn) (hds : (1, .slice (some ⟨db, d0, none⟩) dn dc, intsI ds) ∈ R) (i p ln : Nat) (hln : ln < 1000000) (hp : p < 1000000) {di : Nat} (hdi : ds[i]? = some di) (hdn : di < n) (hdl : ds.length ≤ 16) (hrm : rm ≤ 100000000) {nx : Nat} (hnx : ds[i + 1]? = some nx) (hnxn : nx < n) :
    Calls Tryz.prog 46 #[.pointer (some ⟨bw, 0, none⟩), .pointer (some ⟨bc, 0, none⟩), .int .i64 (i : Nat), .agg #[.int .i64 (p : Nat), .int .i64 (ln : Nat), .bool false]] w fun e w' => e = .returned (.tuple #[]) ∧ ∃ vb vo vc R', Mem w0 w' ((bw, #[.int .i64 (base : Nat), .int .i64 (n : Nat), fv, .int .u16 (av : Nat), .int .u16 (la : Nat), cv, (.slice (some ⟨vb, vo, none⟩) mn vc)]) :: (bc, #[.int .i64 (hd : Nat), .slice (some ⟨db, d0, none⟩) dn dc, .int .i64 (rm : Nat)]) :: L) R' ∧ InM R' vb vo mn vc (setD M (base + 16 * di) p ln 1 nx) ∧ ∀ x ∈ R, x ∈ R' := by
  have HM := Lib.hid hm
  have HN := Lib.hid hn
  have HB := Lib.hid hb
  have HDS := Lib.hid hds
  have hdnn : ds.length = dn := by
    obtain ⟨_, _, _, e, g, _⟩ := hv.rd hds
    cases e
    rw [intsI_len] at g; omega
  have hle := hn.le
  have HDN := Lib.hid hdn
  have hil : i < ds.length := (List.getElem?_eq_some_iff.1 hdi).1
  have HXI : Hid ((intsI ds)[i]? = some (.int .i64 (di : Nat))) := Lib.hid (by unfold intsI; rw [List.getElem?_map, hdi]; rfl)
  have HA : Hid (p < 18446744073709551616) := Lib.hid (by omega)
  have HL4 : Hid (ln < 4294967296) := Lib.hid (by omega)
  have HF : Hid ((1 : Nat) < 65536) := Lib.hid (by decide)
  have q1 : IntKind.u64.wrap (p : Int) = (p : Int) := wrapU64 (by omega)
  have q2 : IntKind.u32.wrap (ln : Int) = (ln : Int) := wrap32 (by omega)
  have q3 : IntKind.i64.wrap ((i : Int) + 1) = (i : Int) + 1 := IntWalk.i64_in _ (by omega)
  have hil1 : i + 1 < ds.length := (List.getElem?_eq_some_iff.1 hnx).1
  have HX : Hid (nx < 65536) := Lib.hid (by omega)
  have HXN : Hid ((intsI ds)[i + 1]? = some (.int .i64 (nx : Nat))) := Lib.hid (by unfold intsI; rw [List.getElem?_map, hnx]; rfl)
  have q4 : IntKind.u16.wrap (nx : Int) = (nx : Int) := wrap16 (by omega)
  have y1 : decide ((i : Int) + 1 < (dn : Int)) = true := decide_eq_true (by omega)
  have y2 : (i : Int) + 1 < (dn : Int) := by omega
  clear hm hn hb hds hln hp hdi hdn hdl hrm hnx hnxn hil1  hdnn hle hil
  go_enter Tryz.func46, Tryz.ntmps46
  go_wp2_with (first
    | ((with_reducible refine at_box (T := 39) (dst := some 7) ?_); refine wl_newb rfl #[.int .i64 (p : Nat), .int .i64 (ln : Nat), .bool false] 39 (fun _ => rfl) ?_; intro b7 w2 hm2; replace hv := hv.madeAt hm2; clear hm2)
    | ((with_reducible refine at_load (T := 3) ?_); refine wl_ldc rfl b7 0 rfl _ (hv.vars.row (by first | exact .head _ | exact .tail _ (.head _) | exact .tail _ (.tail _ (.head _)) | exact .tail _ (.tail _ (.tail _ (.head _))) | exact .tail _ (.tail _ (.tail _ (.tail _ (.head _)))) | exact .tail _ (.tail _ (.tail _ (.tail _ (.tail _ (.head _))))) | exact .tail _ (.tail _ (.tail _ (.tail _ (.tail _ (.tail _ (.head _)))))) | exact .tail _ (.tail _ (.tail _ (.tail _ (.tail _ (.tail _ (.tail _ (.head _))))))))) _ Tryz.underlying3 rfl (.int .i64 (p : Nat)) rfl ?_)
    | ((with_reducible refine at_load (T := 3) ?_); refine wl_ldc rfl b7 1 rfl _ (hv.vars.row (by first | exact .head _ | exact .tail _ (.head _) | exact .tail _ (.tail _ (.head _)) | exact .tail _ (.tail _ (.tail _ (.head _))) | exact .tail _ (.tail _ (.tail _ (.tail _ (.head _)))) | exact .tail _ (.tail _ (.tail _ (.tail _ (.tail _ (.head _))))) | exact .tail _ (.tail _ (.tail _ (.tail _ (.tail _ (.tail _ (.head _)))))) | exact .tail _ (.tail _ (.tail _ (.tail _ (.tail _ (.tail _ (.tail _ (.head _))))))))) _ Tryz.underlying3 rfl (.int .i64 (ln : Nat)) rfl ?_)
    | ((with_reducible refine at_build ?_); refine wl_build rfl [(0, .int .u64 (p : Nat)), (1, .int .u32 (ln : Nat))] rfl (built_d _ _) ?_)
    | ((with_reducible refine at_alloc (T := 164) (dst := some 8) ?_); refine wl_newb rfl #[.int .u64 0, .int .u32 0, .int .u16 0, .int .u16 0] 164 (fun _ => rfl) ?_; intro b8 w2 hm2; replace hv := hv.madeAt hm2; clear hm2)
    | ((with_reducible refine at_store (T := 164) ?_); refine wl_stv rfl b8 rfl _ rfl _ (hv.vars.row (by first | exact .head _ | exact .tail _ (.head _) | exact .tail _ (.tail _ (.head _)) | exact .tail _ (.tail _ (.tail _ (.head _))) | exact .tail _ (.tail _ (.tail _ (.tail _ (.head _)))) | exact .tail _ (.tail _ (.tail _ (.tail _ (.tail _ (.head _))))) | exact .tail _ (.tail _ (.tail _ (.tail _ (.tail _ (.tail _ (.head _)))))) | exact .tail _ (.tail _ (.tail _ (.tail _ (.tail _ (.tail _ (.tail _ (.head _))))))))) (hv.vars.sft (by first | exact .head _ | exact .tail _ (.head _) | exact .tail _ (.tail _ (.head _)) | exact .tail _ (.tail _ (.tail _ (.head _))) | exact .tail _ (.tail _ (.tail _ (.tail _ (.head _)))) | exact .tail _ (.tail _ (.tail _ (.tail _ (.tail _ (.head _))))) | exact .tail _ (.tail _ (.tail _ (.tail _ (.tail _ (.tail _ (.head _)))))) | exact .tail _ (.tail _ (.tail _ (.tail _ (.tail _ (.tail _ (.tail _ (.head _))))))))) 4 infoD rfl rfl (by simp [Value.oneCell']) ?_; intro w2 hw2; (first | (replace hv := hv.set 0 rfl hw2) | (replace hv := hv.set 1 rfl hw2) | (replace hv := hv.set 2 rfl hw2) | (replace hv := hv.set 3 rfl hw2) | (replace hv := hv.set 4 rfl hw2) | (replace hv := hv.set 5 rfl hw2) | (replace hv := hv.set 6 rfl hw2) | (replace hv := hv.set 7 rfl hw2)); clear hw2; simp only [List.set] at hv)
    | ((with_reducible refine at_load (T := 22) ?_); refine wl_ldc rfl bc 1 rfl _ (hv.vars.row (by first | exact .head _ | exact .tail _ (.head _) | exact .tail _ (.tail _ (.head _)) | exact .tail _ (.tail _ (.tail _ (.head _))) | exact .tail _ (.tail _ (.tail _ (.tail _ (.head _)))) | exact .tail _ (.tail _ (.tail _ (.tail _ (.tail _ (.head _))))) | exact .tail _ (.tail _ (.tail _ (.tail _ (.tail _ (.tail _ (.head _)))))) | exact .tail _ (.tail _ (.tail _ (.tail _ (.tail _ (.tail _ (.tail _ (.head _))))))))) _ Tryz.underlying22 rfl (.slice (some ⟨db, d0, none⟩) dn dc) rfl ?_))
  have hv0 := hv
  clear hv
  have hv : Mem w0 _ ([(b8, #[.int .u64 (p : Nat), .int .u32 (ln : Nat), .int .u16 0, .int .u16 0]), (b7, #[.int .i64 (p : Nat), .int .i64 (ln : Nat), .bool false]), (bw, #[.int .i64 (base : Nat), .int .i64 (n : Nat), fv, .int .u16 (av : Nat), .int .u16 (la : Nat), cv, (.slice (some ⟨mb, mo, none⟩) mn mc)]), (bc, #[.int .i64 (hd : Nat), .slice (some ⟨db, d0, none⟩) dn dc, .int .i64 (rm : Nat)])] ++ L) _ := hv0
  clear hv0
  have HPD := Lib.hid (Any.rd_start (hv.keep (List.sublist_append_left [(b8, #[.int .u64 (p : Nat), .int .u32 (ln : Nat), .int .u16 0, .int .u16 0]), (b7, #[.int .i64 (p : Nat), .int .i64 (ln : Nat), .bool false]), (bw, #[.int .i64 (base : Nat), .int .i64 (n : Nat), fv, .int .u16 (av : Nat), .int .u16 (la : Nat), cv, (.slice (some ⟨mb, mo, none⟩) mn mc)]), (bc, #[.int .i64 (hd : Nat), .slice (some ⟨db, d0, none⟩) dn dc, .int .i64 (rm : Nat)])] L)) HDS.out)
  refine Any.wp_region_walk [⟨[], none⟩, ⟨[], none⟩, ⟨[], none⟩, ⟨[1003], none⟩, ⟨[], none⟩, ⟨[], none⟩, ⟨[], none⟩, ⟨[], none⟩, ⟨[], none⟩, ⟨[], none⟩, ⟨[1000], some 1000⟩, ⟨[], none⟩, ⟨[1000], some 1000⟩] [.val, .val, .val, .val, .val, .val, .val, .val, .val, .val, .put, .val, .put] (by kernel_rfl) (by kernel_rfl) (hv.vars.keep (List.sublist_append_left [(b8, #[.int .u64 (p : Nat), .int .u32 (ln : Nat), .int .u16 0, .int .u16 0]), (b7, #[.int .i64 (p : Nat), .int .i64 (ln : Nat), .bool false]), (bw, #[.int .i64 (base : Nat), .int .i64 (n : Nat), fv, .int .u16 (av : Nat), .int .u16 (la : Nat), cv, (.slice (some ⟨mb, mo, none⟩) mn mc)]), (bc, #[.int .i64 (hd : Nat), .slice (some ⟨db, d0, none⟩) dn dc, .int .i64 (rm : Nat)])] L)) ?_
  simp only [List.length_cons, List.length_nil, Nat.zero_add, Any.someVals]
  iterate 13 apply Exists.intro
  repeat (first
    | (refine Any.E_off rfl ?_; simp only [Act.put, List.setIfInBounds_toArray, List.set_cons_succ, List.set_cons_zero])
    | (apply Any.E_pureq rfl rfl rfl
       case h => intro K hK; go_big_quiet_op; (refine hK _ ?_; rfl)
       case hr => exact fun _ => rfl
       simp only [Act.put, List.setIfInBounds_toArray, List.set_cons_succ, List.set_cons_zero])
    | (apply Any.E_val rfl rfl rfl rfl
       case h =>
         intro E' hA K hK
         first
           | ((with_reducible refine Any.at_qload (T := 22) ?_); refine Any.q_ldc 1003 hA (by decide) rfl rfl _ Tryz.underlying22 rfl (.slice (some ⟨db, d0, none⟩) dn dc) rfl ?_; refine hK _ ?_; rfl)
           | ((with_reducible refine Any.at_qload (T := 3) ?_); refine Any.q_rd HPD.out (i + 1) rfl _ Tryz.underlying3 rfl (.int .i64 (nx : Nat)) HXN.out ?_; refine hK _ ?_; rfl)
           | (go_big_quiet_op; first
             | (refine hK _ ?_; rfl)
             | (refine ⟨_, fun _ _ => rfl, ?_⟩; refine hK _ ?_; rfl)
             | (apply Exists.intro; refine ⟨fun w1 hw1 => ?_, ?_⟩; · (first
                 | fail)
                refine hK _ ?_; rfl))
       case hD => rfl
       simp only [Act.put, List.setIfInBounds_toArray, List.set_cons_succ, List.set_cons_zero])
    | ((with_reducible refine Any.at_ealloc ?_); refine Any.E_lay rfl rfl rfl (fun _ => rfl) ?_; intro B; simp only [Act.put, List.setIfInBounds_toArray, List.set_cons_succ, List.set_cons_zero])
    | ((with_reducible refine Any.at_estore (T := 29) ?_); refine Any.E_putc (T := 29) rfl rfl rfl rfl rfl rfl (by kernel_rfl) rfl (by simp) ?_; simp only [Act.put, List.setIfInBounds_toArray, List.set_cons_succ, List.set_cons_zero]))
  try any_goals exact undef
  refine Any.E_nil ?_
  intro w9 hE9
  replace hv : Mem w0 w9 ([(b8, #[.int .u64 (p : Nat), .int .u32 (ln : Nat), .int .u16 1, .int .u16 (nx : Nat)]), (b7, #[.int .i64 (p : Nat), .int .i64 (ln : Nat), .bool false]), (bw, #[.int .i64 (base : Nat), .int .i64 (n : Nat), fv, .int .u16 (av : Nat), .int .u16 (la : Nat), cv, (.slice (some ⟨mb, mo, none⟩) mn mc)]), (bc, #[.int .i64 (hd : Nat), .slice (some ⟨db, d0, none⟩) dn dc, .int .i64 (rm : Nat)])] ++ L) _ := hE9.memr hv [1000, 1001, 1002, 1003] (by decide)
  clear hE9
  simp only [List.cons_append, List.nil_append] at hv
  go_wp2_with (first
    | ((with_reducible refine at_load (T := 4) ?_); refine wl_ldc rfl b7 2 rfl _ (hv.vars.row (by first | exact .head _ | exact .tail _ (.head _) | exact .tail _ (.tail _ (.head _)) | exact .tail _ (.tail _ (.tail _ (.head _))) | exact .tail _ (.tail _ (.tail _ (.tail _ (.head _)))) | exact .tail _ (.tail _ (.tail _ (.tail _ (.tail _ (.head _))))) | exact .tail _ (.tail _ (.tail _ (.tail _ (.tail _ (.tail _ (.head _)))))) | exact .tail _ (.tail _ (.tail _ (.tail _ (.tail _ (.tail _ (.tail _ (.head _))))))))) _ Tryz.underlying4 rfl (.bool false) rfl ?_)
    | ((with_reducible refine at_load (T := 29) ?_); refine wl_ldc rfl b8 2 rfl _ (hv.vars.row (by first | exact .head _ | exact .tail _ (.head _) | exact .tail _ (.tail _ (.head _)) | exact .tail _ (.tail _ (.tail _ (.head _))) | exact .tail _ (.tail _ (.tail _ (.tail _ (.head _)))) | exact .tail _ (.tail _ (.tail _ (.tail _ (.tail _ (.head _))))) | exact .tail _ (.tail _ (.tail _ (.tail _ (.tail _ (.tail _ (.head _)))))) | exact .tail _ (.tail _ (.tail _ (.tail _ (.tail _ (.tail _ (.tail _ (.head _))))))))) _ Tryz.underlying29 rfl (.int .u16 1) rfl ?_)
    | ((with_reducible refine at_store (T := 29) ?_); refine wl_stc rfl b8 2 rfl (.int .u16 1) rfl _ (hv.vars.row (by first | exact .head _ | exact .tail _ (.head _) | exact .tail _ (.tail _ (.head _)) | exact .tail _ (.tail _ (.tail _ (.head _))) | exact .tail _ (.tail _ (.tail _ (.tail _ (.head _)))) | exact .tail _ (.tail _ (.tail _ (.tail _ (.tail _ (.head _))))) | exact .tail _ (.tail _ (.tail _ (.tail _ (.tail _ (.tail _ (.head _)))))) | exact .tail _ (.tail _ (.tail _ (.tail _ (.tail _ (.tail _ (.tail _ (.head _))))))))) (hv.vars.sft (by first | exact .head _ | exact .tail _ (.head _) | exact .tail _ (.tail _ (.head _)) | exact .tail _ (.tail _ (.tail _ (.head _))) | exact .tail _ (.tail _ (.tail _ (.tail _ (.head _)))) | exact .tail _ (.tail _ (.tail _ (.tail _ (.tail _ (.head _))))) | exact .tail _ (.tail _ (.tail _ (.tail _ (.tail _ (.tail _ (.head _)))))) | exact .tail _ (.tail _ (.tail _ (.tail _ (.tail _ (.tail _ (.tail _ (.head _))))))))) (by kernel_rfl) rfl (by show 2 < 4; decide) ?_; intro w2 hw2; (first | (replace hv := hv.set 0 rfl hw2) | (replace hv := hv.set 1 rfl hw2) | (replace hv := hv.set 2 rfl hw2) | (replace hv := hv.set 3 rfl hw2)); clear hw2; simp only [List.set] at hv))
  try clear HPD
  have hv0 := hv
  clear hv
  have hv : Mem w0 _ ([(b8, #[.int .u64 (p : Nat), .int .u32 (ln : Nat), .int .u16 1, .int .u16 (nx : Nat)]), (b7, #[.int .i64 (p : Nat), .int .i64 (ln : Nat), .bool false]), (bw, #[.int .i64 (base : Nat), .int .i64 (n : Nat), fv, .int .u16 (av : Nat), .int .u16 (la : Nat), cv, (.slice (some ⟨mb, mo, none⟩) mn mc)]), (bc, #[.int .i64 (hd : Nat), .slice (some ⟨db, d0, none⟩) dn dc, .int .i64 (rm : Nat)])] ++ L) _ := hv0
  clear hv0
  have HPD := Lib.hid (Any.rd_start (hv.keep (List.sublist_append_left [(b8, #[.int .u64 (p : Nat), .int .u32 (ln : Nat), .int .u16 1, .int .u16 (nx : Nat)]), (b7, #[.int .i64 (p : Nat), .int .i64 (ln : Nat), .bool false]), (bw, #[.int .i64 (base : Nat), .int .i64 (n : Nat), fv, .int .u16 (av : Nat), .int .u16 (la : Nat), cv, (.slice (some ⟨mb, mo, none⟩) mn mc)]), (bc, #[.int .i64 (hd : Nat), .slice (some ⟨db, d0, none⟩) dn dc, .int .i64 (rm : Nat)])] L)) HDS.out)
  have hv0 := hv
  clear hv
  have hv : Mem w0 _ ([(b8, #[.int .u64 (p : Nat), .int .u32 (ln : Nat), .int .u16 1, .int .u16 (nx : Nat)]), (b7, #[.int .i64 (p : Nat), .int .i64 (ln : Nat), .bool false]), (bw, #[.int .i64 (base : Nat), .int .i64 (n : Nat), fv, .int .u16 (av : Nat), .int .u16 (la : Nat), cv, (.slice (some ⟨mb, mo, none⟩) mn mc)]), (bc, #[.int .i64 (hd : Nat), .slice (some ⟨db, d0, none⟩) dn dc, .int .i64 (rm : Nat)])] ++ L) _ := hv0
  clear hv0
  refine Any.wp_region_cut1 23 [⟨[], none⟩, ⟨[], none⟩, ⟨[], none⟩, ⟨[], none⟩, ⟨[1002], none⟩, ⟨[], none⟩, ⟨[], none⟩, ⟨[], none⟩, ⟨[], none⟩, ⟨[1002], none⟩, ⟨[], none⟩, ⟨[], none⟩, ⟨[], none⟩, ⟨[], none⟩, ⟨[1002], none⟩, ⟨[], none⟩, ⟨[], none⟩, ⟨[], none⟩, ⟨[1003], none⟩, ⟨[], none⟩, ⟨[], none⟩, ⟨[], none⟩, ⟨[1000], none⟩, ⟨[], none⟩, ⟨[], none⟩, ⟨[], none⟩, ⟨[], none⟩, ⟨[], none⟩, ⟨[], none⟩, ⟨[], none⟩] [.val, .val, .val, .val, .val, .val, .val, .val, .val, .val, .val, .val, .val, .val, .val, .val, .val, .val, .val, .val, .val, .val, .val] (.pointer (some ⟨bw, 0, none⟩)) (by kernel_rfl) (by kernel_rfl) (hv.vars.keep (List.sublist_append_left [(b8, #[.int .u64 (p : Nat), .int .u32 (ln : Nat), .int .u16 1, .int .u16 (nx : Nat)]), (b7, #[.int .i64 (p : Nat), .int .i64 (ln : Nat), .bool false]), (bw, #[.int .i64 (base : Nat), .int .i64 (n : Nat), fv, .int .u16 (av : Nat), .int .u16 (la : Nat), cv, (.slice (some ⟨mb, mo, none⟩) mn mc)]), (bc, #[.int .i64 (hd : Nat), .slice (some ⟨db, d0, none⟩) dn dc, .int .i64 (rm : Nat)])] L)) (fun _ _ _ h => h) (.inl ⟨rfl, fun _ => by rfl⟩) ?_
  simp only [Any.someVals, List.take_succ_cons, List.take_zero, List.drop_succ_cons, List.drop_zero, Nat.reduceSub]
  simp only [Act.put, List.setIfInBounds_toArray, List.set_cons_succ, List.set_cons_zero]
  iterate 23 apply Exists.intro
  repeat (first
    | (refine Any.E_off rfl ?_; simp only [Act.put, List.setIfInBounds_toArray, List.set_cons_succ, List.set_cons_zero])
    | (apply Any.E_pureq rfl rfl rfl
       case h => intro K hK; go_big_quiet_op; (refine hK _ ?_; rfl)
       case hr => exact fun _ => rfl
       simp only [Act.put, List.setIfInBounds_toArray, List.set_cons_succ, List.set_cons_zero])
    | (apply Any.E_val rfl rfl rfl rfl
       case h =>
         intro E' hA K hK
         first
           | ((with_reducible refine Any.at_qload (T := 28) ?_); refine Any.q_ldp 1002 hA (by decide) rfl rfl 1 _ Tryz.underlying28 rfl infoM (by decide) (show 6 + 1 ≤ 7 from by decide) #[(.slice (some ⟨mb, mo, none⟩) mn mc)] rfl ?_; refine hK _ ?_; rfl)
           | ((with_reducible refine Any.at_qload (T := 3) ?_); refine Any.q_ldc 1002 hA (by decide) rfl rfl _ Tryz.underlying3 rfl (.int .i64 (base : Nat)) rfl ?_; refine hK _ ?_; rfl)
           | ((with_reducible refine Any.at_qload (T := 3) ?_); refine Any.q_ldc 1002 hA (by decide) rfl rfl _ Tryz.underlying3 rfl (.int .i64 (n : Nat)) rfl ?_; refine hK _ ?_; rfl)
           | ((with_reducible refine Any.at_qload (T := 22) ?_); refine Any.q_ldc 1003 hA (by decide) rfl rfl _ Tryz.underlying22 rfl (.slice (some ⟨db, d0, none⟩) dn dc) rfl ?_; refine hK _ ?_; rfl)
           | ((with_reducible refine Any.at_qload (T := 3) ?_); refine Any.q_rd HPD.out (i) rfl _ Tryz.underlying3 rfl (.int .i64 (di : Nat)) HXI.out ?_; refine hK _ ?_; rfl)
           | ((with_reducible refine Any.at_qload (T := 164) ?_); refine Any.q_ldv 1000 hA (by decide) rfl rfl 4 _ Tryz.underlying164 rfl infoD (by decide) rfl ?_; refine hK _ ?_; rfl)
           | (go_big_quiet_op; first
             | (refine hK _ ?_; rfl)
             | (refine ⟨_, fun _ _ => rfl, ?_⟩; refine hK _ ?_; rfl)
             | (apply Exists.intro; refine ⟨fun w1 hw1 => ?_, ?_⟩; · (first
                 | fail)
                refine hK _ ?_; rfl))
       case hD => rfl
       simp only [Act.put, List.setIfInBounds_toArray, List.set_cons_succ, List.set_cons_zero])
    | ((with_reducible refine Any.at_ealloc ?_); refine Any.E_lay rfl rfl rfl (fun _ => rfl) ?_; intro B; simp only [Act.put, List.setIfInBounds_toArray, List.set_cons_succ, List.set_cons_zero])
    | ((with_reducible refine Any.at_estore (T := 28) ?_); refine Any.E_putp rfl rfl rfl rfl rfl rfl 1 infoM rfl (by show 6 + 1 ≤ 7; decide) (by simp [Value.oneCell']) (c' := #[.int .i64 (base : Nat), .int .i64 (n : Nat), fv, .int .u16 (av : Nat), .int .u16 (la : Nat), cv, (.slice (some ⟨vb, vo, none⟩) mn vc)]) (splice_w _ _ _ _ _ _ _ _) ?_; simp only [Act.put, List.setIfInBounds_toArray, List.set_cons_succ, List.set_cons_zero]))
  try any_goals exact undef
  refine Any.E_nil ?_
  intro w9 hE9
  replace hv : Mem w0 w9 ([(b8, #[.int .u64 (p : Nat), .int .u32 (ln : Nat), .int .u16 1, .int .u16 (nx : Nat)]), (b7, #[.int .i64 (p : Nat), .int .i64 (ln : Nat), .bool false]), (bw, #[.int .i64 (base : Nat), .int .i64 (n : Nat), fv, .int .u16 (av : Nat), .int .u16 (la : Nat), cv, (.slice (some ⟨mb, mo, none⟩) mn mc)]), (bc, #[.int .i64 (hd : Nat), .slice (some ⟨db, d0, none⟩) dn dc, .int .i64 (rm : Nat)])] ++ L) _ := hE9.memr (L1 := [(b8, #[.int .u64 (p : Nat), .int .u32 (ln : Nat), .int .u16 1, .int .u16 (nx : Nat)]), (b7, #[.int .i64 (p : Nat), .int .i64 (ln : Nat), .bool false]), (bw, #[.int .i64 (base : Nat), .int .i64 (n : Nat), fv, .int .u16 (av : Nat), .int .u16 (la : Nat), cv, (.slice (some ⟨mb, mo, none⟩) mn mc)]), (bc, #[.int .i64 (hd : Nat), .slice (some ⟨db, d0, none⟩) dn dc, .int .i64 (rm : Nat)])]) hv [1000, 1001, 1002, 1003] (by decide)
  clear hE9
  refine Any.wpOp_callv rfl rfl (Go.Proofs.enters_of Tryz.func91 (by kernel_rfl) rfl) rfl [(.agg #[(.slice (some ⟨mb, mo, none⟩) mn mc)]), .int .i64 (base : Nat), .int .i64 (n : Nat), .int .i64 (di : Nat), .agg #[.int .u64 (p : Nat), .int .u32 (ln : Nat), .int .u16 1, .int .u16 (nx : Nat)]] rfl ?_
  refine (SetDesc_M (a := p) (l := ln) (f := 1) (x := nx) hv HM.out base n di HN.out HB.out HDN.out HA.out HL4.out HF.out HX.out).mono ?_
  rintro e w1 ⟨vb, vo, vc, R1, rfl, hv1, hi1, hs1⟩
  replace hv := hv1
  have HI1 := Lib.hid hi1
  have HS1 := Lib.hid hs1
  clear hv1 hi1 hs1
  refine ⟨_, rfl, ?_⟩
  have hv0 := hv
  clear hv
  have hv : Mem w0 _ ([(b8, #[.int .u64 (p : Nat), .int .u32 (ln : Nat), .int .u16 1, .int .u16 (nx : Nat)]), (b7, #[.int .i64 (p : Nat), .int .i64 (ln : Nat), .bool false]), (bw, #[.int .i64 (base : Nat), .int .i64 (n : Nat), fv, .int .u16 (av : Nat), .int .u16 (la : Nat), cv, (.slice (some ⟨mb, mo, none⟩) mn mc)]), (bc, #[.int .i64 (hd : Nat), .slice (some ⟨db, d0, none⟩) dn dc, .int .i64 (rm : Nat)])] ++ L) _ := hv0
  clear hv0
  refine Any.wpAny_rest 24 [⟨[], none⟩, ⟨[], none⟩, ⟨[], none⟩, ⟨[], none⟩, ⟨[], none⟩, ⟨[1002], some 1002⟩] [.val, .val, .val, .val, .val, .put] (by kernel_rfl) (hv.vars.keep (List.sublist_append_left [(b8, #[.int .u64 (p : Nat), .int .u32 (ln : Nat), .int .u16 1, .int .u16 (nx : Nat)]), (b7, #[.int .i64 (p : Nat), .int .i64 (ln : Nat), .bool false]), (bw, #[.int .i64 (base : Nat), .int .i64 (n : Nat), fv, .int .u16 (av : Nat), .int .u16 (la : Nat), cv, (.slice (some ⟨mb, mo, none⟩) mn mc)]), (bc, #[.int .i64 (hd : Nat), .slice (some ⟨db, d0, none⟩) dn dc, .int .i64 (rm : Nat)])] L)) ?_
  simp only [List.length_cons, List.length_nil, Nat.zero_add, Nat.reduceAdd, Nat.reduceSub, Any.someVals, List.drop_succ_cons, List.drop_zero]
  simp only [Act.put, List.setIfInBounds_toArray, List.set_cons_succ, List.set_cons_zero]
  iterate 6 apply Exists.intro
  repeat (first
    | (refine Any.E_off rfl ?_; simp only [Act.put, List.setIfInBounds_toArray, List.set_cons_succ, List.set_cons_zero])
    | (apply Any.E_pureq rfl rfl rfl
       case h => intro K hK; go_big_quiet_op; (refine hK _ ?_; rfl)
       case hr => exact fun _ => rfl
       simp only [Act.put, List.setIfInBounds_toArray, List.set_cons_succ, List.set_cons_zero])
    | (apply Any.E_val rfl rfl rfl rfl
       case h =>
         intro E' hA K hK
         first
           | ((with_reducible refine Any.at_qload (T := 28) ?_); refine Any.q_ldp 1002 hA (by decide) rfl rfl 1 _ Tryz.underlying28 rfl infoM (by decide) (show 6 + 1 ≤ 7 from by decide) #[(.slice (some ⟨mb, mo, none⟩) mn mc)] rfl ?_; refine hK _ ?_; rfl)
           | ((with_reducible refine Any.at_qload (T := 3) ?_); refine Any.q_ldc 1002 hA (by decide) rfl rfl _ Tryz.underlying3 rfl (.int .i64 (base : Nat)) rfl ?_; refine hK _ ?_; rfl)
           | ((with_reducible refine Any.at_qload (T := 3) ?_); refine Any.q_ldc 1002 hA (by decide) rfl rfl _ Tryz.underlying3 rfl (.int .i64 (n : Nat)) rfl ?_; refine hK _ ?_; rfl)
           | ((with_reducible refine Any.at_qload (T := 22) ?_); refine Any.q_ldc 1003 hA (by decide) rfl rfl _ Tryz.underlying22 rfl (.slice (some ⟨db, d0, none⟩) dn dc) rfl ?_; refine hK _ ?_; rfl)
           | ((with_reducible refine Any.at_qload (T := 3) ?_); refine Any.q_rd HPD.out (i) rfl _ Tryz.underlying3 rfl (.int .i64 (di : Nat)) HXI.out ?_; refine hK _ ?_; rfl)
           | ((with_reducible refine Any.at_qload (T := 164) ?_); refine Any.q_ldv 1000 hA (by decide) rfl rfl 4 _ Tryz.underlying164 rfl infoD (by decide) rfl ?_; refine hK _ ?_; rfl)
           | (go_big_quiet_op; first
             | (refine hK _ ?_; rfl)
             | (refine ⟨_, fun _ _ => rfl, ?_⟩; refine hK _ ?_; rfl)
             | (apply Exists.intro; refine ⟨fun w1 hw1 => ?_, ?_⟩; · (first
                 | fail)
                refine hK _ ?_; rfl))
       case hD => rfl
       simp only [Act.put, List.setIfInBounds_toArray, List.set_cons_succ, List.set_cons_zero])
    | ((with_reducible refine Any.at_ealloc ?_); refine Any.E_lay rfl rfl rfl (fun _ => rfl) ?_; intro B; simp only [Act.put, List.setIfInBounds_toArray, List.set_cons_succ, List.set_cons_zero])
    | ((with_reducible refine Any.at_estore (T := 28) ?_); refine Any.E_putp rfl rfl rfl rfl rfl rfl 1 infoM rfl (by show 6 + 1 ≤ 7; decide) (by simp [Value.oneCell']) (c' := #[.int .i64 (base : Nat), .int .i64 (n : Nat), fv, .int .u16 (av : Nat), .int .u16 (la : Nat), cv, (.slice (some ⟨vb, vo, none⟩) mn vc)]) (splice_w _ _ _ _ _ _ _ _) ?_; simp only [Act.put, List.setIfInBounds_toArray, List.set_cons_succ, List.set_cons_zero]))
  try any_goals exact undef
  refine Any.E_nil ?_
  intro w9 hE9
  replace hv : Mem w0 w9 ([(b8, #[.int .u64 (p : Nat), .int .u32 (ln : Nat), .int .u16 1, .int .u16 (nx : Nat)]), (b7, #[.int .i64 (p : Nat), .int .i64 (ln : Nat), .bool false]), (bw, #[.int .i64 (base : Nat), .int .i64 (n : Nat), fv, .int .u16 (av : Nat), .int .u16 (la : Nat), cv, (.slice (some ⟨vb, vo, none⟩) mn vc)]), (bc, #[.int .i64 (hd : Nat), .slice (some ⟨db, d0, none⟩) dn dc, .int .i64 (rm : Nat)])] ++ L) _ := hE9.memr0 (L1 := [(b8, #[.int .u64 (p : Nat), .int .u32 (ln : Nat), .int .u16 1, .int .u16 (nx : Nat)]), (b7, #[.int .i64 (p : Nat), .int .i64 (ln : Nat), .bool false]), (bw, #[.int .i64 (base : Nat), .int .i64 (n : Nat), fv, .int .u16 (av : Nat), .int .u16 (la : Nat), cv, (.slice (some ⟨mb, mo, none⟩) mn mc)]), (bc, #[.int .i64 (hd : Nat), .slice (some ⟨db, d0, none⟩) dn dc, .int .i64 (rm : Nat)])]) hv [1000, 1001, 1002, 1003] (by decide)
  clear hE9
  simp only [List.cons_append, List.nil_append] at hv
  go_end0
  exact ⟨rfl, vb, vo, vc, R1, hv.drop.drop, HI1.out, HS1.out⟩
set_option maxRecDepth 100000 in
set_option maxHeartbeats 16000000 in
theorem lay_01 {w0 w : World} {L : List (Nat × Array Value)} {R : List (Nat × Value × List Value)} {mb mo mn mc : Nat} {M : List Nat} {bw bc base n av la hd db d0 dn dc rm : Nat} {fv cv : Value} {ds : List Nat} (hv : Mem w0 w ((bw, #[.int .i64 (base : Nat), .int .i64 (n : Nat), fv, .int .u16 (av : Nat), .int .u16 (la : Nat), cv, (.slice (some ⟨mb, mo, none⟩) mn mc)]) :: (bc, #[.int .i64 (hd : Nat), .slice (some ⟨db, d0, none⟩) dn dc, .int .i64 (rm : Nat)]) :: L) R) (hm : InM R mb mo mn mc M) (hn : okN n) (hb : base + sizeN n ≤ mn) (hds : (1, .slice (some ⟨db, d0, none⟩) dn dc, intsI ds) ∈ R) (i p ln : Nat) (hln : ln < 1000000) (hp : p < 1000000) {di : Nat} (hdi : ds[i]? = some di) (hdn : di < n) (hdl : ds.length ≤ 16) (hrm : rm ≤ 100000000) {nx : Nat} (hnx : ds[i + 1]? = some nx) (hnxn : nx < n) :
    Calls Tryz.prog 46 #[.pointer (some ⟨bw, 0, none⟩), .pointer (some ⟨bc, 0, none⟩), .int .i64 (i : Nat), .agg #[.int .i64 (p : Nat), .int .i64 (ln : Nat), .bool true]] w fun e w' => e = .returned (.tuple #[]) ∧ ∃ vb vo vc R', Mem w0 w' ((bw, #[.int .i64 (base : Nat), .int .i64 (n : Nat), fv, .int .u16 (av : Nat), .int .u16 (la : Nat), cv, (.slice (some ⟨vb, vo, none⟩) mn vc)]) :: (bc, #[.int .i64 (hd : Nat), .slice (some ⟨db, d0, none⟩) dn dc, .int .i64 ((rm + ln : Nat) : Nat)]) :: L) R' ∧ InM R' vb vo mn vc (setD M (base + 16 * di) p ln 3 nx) ∧ ∀ x ∈ R, x ∈ R' := by
  have HM := Lib.hid hm
  have HN := Lib.hid hn
  have HB := Lib.hid hb
  have HDS := Lib.hid hds
  have hdnn : ds.length = dn := by
    obtain ⟨_, _, _, e, g, _⟩ := hv.rd hds
    cases e
    rw [intsI_len] at g; omega
  have hle := hn.le
  have HDN := Lib.hid hdn
  have hil : i < ds.length := (List.getElem?_eq_some_iff.1 hdi).1
  have HXI : Hid ((intsI ds)[i]? = some (.int .i64 (di : Nat))) := Lib.hid (by unfold intsI; rw [List.getElem?_map, hdi]; rfl)
  have HA : Hid (p < 18446744073709551616) := Lib.hid (by omega)
  have HL4 : Hid (ln < 4294967296) := Lib.hid (by omega)
  have HF : Hid ((3 : Nat) < 65536) := Lib.hid (by decide)
  have q1 : IntKind.u64.wrap (p : Int) = (p : Int) := wrapU64 (by omega)
  have q2 : IntKind.u32.wrap (ln : Int) = (ln : Int) := wrap32 (by omega)
  have q3 : IntKind.i64.wrap ((i : Int) + 1) = (i : Int) + 1 := IntWalk.i64_in _ (by omega)
  have hil1 : i + 1 < ds.length := (List.getElem?_eq_some_iff.1 hnx).1
  have HX : Hid (nx < 65536) := Lib.hid (by omega)
  have HXN : Hid ((intsI ds)[i + 1]? = some (.int .i64 (nx : Nat))) := Lib.hid (by unfold intsI; rw [List.getElem?_map, hnx]; rfl)
  have q4 : IntKind.u16.wrap (nx : Int) = (nx : Int) := wrap16 (by omega)
  have y1 : decide ((i : Int) + 1 < (dn : Int)) = true := decide_eq_true (by omega)
  have y2 : (i : Int) + 1 < (dn : Int) := by omega
  obtain ⟨rm2, hrm2⟩ : ∃ k, rm + ln = k := ⟨_, rfl⟩
  have q5 : IntKind.i64.wrap ((rm : Int) + (ln : Int)) = (rm2 : Int) := by rw [IntWalk.i64_in _ (by omega)]; omega
  have q6 : bits .or .u16 1 2 = 3 := by decide
  have HRW : Hid (rm + ln = rm2) := Lib.hid hrm2
  clear hm hn hb hds hln hp hdi hdn hdl hrm hnx hnxn hil1 hrm2 hdnn hle hil
  go_enter Tryz.func46, Tryz.ntmps46
  go_wp2_with (first
    | ((with_reducible refine at_box (T := 39) (dst := some 7) ?_); refine wl_newb rfl #[.int .i64 (p : Nat), .int .i64 (ln : Nat), .bool true] 39 (fun _ => rfl) ?_; intro b7 w2 hm2; replace hv := hv.madeAt hm2; clear hm2)
    | ((with_reducible refine at_load (T := 3) ?_); refine wl_ldc rfl b7 0 rfl _ (hv.vars.row (by first | exact .head _ | exact .tail _ (.head _) | exact .tail _ (.tail _ (.head _)) | exact .tail _ (.tail _ (.tail _ (.head _))) | exact .tail _ (.tail _ (.tail _ (.tail _ (.head _)))) | exact .tail _ (.tail _ (.tail _ (.tail _ (.tail _ (.head _))))) | exact .tail _ (.tail _ (.tail _ (.tail _ (.tail _ (.tail _ (.head _)))))) | exact .tail _ (.tail _ (.tail _ (.tail _ (.tail _ (.tail _ (.tail _ (.head _))))))))) _ Tryz.underlying3 rfl (.int .i64 (p : Nat)) rfl ?_)
    | ((with_reducible refine at_load (T := 3) ?_); refine wl_ldc rfl b7 1 rfl _ (hv.vars.row (by first | exact .head _ | exact .tail _ (.head _) | exact .tail _ (.tail _ (.head _)) | exact .tail _ (.tail _ (.tail _ (.head _))) | exact .tail _ (.tail _ (.tail _ (.tail _ (.head _)))) | exact .tail _ (.tail _ (.tail _ (.tail _ (.tail _ (.head _))))) | exact .tail _ (.tail _ (.tail _ (.tail _ (.tail _ (.tail _ (.head _)))))) | exact .tail _ (.tail _ (.tail _ (.tail _ (.tail _ (.tail _ (.tail _ (.head _))))))))) _ Tryz.underlying3 rfl (.int .i64 (ln : Nat)) rfl ?_)
    | ((with_reducible refine at_build ?_); refine wl_build rfl [(0, .int .u64 (p : Nat)), (1, .int .u32 (ln : Nat))] rfl (built_d _ _) ?_)
    | ((with_reducible refine at_alloc (T := 164) (dst := some 8) ?_); refine wl_newb rfl #[.int .u64 0, .int .u32 0, .int .u16 0, .int .u16 0] 164 (fun _ => rfl) ?_; intro b8 w2 hm2; replace hv := hv.madeAt hm2; clear hm2)
    | ((with_reducible refine at_store (T := 164) ?_); refine wl_stv rfl b8 rfl _ rfl _ (hv.vars.row (by first | exact .head _ | exact .tail _ (.head _) | exact .tail _ (.tail _ (.head _)) | exact .tail _ (.tail _ (.tail _ (.head _))) | exact .tail _ (.tail _ (.tail _ (.tail _ (.head _)))) | exact .tail _ (.tail _ (.tail _ (.tail _ (.tail _ (.head _))))) | exact .tail _ (.tail _ (.tail _ (.tail _ (.tail _ (.tail _ (.head _)))))) | exact .tail _ (.tail _ (.tail _ (.tail _ (.tail _ (.tail _ (.tail _ (.head _))))))))) (hv.vars.sft (by first | exact .head _ | exact .tail _ (.head _) | exact .tail _ (.tail _ (.head _)) | exact .tail _ (.tail _ (.tail _ (.head _))) | exact .tail _ (.tail _ (.tail _ (.tail _ (.head _)))) | exact .tail _ (.tail _ (.tail _ (.tail _ (.tail _ (.head _))))) | exact .tail _ (.tail _ (.tail _ (.tail _ (.tail _ (.tail _ (.head _)))))) | exact .tail _ (.tail _ (.tail _ (.tail _ (.tail _ (.tail _ (.tail _ (.head _))))))))) 4 infoD rfl rfl (by simp [Value.oneCell']) ?_; intro w2 hw2; (first | (replace hv := hv.set 0 rfl hw2) | (replace hv := hv.set 1 rfl hw2) | (replace hv := hv.set 2 rfl hw2) | (replace hv := hv.set 3 rfl hw2) | (replace hv := hv.set 4 rfl hw2) | (replace hv := hv.set 5 rfl hw2) | (replace hv := hv.set 6 rfl hw2) | (replace hv := hv.set 7 rfl hw2)); clear hw2; simp only [List.set] at hv)
    | ((with_reducible refine at_load (T := 22) ?_); refine wl_ldc rfl bc 1 rfl _ (hv.vars.row (by first | exact .head _ | exact .tail _ (.head _) | exact .tail _ (.tail _ (.head _)) | exact .tail _ (.tail _ (.tail _ (.head _))) | exact .tail _ (.tail _ (.tail _ (.tail _ (.head _)))) | exact .tail _ (.tail _ (.tail _ (.tail _ (.tail _ (.head _))))) | exact .tail _ (.tail _ (.tail _ (.tail _ (.tail _ (.tail _ (.head _)))))) | exact .tail _ (.tail _ (.tail _ (.tail _ (.tail _ (.tail _ (.tail _ (.head _))))))))) _ Tryz.underlying22 rfl (.slice (some ⟨db, d0, none⟩) dn dc) rfl ?_))
  have hv0 := hv
  clear hv
  have hv : Mem w0 _ ([(b8, #[.int .u64 (p : Nat), .int .u32 (ln : Nat), .int .u16 0, .int .u16 0]), (b7, #[.int .i64 (p : Nat), .int .i64 (ln : Nat), .bool true]), (bw, #[.int .i64 (base : Nat), .int .i64 (n : Nat), fv, .int .u16 (av : Nat), .int .u16 (la : Nat), cv, (.slice (some ⟨mb, mo, none⟩) mn mc)]), (bc, #[.int .i64 (hd : Nat), .slice (some ⟨db, d0, none⟩) dn dc, .int .i64 (rm : Nat)])] ++ L) _ := hv0
  clear hv0
  have HPD := Lib.hid (Any.rd_start (hv.keep (List.sublist_append_left [(b8, #[.int .u64 (p : Nat), .int .u32 (ln : Nat), .int .u16 0, .int .u16 0]), (b7, #[.int .i64 (p : Nat), .int .i64 (ln : Nat), .bool true]), (bw, #[.int .i64 (base : Nat), .int .i64 (n : Nat), fv, .int .u16 (av : Nat), .int .u16 (la : Nat), cv, (.slice (some ⟨mb, mo, none⟩) mn mc)]), (bc, #[.int .i64 (hd : Nat), .slice (some ⟨db, d0, none⟩) dn dc, .int .i64 (rm : Nat)])] L)) HDS.out)
  refine Any.wp_region_walk [⟨[], none⟩, ⟨[], none⟩, ⟨[], none⟩, ⟨[1003], none⟩, ⟨[], none⟩, ⟨[], none⟩, ⟨[], none⟩, ⟨[], none⟩, ⟨[], none⟩, ⟨[], none⟩, ⟨[1000], some 1000⟩, ⟨[], none⟩, ⟨[1000], some 1000⟩] [.val, .val, .val, .val, .val, .val, .val, .val, .val, .val, .put, .val, .put] (by kernel_rfl) (by kernel_rfl) (hv.vars.keep (List.sublist_append_left [(b8, #[.int .u64 (p : Nat), .int .u32 (ln : Nat), .int .u16 0, .int .u16 0]), (b7, #[.int .i64 (p : Nat), .int .i64 (ln : Nat), .bool true]), (bw, #[.int .i64 (base : Nat), .int .i64 (n : Nat), fv, .int .u16 (av : Nat), .int .u16 (la : Nat), cv, (.slice (some ⟨mb, mo, none⟩) mn mc)]), (bc, #[.int .i64 (hd : Nat), .slice (some ⟨db, d0, none⟩) dn dc, .int .i64 (rm : Nat)])] L)) ?_
  simp only [List.length_cons, List.length_nil, Nat.zero_add, Any.someVals]
  iterate 13 apply Exists.intro
  repeat (first
    | (refine Any.E_off rfl ?_; simp only [Act.put, List.setIfInBounds_toArray, List.set_cons_succ, List.set_cons_zero])
    | (apply Any.E_pureq rfl rfl rfl
       case h => intro K hK; go_big_quiet_op; (refine hK _ ?_; rfl)
       case hr => exact fun _ => rfl
       simp only [Act.put, List.setIfInBounds_toArray, List.set_cons_succ, List.set_cons_zero])
    | (apply Any.E_val rfl rfl rfl rfl
       case h =>
         intro E' hA K hK
         first
           | ((with_reducible refine Any.at_qload (T := 22) ?_); refine Any.q_ldc 1003 hA (by decide) rfl rfl _ Tryz.underlying22 rfl (.slice (some ⟨db, d0, none⟩) dn dc) rfl ?_; refine hK _ ?_; rfl)
           | ((with_reducible refine Any.at_qload (T := 3) ?_); refine Any.q_rd HPD.out (i + 1) rfl _ Tryz.underlying3 rfl (.int .i64 (nx : Nat)) HXN.out ?_; refine hK _ ?_; rfl)
           | (go_big_quiet_op; first
             | (refine hK _ ?_; rfl)
             | (refine ⟨_, fun _ _ => rfl, ?_⟩; refine hK _ ?_; rfl)
             | (apply Exists.intro; refine ⟨fun w1 hw1 => ?_, ?_⟩; · (first
                 | fail)
                refine hK _ ?_; rfl))
       case hD => rfl
       simp only [Act.put, List.setIfInBounds_toArray, List.set_cons_succ, List.set_cons_zero])
    | ((with_reducible refine Any.at_ealloc ?_); refine Any.E_lay rfl rfl rfl (fun _ => rfl) ?_; intro B; simp only [Act.put, List.setIfInBounds_toArray, List.set_cons_succ, List.set_cons_zero])
    | ((with_reducible refine Any.at_estore (T := 29) ?_); refine Any.E_putc (T := 29) rfl rfl rfl rfl rfl rfl (by kernel_rfl) rfl (by simp) ?_; simp only [Act.put, List.setIfInBounds_toArray, List.set_cons_succ, List.set_cons_zero]))
  try any_goals exact undef
  refine Any.E_nil ?_
  intro w9 hE9
  replace hv : Mem w0 w9 ([(b8, #[.int .u64 (p : Nat), .int .u32 (ln : Nat), .int .u16 1, .int .u16 (nx : Nat)]), (b7, #[.int .i64 (p : Nat), .int .i64 (ln : Nat), .bool true]), (bw, #[.int .i64 (base : Nat), .int .i64 (n : Nat), fv, .int .u16 (av : Nat), .int .u16 (la : Nat), cv, (.slice (some ⟨mb, mo, none⟩) mn mc)]), (bc, #[.int .i64 (hd : Nat), .slice (some ⟨db, d0, none⟩) dn dc, .int .i64 (rm : Nat)])] ++ L) _ := hE9.memr hv [1000, 1001, 1002, 1003] (by decide)
  clear hE9
  simp only [List.cons_append, List.nil_append] at hv
  go_wp2_with (first
    | ((with_reducible refine at_load (T := 4) ?_); refine wl_ldc rfl b7 2 rfl _ (hv.vars.row (by first | exact .head _ | exact .tail _ (.head _) | exact .tail _ (.tail _ (.head _)) | exact .tail _ (.tail _ (.tail _ (.head _))) | exact .tail _ (.tail _ (.tail _ (.tail _ (.head _)))) | exact .tail _ (.tail _ (.tail _ (.tail _ (.tail _ (.head _))))) | exact .tail _ (.tail _ (.tail _ (.tail _ (.tail _ (.tail _ (.head _)))))) | exact .tail _ (.tail _ (.tail _ (.tail _ (.tail _ (.tail _ (.tail _ (.head _))))))))) _ Tryz.underlying4 rfl (.bool true) rfl ?_)
    | ((with_reducible refine at_load (T := 29) ?_); refine wl_ldc rfl b8 2 rfl _ (hv.vars.row (by first | exact .head _ | exact .tail _ (.head _) | exact .tail _ (.tail _ (.head _)) | exact .tail _ (.tail _ (.tail _ (.head _))) | exact .tail _ (.tail _ (.tail _ (.tail _ (.head _)))) | exact .tail _ (.tail _ (.tail _ (.tail _ (.tail _ (.head _))))) | exact .tail _ (.tail _ (.tail _ (.tail _ (.tail _ (.tail _ (.head _)))))) | exact .tail _ (.tail _ (.tail _ (.tail _ (.tail _ (.tail _ (.tail _ (.head _))))))))) _ Tryz.underlying29 rfl (.int .u16 1) rfl ?_)
    | ((with_reducible refine at_store (T := 29) ?_); refine wl_stc rfl b8 2 rfl (.int .u16 3) rfl _ (hv.vars.row (by first | exact .head _ | exact .tail _ (.head _) | exact .tail _ (.tail _ (.head _)) | exact .tail _ (.tail _ (.tail _ (.head _))) | exact .tail _ (.tail _ (.tail _ (.tail _ (.head _)))) | exact .tail _ (.tail _ (.tail _ (.tail _ (.tail _ (.head _))))) | exact .tail _ (.tail _ (.tail _ (.tail _ (.tail _ (.tail _ (.head _)))))) | exact .tail _ (.tail _ (.tail _ (.tail _ (.tail _ (.tail _ (.tail _ (.head _))))))))) (hv.vars.sft (by first | exact .head _ | exact .tail _ (.head _) | exact .tail _ (.tail _ (.head _)) | exact .tail _ (.tail _ (.tail _ (.head _))) | exact .tail _ (.tail _ (.tail _ (.tail _ (.head _)))) | exact .tail _ (.tail _ (.tail _ (.tail _ (.tail _ (.head _))))) | exact .tail _ (.tail _ (.tail _ (.tail _ (.tail _ (.tail _ (.head _)))))) | exact .tail _ (.tail _ (.tail _ (.tail _ (.tail _ (.tail _ (.tail _ (.head _))))))))) (by kernel_rfl) rfl (by show 2 < 4; decide) ?_; intro w2 hw2; (first | (replace hv := hv.set 0 rfl hw2) | (replace hv := hv.set 1 rfl hw2) | (replace hv := hv.set 2 rfl hw2) | (replace hv := hv.set 3 rfl hw2)); clear hw2; simp only [List.set] at hv))
  have hv0 := hv
  clear hv
  have hv : Mem w0 _ ([(b8, #[.int .u64 (p : Nat), .int .u32 (ln : Nat), .int .u16 3, .int .u16 (nx : Nat)]), (b7, #[.int .i64 (p : Nat), .int .i64 (ln : Nat), .bool true]), (bw, #[.int .i64 (base : Nat), .int .i64 (n : Nat), fv, .int .u16 (av : Nat), .int .u16 (la : Nat), cv, (.slice (some ⟨mb, mo, none⟩) mn mc)]), (bc, #[.int .i64 (hd : Nat), .slice (some ⟨db, d0, none⟩) dn dc, .int .i64 (rm : Nat)])] ++ L) _ := hv0
  clear hv0
  have HPD := Lib.hid (Any.rd_start (hv.keep (List.sublist_append_left [(b8, #[.int .u64 (p : Nat), .int .u32 (ln : Nat), .int .u16 3, .int .u16 (nx : Nat)]), (b7, #[.int .i64 (p : Nat), .int .i64 (ln : Nat), .bool true]), (bw, #[.int .i64 (base : Nat), .int .i64 (n : Nat), fv, .int .u16 (av : Nat), .int .u16 (la : Nat), cv, (.slice (some ⟨mb, mo, none⟩) mn mc)]), (bc, #[.int .i64 (hd : Nat), .slice (some ⟨db, d0, none⟩) dn dc, .int .i64 (rm : Nat)])] L)) HDS.out)
  refine Any.wp_region_walk [⟨[], none⟩, ⟨[], none⟩, ⟨[], none⟩, ⟨[1003], none⟩, ⟨[], none⟩, ⟨[1001], none⟩, ⟨[], none⟩, ⟨[], none⟩, ⟨[], none⟩, ⟨[1003], some 1003⟩] [.val, .val, .val, .val, .val, .val, .val, .val, .val, .put] (by kernel_rfl) (by kernel_rfl) (hv.vars.keep (List.sublist_append_left [(b8, #[.int .u64 (p : Nat), .int .u32 (ln : Nat), .int .u16 3, .int .u16 (nx : Nat)]), (b7, #[.int .i64 (p : Nat), .int .i64 (ln : Nat), .bool true]), (bw, #[.int .i64 (base : Nat), .int .i64 (n : Nat), fv, .int .u16 (av : Nat), .int .u16 (la : Nat), cv, (.slice (some ⟨mb, mo, none⟩) mn mc)]), (bc, #[.int .i64 (hd : Nat), .slice (some ⟨db, d0, none⟩) dn dc, .int .i64 (rm : Nat)])] L)) ?_
  simp only [List.length_cons, List.length_nil, Nat.zero_add, Any.someVals]
  iterate 10 apply Exists.intro
  repeat (first
    | (refine Any.E_off rfl ?_; simp only [Act.put, List.setIfInBounds_toArray, List.set_cons_succ, List.set_cons_zero])
    | (apply Any.E_pureq rfl rfl rfl
       case h => intro K hK; go_big_quiet_op; (refine hK _ ?_; rfl)
       case hr => exact fun _ => rfl
       simp only [Act.put, List.setIfInBounds_toArray, List.set_cons_succ, List.set_cons_zero])
    | (apply Any.E_val rfl rfl rfl rfl
       case h =>
         intro E' hA K hK
         first
           | ((with_reducible refine Any.at_qload (T := 3) ?_); refine Any.q_ldc 1003 hA (by decide) rfl rfl _ Tryz.underlying3 rfl (.int .i64 (rm : Nat)) rfl ?_; refine hK _ ?_; rfl)
           | ((with_reducible refine Any.at_qload (T := 3) ?_); refine Any.q_ldc 1001 hA (by decide) rfl rfl _ Tryz.underlying3 rfl (.int .i64 (ln : Nat)) rfl ?_; refine hK _ ?_; rfl)
           | (go_big_quiet_op; first
             | (refine hK _ ?_; rfl)
             | (refine ⟨_, fun _ _ => rfl, ?_⟩; refine hK _ ?_; rfl)
             | (apply Exists.intro; refine ⟨fun w1 hw1 => ?_, ?_⟩; · (first
                 | fail)
                refine hK _ ?_; rfl))
       case hD => rfl
       simp only [Act.put, List.setIfInBounds_toArray, List.set_cons_succ, List.set_cons_zero])
    | ((with_reducible refine Any.at_ealloc ?_); refine Any.E_lay rfl rfl rfl (fun _ => rfl) ?_; intro B; simp only [Act.put, List.setIfInBounds_toArray, List.set_cons_succ, List.set_cons_zero])
    | ((with_reducible refine Any.at_estore (T := 3) ?_); refine Any.E_putc (T := 3) rfl rfl rfl rfl rfl rfl (by kernel_rfl) rfl (by simp) ?_; simp only [Act.put, List.setIfInBounds_toArray, List.set_cons_succ, List.set_cons_zero]))
  try any_goals exact undef
  refine Any.E_nil ?_
  intro w9 hE9
  replace hv : Mem w0 w9 ([(b8, #[.int .u64 (p : Nat), .int .u32 (ln : Nat), .int .u16 3, .int .u16 (nx : Nat)]), (b7, #[.int .i64 (p : Nat), .int .i64 (ln : Nat), .bool true]), (bw, #[.int .i64 (base : Nat), .int .i64 (n : Nat), fv, .int .u16 (av : Nat), .int .u16 (la : Nat), cv, (.slice (some ⟨mb, mo, none⟩) mn mc)]), (bc, #[.int .i64 (hd : Nat), .slice (some ⟨db, d0, none⟩) dn dc, .int .i64 (rm2 : Nat)])] ++ L) _ := hE9.memr hv [1000, 1001, 1002, 1003] (by decide)
  clear hE9
  simp only [List.cons_append, List.nil_append] at hv
  go_wp2
  try clear HPD
  have hv0 := hv
  clear hv
  have hv : Mem w0 _ ([(b8, #[.int .u64 (p : Nat), .int .u32 (ln : Nat), .int .u16 3, .int .u16 (nx : Nat)]), (b7, #[.int .i64 (p : Nat), .int .i64 (ln : Nat), .bool true]), (bw, #[.int .i64 (base : Nat), .int .i64 (n : Nat), fv, .int .u16 (av : Nat), .int .u16 (la : Nat), cv, (.slice (some ⟨mb, mo, none⟩) mn mc)]), (bc, #[.int .i64 (hd : Nat), .slice (some ⟨db, d0, none⟩) dn dc, .int .i64 (rm2 : Nat)])] ++ L) _ := hv0
  clear hv0
  have HPD := Lib.hid (Any.rd_start (hv.keep (List.sublist_append_left [(b8, #[.int .u64 (p : Nat), .int .u32 (ln : Nat), .int .u16 3, .int .u16 (nx : Nat)]), (b7, #[.int .i64 (p : Nat), .int .i64 (ln : Nat), .bool true]), (bw, #[.int .i64 (base : Nat), .int .i64 (n : Nat), fv, .int .u16 (av : Nat), .int .u16 (la : Nat), cv, (.slice (some ⟨mb, mo, none⟩) mn mc)]), (bc, #[.int .i64 (hd : Nat), .slice (some ⟨db, d0, none⟩) dn dc, .int .i64 (rm2 : Nat)])] L)) HDS.out)
  have hv0 := hv
  clear hv
  have hv : Mem w0 _ ([(b8, #[.int .u64 (p : Nat), .int .u32 (ln : Nat), .int .u16 3, .int .u16 (nx : Nat)]), (b7, #[.int .i64 (p : Nat), .int .i64 (ln : Nat), .bool true]), (bw, #[.int .i64 (base : Nat), .int .i64 (n : Nat), fv, .int .u16 (av : Nat), .int .u16 (la : Nat), cv, (.slice (some ⟨mb, mo, none⟩) mn mc)]), (bc, #[.int .i64 (hd : Nat), .slice (some ⟨db, d0, none⟩) dn dc, .int .i64 (rm2 : Nat)])] ++ L) _ := hv0
  clear hv0
  refine Any.wp_region_cut1 23 [⟨[], none⟩, ⟨[], none⟩, ⟨[], none⟩, ⟨[], none⟩, ⟨[1002], none⟩, ⟨[], none⟩, ⟨[], none⟩, ⟨[], none⟩, ⟨[], none⟩, ⟨[1002], none⟩, ⟨[], none⟩, ⟨[], none⟩, ⟨[], none⟩, ⟨[], none⟩, ⟨[1002], none⟩, ⟨[], none⟩, ⟨[], none⟩, ⟨[], none⟩, ⟨[1003], none⟩, ⟨[], none⟩, ⟨[], none⟩, ⟨[], none⟩, ⟨[1000], none⟩, ⟨[], none⟩, ⟨[], none⟩, ⟨[], none⟩, ⟨[], none⟩, ⟨[], none⟩, ⟨[], none⟩, ⟨[], none⟩] [.val, .val, .val, .val, .val, .val, .val, .val, .val, .val, .val, .val, .val, .val, .val, .val, .val, .val, .val, .val, .val, .val, .val] (.pointer (some ⟨bw, 0, none⟩)) (by kernel_rfl) (by kernel_rfl) (hv.vars.keep (List.sublist_append_left [(b8, #[.int .u64 (p : Nat), .int .u32 (ln : Nat), .int .u16 3, .int .u16 (nx : Nat)]), (b7, #[.int .i64 (p : Nat), .int .i64 (ln : Nat), .bool true]), (bw, #[.int .i64 (base : Nat), .int .i64 (n : Nat), fv, .int .u16 (av : Nat), .int .u16 (la : Nat), cv, (.slice (some ⟨mb, mo, none⟩) mn mc)]), (bc, #[.int .i64 (hd : Nat), .slice (some ⟨db, d0, none⟩) dn dc, .int .i64 (rm2 : Nat)])] L)) (fun _ _ _ h => h) (.inl ⟨rfl, fun _ => by rfl⟩) ?_
  simp only [Any.someVals, List.take_succ_cons, List.take_zero, List.drop_succ_cons, List.drop_zero, Nat.reduceSub]
  simp only [Act.put, List.setIfInBounds_toArray, List.set_cons_succ, List.set_cons_zero]
  iterate 23 apply Exists.intro
  repeat (first
    | (refine Any.E_off rfl ?_; simp only [Act.put, List.setIfInBounds_toArray, List.set_cons_succ, List.set_cons_zero])
    | (apply Any.E_pureq rfl rfl rfl
       case h => intro K hK; go_big_quiet_op; (refine hK _ ?_; rfl)
       case hr => exact fun _ => rfl
       simp only [Act.put, List.setIfInBounds_toArray, List.set_cons_succ, List.set_cons_zero])
    | (apply Any.E_val rfl rfl rfl rfl
       case h =>
         intro E' hA K hK
         first
           | ((with_reducible refine Any.at_qload (T := 28) ?_); refine Any.q_ldp 1002 hA (by decide) rfl rfl 1 _ Tryz.underlying28 rfl infoM (by decide) (show 6 + 1 ≤ 7 from by decide) #[(.slice (some ⟨mb, mo, none⟩) mn mc)] rfl ?_; refine hK _ ?_; rfl)
           | ((with_reducible refine Any.at_qload (T := 3) ?_); refine Any.q_ldc 1002 hA (by decide) rfl rfl _ Tryz.underlying3 rfl (.int .i64 (base : Nat)) rfl ?_; refine hK _ ?_; rfl)
           | ((with_reducible refine Any.at_qload (T := 3) ?_); refine Any.q_ldc 1002 hA (by decide) rfl rfl _ Tryz.underlying3 rfl (.int .i64 (n : Nat)) rfl ?_; refine hK _ ?_; rfl)
           | ((with_reducible refine Any.at_qload (T := 22) ?_); refine Any.q_ldc 1003 hA (by decide) rfl rfl _ Tryz.underlying22 rfl (.slice (some ⟨db, d0, none⟩) dn dc) rfl ?_; refine hK _ ?_; rfl)
           | ((with_reducible refine Any.at_qload (T := 3) ?_); refine Any.q_rd HPD.out (i) rfl _ Tryz.underlying3 rfl (.int .i64 (di : Nat)) HXI.out ?_; refine hK _ ?_; rfl)
           | ((with_reducible refine Any.at_qload (T := 164) ?_); refine Any.q_ldv 1000 hA (by decide) rfl rfl 4 _ Tryz.underlying164 rfl infoD (by decide) rfl ?_; refine hK _ ?_; rfl)
           | (go_big_quiet_op; first
             | (refine hK _ ?_; rfl)
             | (refine ⟨_, fun _ _ => rfl, ?_⟩; refine hK _ ?_; rfl)
             | (apply Exists.intro; refine ⟨fun w1 hw1 => ?_, ?_⟩; · (first
                 | fail)
                refine hK _ ?_; rfl))
       case hD => rfl
       simp only [Act.put, List.setIfInBounds_toArray, List.set_cons_succ, List.set_cons_zero])
    | ((with_reducible refine Any.at_ealloc ?_); refine Any.E_lay rfl rfl rfl (fun _ => rfl) ?_; intro B; simp only [Act.put, List.setIfInBounds_toArray, List.set_cons_succ, List.set_cons_zero])
    | ((with_reducible refine Any.at_estore (T := 28) ?_); refine Any.E_putp rfl rfl rfl rfl rfl rfl 1 infoM rfl (by show 6 + 1 ≤ 7; decide) (by simp [Value.oneCell']) (c' := #[.int .i64 (base : Nat), .int .i64 (n : Nat), fv, .int .u16 (av : Nat), .int .u16 (la : Nat), cv, (.slice (some ⟨vb, vo, none⟩) mn vc)]) (splice_w _ _ _ _ _ _ _ _) ?_; simp only [Act.put, List.setIfInBounds_toArray, List.set_cons_succ, List.set_cons_zero]))
  try any_goals exact undef
  refine Any.E_nil ?_
  intro w9 hE9
  replace hv : Mem w0 w9 ([(b8, #[.int .u64 (p : Nat), .int .u32 (ln : Nat), .int .u16 3, .int .u16 (nx : Nat)]), (b7, #[.int .i64 (p : Nat), .int .i64 (ln : Nat), .bool true]), (bw, #[.int .i64 (base : Nat), .int .i64 (n : Nat), fv, .int .u16 (av : Nat), .int .u16 (la : Nat), cv, (.slice (some ⟨mb, mo, none⟩) mn mc)]), (bc, #[.int .i64 (hd : Nat), .slice (some ⟨db, d0, none⟩) dn dc, .int .i64 (rm2 : Nat)])] ++ L) _ := hE9.memr (L1 := [(b8, #[.int .u64 (p : Nat), .int .u32 (ln : Nat), .int .u16 3, .int .u16 (nx : Nat)]), (b7, #[.int .i64 (p : Nat), .int .i64 (ln : Nat), .bool true]), (bw, #[.int .i64 (base : Nat), .int .i64 (n : Nat), fv, .int .u16 (av : Nat), .int .u16 (la : Nat), cv, (.slice (some ⟨mb, mo, none⟩) mn mc)]), (bc, #[.int .i64 (hd : Nat), .slice (some ⟨db, d0, none⟩) dn dc, .int .i64 (rm2 : Nat)])]) hv [1000, 1001, 1002, 1003] (by decide)
  clear hE9
  refine Any.wpOp_callv rfl rfl (Go.Proofs.enters_of Tryz.func91 (by kernel_rfl) rfl) rfl [(.agg #[(.slice (some ⟨mb, mo, none⟩) mn mc)]), .int .i64 (base : Nat), .int .i64 (n : Nat), .int .i64 (di : Nat), .agg #[.int .u64 (p : Nat), .int .u32 (ln : Nat), .int .u16 3, .int .u16 (nx : Nat)]] rfl ?_
  refine (SetDesc_M (a := p) (l := ln) (f := 3) (x := nx) hv HM.out base n di HN.out HB.out HDN.out HA.out HL4.out HF.out HX.out).mono ?_
  rintro e w1 ⟨vb, vo, vc, R1, rfl, hv1, hi1, hs1⟩
  replace hv := hv1
  have HI1 := Lib.hid hi1
  have HS1 := Lib.hid hs1
  clear hv1 hi1 hs1
  refine ⟨_, rfl, ?_⟩
  have hv0 := hv
  clear hv
  have hv : Mem w0 _ ([(b8, #[.int .u64 (p : Nat), .int .u32 (ln : Nat), .int .u16 3, .int .u16 (nx : Nat)]), (b7, #[.int .i64 (p : Nat), .int .i64 (ln : Nat), .bool true]), (bw, #[.int .i64 (base : Nat), .int .i64 (n : Nat), fv, .int .u16 (av : Nat), .int .u16 (la : Nat), cv, (.slice (some ⟨mb, mo, none⟩) mn mc)]), (bc, #[.int .i64 (hd : Nat), .slice (some ⟨db, d0, none⟩) dn dc, .int .i64 (rm2 : Nat)])] ++ L) _ := hv0
  clear hv0
  refine Any.wpAny_rest 24 [⟨[], none⟩, ⟨[], none⟩, ⟨[], none⟩, ⟨[], none⟩, ⟨[], none⟩, ⟨[1002], some 1002⟩] [.val, .val, .val, .val, .val, .put] (by kernel_rfl) (hv.vars.keep (List.sublist_append_left [(b8, #[.int .u64 (p : Nat), .int .u32 (ln : Nat), .int .u16 3, .int .u16 (nx : Nat)]), (b7, #[.int .i64 (p : Nat), .int .i64 (ln : Nat), .bool true]), (bw, #[.int .i64 (base : Nat), .int .i64 (n : Nat), fv, .int .u16 (av : Nat), .int .u16 (la : Nat), cv, (.slice (some ⟨mb, mo, none⟩) mn mc)]), (bc, #[.int .i64 (hd : Nat), .slice (some ⟨db, d0, none⟩) dn dc, .int .i64 (rm2 : Nat)])] L)) ?_
  simp only [List.length_cons, List.length_nil, Nat.zero_add, Nat.reduceAdd, Nat.reduceSub, Any.someVals, List.drop_succ_cons, List.drop_zero]
  simp only [Act.put, List.setIfInBounds_toArray, List.set_cons_succ, List.set_cons_zero]
  iterate 6 apply Exists.intro
  repeat (first
    | (refine Any.E_off rfl ?_; simp only [Act.put, List.setIfInBounds_toArray, List.set_cons_succ, List.set_cons_zero])
    | (apply Any.E_pureq rfl rfl rfl
       case h => intro K hK; go_big_quiet_op; (refine hK _ ?_; rfl)
       case hr => exact fun _ => rfl
       simp only [Act.put, List.setIfInBounds_toArray, List.set_cons_succ, List.set_cons_zero])
    | (apply Any.E_val rfl rfl rfl rfl
       case h =>
         intro E' hA K hK
         first
           | ((with_reducible refine Any.at_qload (T := 28) ?_); refine Any.q_ldp 1002 hA (by decide) rfl rfl 1 _ Tryz.underlying28 rfl infoM (by decide) (show 6 + 1 ≤ 7 from by decide) #[(.slice (some ⟨mb, mo, none⟩) mn mc)] rfl ?_; refine hK _ ?_; rfl)
           | ((with_reducible refine Any.at_qload (T := 3) ?_); refine Any.q_ldc 1002 hA (by decide) rfl rfl _ Tryz.underlying3 rfl (.int .i64 (base : Nat)) rfl ?_; refine hK _ ?_; rfl)
           | ((with_reducible refine Any.at_qload (T := 3) ?_); refine Any.q_ldc 1002 hA (by decide) rfl rfl _ Tryz.underlying3 rfl (.int .i64 (n : Nat)) rfl ?_; refine hK _ ?_; rfl)
           | ((with_reducible refine Any.at_qload (T := 22) ?_); refine Any.q_ldc 1003 hA (by decide) rfl rfl _ Tryz.underlying22 rfl (.slice (some ⟨db, d0, none⟩) dn dc) rfl ?_; refine hK _ ?_; rfl)
           | ((with_reducible refine Any.at_qload (T := 3) ?_); refine Any.q_rd HPD.out (i) rfl _ Tryz.underlying3 rfl (.int .i64 (di : Nat)) HXI.out ?_; refine hK _ ?_; rfl)
           | ((with_reducible refine Any.at_qload (T := 164) ?_); refine Any.q_ldv 1000 hA (by decide) rfl rfl 4 _ Tryz.underlying164 rfl infoD (by decide) rfl ?_; refine hK _ ?_; rfl)
           | (go_big_quiet_op; first
             | (refine hK _ ?_; rfl)
             | (refine ⟨_, fun _ _ => rfl, ?_⟩; refine hK _ ?_; rfl)
             | (apply Exists.intro; refine ⟨fun w1 hw1 => ?_, ?_⟩; · (first
                 | fail)
                refine hK _ ?_; rfl))
       case hD => rfl
       simp only [Act.put, List.setIfInBounds_toArray, List.set_cons_succ, List.set_cons_zero])
    | ((with_reducible refine Any.at_ealloc ?_); refine Any.E_lay rfl rfl rfl (fun _ => rfl) ?_; intro B; simp only [Act.put, List.setIfInBounds_toArray, List.set_cons_succ, List.set_cons_zero])
    | ((with_reducible refine Any.at_estore (T := 28) ?_); refine Any.E_putp rfl rfl rfl rfl rfl rfl 1 infoM rfl (by show 6 + 1 ≤ 7; decide) (by simp [Value.oneCell']) (c' := #[.int .i64 (base : Nat), .int .i64 (n : Nat), fv, .int .u16 (av : Nat), .int .u16 (la : Nat), cv, (.slice (some ⟨vb, vo, none⟩) mn vc)]) (splice_w _ _ _ _ _ _ _ _) ?_; simp only [Act.put, List.setIfInBounds_toArray, List.set_cons_succ, List.set_cons_zero]))
  try any_goals exact undef
  refine Any.E_nil ?_
  intro w9 hE9
  replace hv : Mem w0 w9 ([(b8, #[.int .u64 (p : Nat), .int .u32 (ln : Nat), .int .u16 3, .int .u16 (nx : Nat)]), (b7, #[.int .i64 (p : Nat), .int .i64 (ln : Nat), .bool true]), (bw, #[.int .i64 (base : Nat), .int .i64 (n : Nat), fv, .int .u16 (av : Nat), .int .u16 (la : Nat), cv, (.slice (some ⟨vb, vo, none⟩) mn vc)]), (bc, #[.int .i64 (hd : Nat), .slice (some ⟨db, d0, none⟩) dn dc, .int .i64 (rm2 : Nat)])] ++ L) _ := hE9.memr0 (L1 := [(b8, #[.int .u64 (p : Nat), .int .u32 (ln : Nat), .int .u16 3, .int .u16 (nx : Nat)]), (b7, #[.int .i64 (p : Nat), .int .i64 (ln : Nat), .bool true]), (bw, #[.int .i64 (base : Nat), .int .i64 (n : Nat), fv, .int .u16 (av : Nat), .int .u16 (la : Nat), cv, (.slice (some ⟨mb, mo, none⟩) mn mc)]), (bc, #[.int .i64 (hd : Nat), .slice (some ⟨db, d0, none⟩) dn dc, .int .i64 (rm2 : Nat)])]) hv [1000, 1001, 1002, 1003] (by decide)
  clear hE9
  simp only [List.cons_append, List.nil_append] at hv
  go_end0
  exact ⟨rfl, vb, vo, vc, R1, by rw [HRW.out]; exact hv.drop.drop, HI1.out, HS1.out⟩
set_option maxRecDepth 100000 in
set_option maxHeartbeats 16000000 in
theorem lay_10 {w0 w : World} {L : List (Nat × Array Value)} {R : List (Nat × Value × List Value)} {mb mo mn mc : Nat} {M : List Nat} {bw bc base n av la hd db d0 dn dc rm : Nat} {fv cv : Value} {ds : List Nat} (hv : Mem w0 w ((bw, #[.int .i64 (base : Nat), .int .i64 (n : Nat), fv, .int .u16 (av : Nat), .int .u16 (la : Nat), cv, (.slice (some ⟨mb, mo, none⟩) mn mc)]) :: (bc, #[.int .i64 (hd : Nat), .slice (some ⟨db, d0, none⟩) dn dc, .int .i64 (rm : Nat)]) :: L) R) (hm : InM R mb mo mn mc M) (hn : okN n) (hb : base + sizeN n ≤ mn) (hds : (1, .slice (some ⟨db, d0, none⟩) dn dc, intsI ds) ∈ R) (i p ln : Nat) (hln : ln < 1000000) (hp : p < 1000000) {di : Nat} (hdi : ds[i]? = some di) (hdn : di < n) (hdl : ds.length ≤ 16) (hrm : rm ≤ 100000000) (hlast : ds.length = i + 1) :
    Calls Tryz.prog 46 #[.pointer (some ⟨bw, 0, none⟩), .pointer (some ⟨bc, 0, none⟩), .int .i64 (i : Nat), .agg #[.int .i64 (p : Nat), .int .i64 (ln : Nat), .bool false]] w fun e w' => e = .returned (.tuple #[]) ∧ ∃ vb vo vc R', Mem w0 w' ((bw, #[.int .i64 (base : Nat), .int .i64 (n : Nat), fv, .int .u16 (av : Nat), .int .u16 (la : Nat), cv, (.slice (some ⟨vb, vo, none⟩) mn vc)]) :: (bc, #[.int .i64 (hd : Nat), .slice (some ⟨db, d0, none⟩) dn dc, .int .i64 (rm : Nat)]) :: L) R' ∧ InM R' vb vo mn vc (setD M (base + 16 * di) p ln 0 0) ∧ ∀ x ∈ R, x ∈ R' := by
  have HM := Lib.hid hm
  have HN := Lib.hid hn
  have HB := Lib.hid hb
  have HDS := Lib.hid hds
  have hdnn : ds.length = dn := by
    obtain ⟨_, _, _, e, g, _⟩ := hv.rd hds
    cases e
    rw [intsI_len] at g; omega
  have hle := hn.le
  have HDN := Lib.hid hdn
  have hil : i < ds.length := (List.getElem?_eq_some_iff.1 hdi).1
  have HXI : Hid ((intsI ds)[i]? = some (.int .i64 (di : Nat))) := Lib.hid (by unfold intsI; rw [List.getElem?_map, hdi]; rfl)
  have HA : Hid (p < 18446744073709551616) := Lib.hid (by omega)
  have HL4 : Hid (ln < 4294967296) := Lib.hid (by omega)
  have HF : Hid ((0 : Nat) < 65536) := Lib.hid (by decide)
  have q1 : IntKind.u64.wrap (p : Int) = (p : Int) := wrapU64 (by omega)
  have q2 : IntKind.u32.wrap (ln : Int) = (ln : Int) := wrap32 (by omega)
  have q3 : IntKind.i64.wrap ((i : Int) + 1) = (i : Int) + 1 := IntWalk.i64_in _ (by omega)
  have HX : Hid ((0 : Nat) < 65536) := Lib.hid (by decide)
  have y1 : decide ((i : Int) + 1 < (dn : Int)) = false := decide_eq_false (by omega)
  have y2 : ¬ ((i : Int) + 1 < (dn : Int)) := by omega
  have y3 : (i : Int) < (dn : Int) := by omega
  clear hm hn hb hds hln hp hdi hdn hdl hrm hlast  hdnn hle hil
  go_enter Tryz.func46, Tryz.ntmps46
  go_wp2_with (first
    | ((with_reducible refine at_box (T := 39) (dst := some 7) ?_); refine wl_newb rfl #[.int .i64 (p : Nat), .int .i64 (ln : Nat), .bool false] 39 (fun _ => rfl) ?_; intro b7 w2 hm2; replace hv := hv.madeAt hm2; clear hm2)
    | ((with_reducible refine at_load (T := 3) ?_); refine wl_ldc rfl b7 0 rfl _ (hv.vars.row (by first | exact .head _ | exact .tail _ (.head _) | exact .tail _ (.tail _ (.head _)) | exact .tail _ (.tail _ (.tail _ (.head _))) | exact .tail _ (.tail _ (.tail _ (.tail _ (.head _)))) | exact .tail _ (.tail _ (.tail _ (.tail _ (.tail _ (.head _))))) | exact .tail _ (.tail _ (.tail _ (.tail _ (.tail _ (.tail _ (.head _)))))) | exact .tail _ (.tail _ (.tail _ (.tail _ (.tail _ (.tail _ (.tail _ (.head _))))))))) _ Tryz.underlying3 rfl (.int .i64 (p : Nat)) rfl ?_)
    | ((with_reducible refine at_load (T := 3) ?_); refine wl_ldc rfl b7 1 rfl _ (hv.vars.row (by first | exact .head _ | exact .tail _ (.head _) | exact .tail _ (.tail _ (.head _)) | exact .tail _ (.tail _ (.tail _ (.head _))) | exact .tail _ (.tail _ (.tail _ (.tail _ (.head _)))) | exact .tail _ (.tail _ (.tail _ (.tail _ (.tail _ (.head _))))) | exact .tail _ (.tail _ (.tail _ (.tail _ (.tail _ (.tail _ (.head _)))))) | exact .tail _ (.tail _ (.tail _ (.tail _ (.tail _ (.tail _ (.tail _ (.head _))))))))) _ Tryz.underlying3 rfl (.int .i64 (ln : Nat)) rfl ?_)
    | ((with_reducible refine at_build ?_); refine wl_build rfl [(0, .int .u64 (p : Nat)), (1, .int .u32 (ln : Nat))] rfl (built_d _ _) ?_)
    | ((with_reducible refine at_alloc (T := 164) (dst := some 8) ?_); refine wl_newb rfl #[.int .u64 0, .int .u32 0, .int .u16 0, .int .u16 0] 164 (fun _ => rfl) ?_; intro b8 w2 hm2; replace hv := hv.madeAt hm2; clear hm2)
    | ((with_reducible refine at_store (T := 164) ?_); refine wl_stv rfl b8 rfl _ rfl _ (hv.vars.row (by first | exact .head _ | exact .tail _ (.head _) | exact .tail _ (.tail _ (.head _)) | exact .tail _ (.tail _ (.tail _ (.head _))) | exact .tail _ (.tail _ (.tail _ (.tail _ (.head _)))) | exact .tail _ (.tail _ (.tail _ (.tail _ (.tail _ (.head _))))) | exact .tail _ (.tail _ (.tail _ (.tail _ (.tail _ (.tail _ (.head _)))))) | exact .tail _ (.tail _ (.tail _ (.tail _ (.tail _ (.tail _ (.tail _ (.head _))))))))) (hv.vars.sft (by first | exact .head _ | exact .tail _ (.head _) | exact .tail _ (.tail _ (.head _)) | exact .tail _ (.tail _ (.tail _ (.head _))) | exact .tail _ (.tail _ (.tail _ (.tail _ (.head _)))) | exact .tail _ (.tail _ (.tail _ (.tail _ (.tail _ (.head _))))) | exact .tail _ (.tail _ (.tail _ (.tail _ (.tail _ (.tail _ (.head _)))))) | exact .tail _ (.tail _ (.tail _ (.tail _ (.tail _ (.tail _ (.tail _ (.head _))))))))) 4 infoD rfl rfl (by simp [Value.oneCell']) ?_; intro w2 hw2; (first | (replace hv := hv.set 0 rfl hw2) | (replace hv := hv.set 1 rfl hw2) | (replace hv := hv.set 2 rfl hw2) | (replace hv := hv.set 3 rfl hw2) | (replace hv := hv.set 4 rfl hw2) | (replace hv := hv.set 5 rfl hw2) | (replace hv := hv.set 6 rfl hw2) | (replace hv := hv.set 7 rfl hw2)); clear hw2; simp only [List.set] at hv)
    | ((with_reducible refine at_load (T := 22) ?_); refine wl_ldc rfl bc 1 rfl _ (hv.vars.row (by first | exact .head _ | exact .tail _ (.head _) | exact .tail _ (.tail _ (.head _)) | exact .tail _ (.tail _ (.tail _ (.head _))) | exact .tail _ (.tail _ (.tail _ (.tail _ (.head _)))) | exact .tail _ (.tail _ (.tail _ (.tail _ (.tail _ (.head _))))) | exact .tail _ (.tail _ (.tail _ (.tail _ (.tail _ (.tail _ (.head _)))))) | exact .tail _ (.tail _ (.tail _ (.tail _ (.tail _ (.tail _ (.tail _ (.head _))))))))) _ Tryz.underlying22 rfl (.slice (some ⟨db, d0, none⟩) dn dc) rfl ?_)
    | ((with_reducible refine at_load (T := 4) ?_); refine wl_ldc rfl b7 2 rfl _ (hv.vars.row (by first | exact .head _ | exact .tail _ (.head _) | exact .tail _ (.tail _ (.head _)) | exact .tail _ (.tail _ (.tail _ (.head _))) | exact .tail _ (.tail _ (.tail _ (.tail _ (.head _)))) | exact .tail _ (.tail _ (.tail _ (.tail _ (.tail _ (.head _))))) | exact .tail _ (.tail _ (.tail _ (.tail _ (.tail _ (.tail _ (.head _)))))) | exact .tail _ (.tail _ (.tail _ (.tail _ (.tail _ (.tail _ (.tail _ (.head _))))))))) _ Tryz.underlying4 rfl (.bool false) rfl ?_)
    | ((with_reducible refine at_load (T := 29) ?_); refine wl_ldc rfl b8 2 rfl _ (hv.vars.row (by first | exact .head _ | exact .tail _ (.head _) | exact .tail _ (.tail _ (.head _)) | exact .tail _ (.tail _ (.tail _ (.head _))) | exact .tail _ (.tail _ (.tail _ (.tail _ (.head _)))) | exact .tail _ (.tail _ (.tail _ (.tail _ (.tail _ (.head _))))) | exact .tail _ (.tail _ (.tail _ (.tail _ (.tail _ (.tail _ (.head _)))))) | exact .tail _ (.tail _ (.tail _ (.tail _ (.tail _ (.tail _ (.tail _ (.head _))))))))) _ Tryz.underlying29 rfl (.int .u16 0) rfl ?_)
    | ((with_reducible refine at_store (T := 29) ?_); refine wl_stc rfl b8 2 rfl (.int .u16 0) rfl _ (hv.vars.row (by first | exact .head _ | exact .tail _ (.head _) | exact .tail _ (.tail _ (.head _)) | exact .tail _ (.tail _ (.tail _ (.head _))) | exact .tail _ (.tail _ (.tail _ (.tail _ (.head _)))) | exact .tail _ (.tail _ (.tail _ (.tail _ (.tail _ (.head _))))) | exact .tail _ (.tail _ (.tail _ (.tail _ (.tail _ (.tail _ (.head _)))))) | exact .tail _ (.tail _ (.tail _ (.tail _ (.tail _ (.tail _ (.tail _ (.head _))))))))) (hv.vars.sft (by first | exact .head _ | exact .tail _ (.head _) | exact .tail _ (.tail _ (.head _)) | exact .tail _ (.tail _ (.tail _ (.head _))) | exact .tail _ (.tail _ (.tail _ (.tail _ (.head _)))) | exact .tail _ (.tail _ (.tail _ (.tail _ (.tail _ (.head _))))) | exact .tail _ (.tail _ (.tail _ (.tail _ (.tail _ (.tail _ (.head _)))))) | exact .tail _ (.tail _ (.tail _ (.tail _ (.tail _ (.tail _ (.tail _ (.head _))))))))) (by kernel_rfl) rfl (by show 2 < 4; decide) ?_; intro w2 hw2; (first | (replace hv := hv.set 0 rfl hw2) | (replace hv := hv.set 1 rfl hw2) | (replace hv := hv.set 2 rfl hw2) | (replace hv := hv.set 3 rfl hw2)); clear hw2; simp only [List.set] at hv))
  try clear HPD
  have hv0 := hv
  clear hv
  have hv : Mem w0 _ ([(b8, #[.int .u64 (p : Nat), .int .u32 (ln : Nat), .int .u16 0, .int .u16 0]), (b7, #[.int .i64 (p : Nat), .int .i64 (ln : Nat), .bool false]), (bw, #[.int .i64 (base : Nat), .int .i64 (n : Nat), fv, .int .u16 (av : Nat), .int .u16 (la : Nat), cv, (.slice (some ⟨mb, mo, none⟩) mn mc)]), (bc, #[.int .i64 (hd : Nat), .slice (some ⟨db, d0, none⟩) dn dc, .int .i64 (rm : Nat)])] ++ L) _ := hv0
  clear hv0
  have HPD := Lib.hid (Any.rd_start (hv.keep (List.sublist_append_left [(b8, #[.int .u64 (p : Nat), .int .u32 (ln : Nat), .int .u16 0, .int .u16 0]), (b7, #[.int .i64 (p : Nat), .int .i64 (ln : Nat), .bool false]), (bw, #[.int .i64 (base : Nat), .int .i64 (n : Nat), fv, .int .u16 (av : Nat), .int .u16 (la : Nat), cv, (.slice (some ⟨mb, mo, none⟩) mn mc)]), (bc, #[.int .i64 (hd : Nat), .slice (some ⟨db, d0, none⟩) dn dc, .int .i64 (rm : Nat)])] L)) HDS.out)
  have hv0 := hv
  clear hv
  have hv : Mem w0 _ ([(b8, #[.int .u64 (p : Nat), .int .u32 (ln : Nat), .int .u16 0, .int .u16 0]), (b7, #[.int .i64 (p : Nat), .int .i64 (ln : Nat), .bool false]), (bw, #[.int .i64 (base : Nat), .int .i64 (n : Nat), fv, .int .u16 (av : Nat), .int .u16 (la : Nat), cv, (.slice (some ⟨mb, mo, none⟩) mn mc)]), (bc, #[.int .i64 (hd : Nat), .slice (some ⟨db, d0, none⟩) dn dc, .int .i64 (rm : Nat)])] ++ L) _ := hv0
  clear hv0
  refine Any.wp_region_cut1 23 [⟨[], none⟩, ⟨[], none⟩, ⟨[], none⟩, ⟨[], none⟩, ⟨[1002], none⟩, ⟨[], none⟩, ⟨[], none⟩, ⟨[], none⟩, ⟨[], none⟩, ⟨[1002], none⟩, ⟨[], none⟩, ⟨[], none⟩, ⟨[], none⟩, ⟨[], none⟩, ⟨[1002], none⟩, ⟨[], none⟩, ⟨[], none⟩, ⟨[], none⟩, ⟨[1003], none⟩, ⟨[], none⟩, ⟨[], none⟩, ⟨[], none⟩, ⟨[1000], none⟩, ⟨[], none⟩, ⟨[], none⟩, ⟨[], none⟩, ⟨[], none⟩, ⟨[], none⟩, ⟨[], none⟩, ⟨[], none⟩] [.val, .val, .val, .val, .val, .val, .val, .val, .val, .val, .val, .val, .val, .val, .val, .val, .val, .val, .val, .val, .val, .val, .val] (.pointer (some ⟨bw, 0, none⟩)) (by kernel_rfl) (by kernel_rfl) (hv.vars.keep (List.sublist_append_left [(b8, #[.int .u64 (p : Nat), .int .u32 (ln : Nat), .int .u16 0, .int .u16 0]), (b7, #[.int .i64 (p : Nat), .int .i64 (ln : Nat), .bool false]), (bw, #[.int .i64 (base : Nat), .int .i64 (n : Nat), fv, .int .u16 (av : Nat), .int .u16 (la : Nat), cv, (.slice (some ⟨mb, mo, none⟩) mn mc)]), (bc, #[.int .i64 (hd : Nat), .slice (some ⟨db, d0, none⟩) dn dc, .int .i64 (rm : Nat)])] L)) (fun _ _ _ h => h) (.inl ⟨rfl, fun _ => by rfl⟩) ?_
  simp only [Any.someVals, List.take_succ_cons, List.take_zero, List.drop_succ_cons, List.drop_zero, Nat.reduceSub]
  simp only [Act.put, List.setIfInBounds_toArray, List.set_cons_succ, List.set_cons_zero]
  iterate 23 apply Exists.intro
  repeat (first
    | (refine Any.E_off rfl ?_; simp only [Act.put, List.setIfInBounds_toArray, List.set_cons_succ, List.set_cons_zero])
    | (apply Any.E_pureq rfl rfl rfl
       case h => intro K hK; go_big_quiet_op; (refine hK _ ?_; rfl)
       case hr => exact fun _ => rfl
       simp only [Act.put, List.setIfInBounds_toArray, List.set_cons_succ, List.set_cons_zero])
    | (apply Any.E_val rfl rfl rfl rfl
       case h =>
         intro E' hA K hK
         first
           | ((with_reducible refine Any.at_qload (T := 28) ?_); refine Any.q_ldp 1002 hA (by decide) rfl rfl 1 _ Tryz.underlying28 rfl infoM (by decide) (show 6 + 1 ≤ 7 from by decide) #[(.slice (some ⟨mb, mo, none⟩) mn mc)] rfl ?_; refine hK _ ?_; rfl)
           | ((with_reducible refine Any.at_qload (T := 3) ?_); refine Any.q_ldc 1002 hA (by decide) rfl rfl _ Tryz.underlying3 rfl (.int .i64 (base : Nat)) rfl ?_; refine hK _ ?_; rfl)
           | ((with_reducible refine Any.at_qload (T := 3) ?_); refine Any.q_ldc 1002 hA (by decide) rfl rfl _ Tryz.underlying3 rfl (.int .i64 (n : Nat)) rfl ?_; refine hK _ ?_; rfl)
           | ((with_reducible refine Any.at_qload (T := 22) ?_); refine Any.q_ldc 1003 hA (by decide) rfl rfl _ Tryz.underlying22 rfl (.slice (some ⟨db, d0, none⟩) dn dc) rfl ?_; refine hK _ ?_; rfl)
           | ((with_reducible refine Any.at_qload (T := 3) ?_); refine Any.q_rd HPD.out (i) rfl _ Tryz.underlying3 rfl (.int .i64 (di : Nat)) HXI.out ?_; refine hK _ ?_; rfl)
           | ((with_reducible refine Any.at_qload (T := 164) ?_); refine Any.q_ldv 1000 hA (by decide) rfl rfl 4 _ Tryz.underlying164 rfl infoD (by decide) rfl ?_; refine hK _ ?_; rfl)
           | (go_big_quiet_op; first
             | (refine hK _ ?_; rfl)
             | (refine ⟨_, fun _ _ => rfl, ?_⟩; refine hK _ ?_; rfl)
             | (apply Exists.intro; refine ⟨fun w1 hw1 => ?_, ?_⟩; · (first
                 | fail)
                refine hK _ ?_; rfl))
       case hD => rfl
       simp only [Act.put, List.setIfInBounds_toArray, List.set_cons_succ, List.set_cons_zero])
    | ((with_reducible refine Any.at_ealloc ?_); refine Any.E_lay rfl rfl rfl (fun _ => rfl) ?_; intro B; simp only [Act.put, List.setIfInBounds_toArray, List.set_cons_succ, List.set_cons_zero])
    | ((with_reducible refine Any.at_estore (T := 28) ?_); refine Any.E_putp rfl rfl rfl rfl rfl rfl 1 infoM rfl (by show 6 + 1 ≤ 7; decide) (by simp [Value.oneCell']) (c' := #[.int .i64 (base : Nat), .int .i64 (n : Nat), fv, .int .u16 (av : Nat), .int .u16 (la : Nat), cv, (.slice (some ⟨vb, vo, none⟩) mn vc)]) (splice_w _ _ _ _ _ _ _ _) ?_; simp only [Act.put, List.setIfInBounds_toArray, List.set_cons_succ, List.set_cons_zero]))
  try any_goals exact undef
  refine Any.E_nil ?_
  intro w9 hE9
  replace hv : Mem w0 w9 ([(b8, #[.int .u64 (p : Nat), .int .u32 (ln : Nat), .int .u16 0, .int .u16 0]), (b7, #[.int .i64 (p : Nat), .int .i64 (ln : Nat), .bool false]), (bw, #[.int .i64 (base : Nat), .int .i64 (n : Nat), fv, .int .u16 (av : Nat), .int .u16 (la : Nat), cv, (.slice (some ⟨mb, mo, none⟩) mn mc)]), (bc, #[.int .i64 (hd : Nat), .slice (some ⟨db, d0, none⟩) dn dc, .int .i64 (rm : Nat)])] ++ L) _ := hE9.memr (L1 := [(b8, #[.int .u64 (p : Nat), .int .u32 (ln : Nat), .int .u16 0, .int .u16 0]), (b7, #[.int .i64 (p : Nat), .int .i64 (ln : Nat), .bool false]), (bw, #[.int .i64 (base : Nat), .int .i64 (n : Nat), fv, .int .u16 (av : Nat), .int .u16 (la : Nat), cv, (.slice (some ⟨mb, mo, none⟩) mn mc)]), (bc, #[.int .i64 (hd : Nat), .slice (some ⟨db, d0, none⟩) dn dc, .int .i64 (rm : Nat)])]) hv [1000, 1001, 1002, 1003] (by decide)
  clear hE9
  refine Any.wpOp_callv rfl rfl (Go.Proofs.enters_of Tryz.func91 (by kernel_rfl) rfl) rfl [(.agg #[(.slice (some ⟨mb, mo, none⟩) mn mc)]), .int .i64 (base : Nat), .int .i64 (n : Nat), .int .i64 (di : Nat), .agg #[.int .u64 (p : Nat), .int .u32 (ln : Nat), .int .u16 0, .int .u16 0]] rfl ?_
  refine (SetDesc_M (a := p) (l := ln) (f := 0) (x := 0) hv HM.out base n di HN.out HB.out HDN.out HA.out HL4.out HF.out HX.out).mono ?_
  rintro e w1 ⟨vb, vo, vc, R1, rfl, hv1, hi1, hs1⟩
  replace hv := hv1
  have HI1 := Lib.hid hi1
  have HS1 := Lib.hid hs1
  clear hv1 hi1 hs1
  refine ⟨_, rfl, ?_⟩
  have hv0 := hv
  clear hv
  have hv : Mem w0 _ ([(b8, #[.int .u64 (p : Nat), .int .u32 (ln : Nat), .int .u16 0, .int .u16 0]), (b7, #[.int .i64 (p : Nat), .int .i64 (ln : Nat), .bool false]), (bw, #[.int .i64 (base : Nat), .int .i64 (n : Nat), fv, .int .u16 (av : Nat), .int .u16 (la : Nat), cv, (.slice (some ⟨mb, mo, none⟩) mn mc)]), (bc, #[.int .i64 (hd : Nat), .slice (some ⟨db, d0, none⟩) dn dc, .int .i64 (rm : Nat)])] ++ L) _ := hv0
  clear hv0
  refine Any.wpAny_rest 24 [⟨[], none⟩, ⟨[], none⟩, ⟨[], none⟩, ⟨[], none⟩, ⟨[], none⟩, ⟨[1002], some 1002⟩] [.val, .val, .val, .val, .val, .put] (by kernel_rfl) (hv.vars.keep (List.sublist_append_left [(b8, #[.int .u64 (p : Nat), .int .u32 (ln : Nat), .int .u16 0, .int .u16 0]), (b7, #[.int .i64 (p : Nat), .int .i64 (ln : Nat), .bool false]), (bw, #[.int .i64 (base : Nat), .int .i64 (n : Nat), fv, .int .u16 (av : Nat), .int .u16 (la : Nat), cv, (.slice (some ⟨mb, mo, none⟩) mn mc)]), (bc, #[.int .i64 (hd : Nat), .slice (some ⟨db, d0, none⟩) dn dc, .int .i64 (rm : Nat)])] L)) ?_
  simp only [List.length_cons, List.length_nil, Nat.zero_add, Nat.reduceAdd, Nat.reduceSub, Any.someVals, List.drop_succ_cons, List.drop_zero]
  simp only [Act.put, List.setIfInBounds_toArray, List.set_cons_succ, List.set_cons_zero]
  iterate 6 apply Exists.intro
  repeat (first
    | (refine Any.E_off rfl ?_; simp only [Act.put, List.setIfInBounds_toArray, List.set_cons_succ, List.set_cons_zero])
    | (apply Any.E_pureq rfl rfl rfl
       case h => intro K hK; go_big_quiet_op; (refine hK _ ?_; rfl)
       case hr => exact fun _ => rfl
       simp only [Act.put, List.setIfInBounds_toArray, List.set_cons_succ, List.set_cons_zero])
    | (apply Any.E_val rfl rfl rfl rfl
       case h =>
         intro E' hA K hK
         first
           | ((with_reducible refine Any.at_qload (T := 28) ?_); refine Any.q_ldp 1002 hA (by decide) rfl rfl 1 _ Tryz.underlying28 rfl infoM (by decide) (show 6 + 1 ≤ 7 from by decide) #[(.slice (some ⟨mb, mo, none⟩) mn mc)] rfl ?_; refine hK _ ?_; rfl)
           | ((with_reducible refine Any.at_qload (T := 3) ?_); refine Any.q_ldc 1002 hA (by decide) rfl rfl _ Tryz.underlying3 rfl (.int .i64 (base : Nat)) rfl ?_; refine hK _ ?_; rfl)
           | ((with_reducible refine Any.at_qload (T := 3) ?_); refine Any.q_ldc 1002 hA (by decide) rfl rfl _ Tryz.underlying3 rfl (.int .i64 (n : Nat)) rfl ?_; refine hK _ ?_; rfl)
           | ((with_reducible refine Any.at_qload (T := 22) ?_); refine Any.q_ldc 1003 hA (by decide) rfl rfl _ Tryz.underlying22 rfl (.slice (some ⟨db, d0, none⟩) dn dc) rfl ?_; refine hK _ ?_; rfl)
           | ((with_reducible refine Any.at_qload (T := 3) ?_); refine Any.q_rd HPD.out (i) rfl _ Tryz.underlying3 rfl (.int .i64 (di : Nat)) HXI.out ?_; refine hK _ ?_; rfl)
           | ((with_reducible refine Any.at_qload (T := 164) ?_); refine Any.q_ldv 1000 hA (by decide) rfl rfl 4 _ Tryz.underlying164 rfl infoD (by decide) rfl ?_; refine hK _ ?_; rfl)
           | (go_big_quiet_op; first
             | (refine hK _ ?_; rfl)
             | (refine ⟨_, fun _ _ => rfl, ?_⟩; refine hK _ ?_; rfl)
             | (apply Exists.intro; refine ⟨fun w1 hw1 => ?_, ?_⟩; · (first
                 | fail)
                refine hK _ ?_; rfl))
       case hD => rfl
       simp only [Act.put, List.setIfInBounds_toArray, List.set_cons_succ, List.set_cons_zero])
    | ((with_reducible refine Any.at_ealloc ?_); refine Any.E_lay rfl rfl rfl (fun _ => rfl) ?_; intro B; simp only [Act.put, List.setIfInBounds_toArray, List.set_cons_succ, List.set_cons_zero])
    | ((with_reducible refine Any.at_estore (T := 28) ?_); refine Any.E_putp rfl rfl rfl rfl rfl rfl 1 infoM rfl (by show 6 + 1 ≤ 7; decide) (by simp [Value.oneCell']) (c' := #[.int .i64 (base : Nat), .int .i64 (n : Nat), fv, .int .u16 (av : Nat), .int .u16 (la : Nat), cv, (.slice (some ⟨vb, vo, none⟩) mn vc)]) (splice_w _ _ _ _ _ _ _ _) ?_; simp only [Act.put, List.setIfInBounds_toArray, List.set_cons_succ, List.set_cons_zero]))
  try any_goals exact undef
  refine Any.E_nil ?_
  intro w9 hE9
  replace hv : Mem w0 w9 ([(b8, #[.int .u64 (p : Nat), .int .u32 (ln : Nat), .int .u16 0, .int .u16 0]), (b7, #[.int .i64 (p : Nat), .int .i64 (ln : Nat), .bool false]), (bw, #[.int .i64 (base : Nat), .int .i64 (n : Nat), fv, .int .u16 (av : Nat), .int .u16 (la : Nat), cv, (.slice (some ⟨vb, vo, none⟩) mn vc)]), (bc, #[.int .i64 (hd : Nat), .slice (some ⟨db, d0, none⟩) dn dc, .int .i64 (rm : Nat)])] ++ L) _ := hE9.memr0 (L1 := [(b8, #[.int .u64 (p : Nat), .int .u32 (ln : Nat), .int .u16 0, .int .u16 0]), (b7, #[.int .i64 (p : Nat), .int .i64 (ln : Nat), .bool false]), (bw, #[.int .i64 (base : Nat), .int .i64 (n : Nat), fv, .int .u16 (av : Nat), .int .u16 (la : Nat), cv, (.slice (some ⟨mb, mo, none⟩) mn mc)]), (bc, #[.int .i64 (hd : Nat), .slice (some ⟨db, d0, none⟩) dn dc, .int .i64 (rm : Nat)])]) hv [1000, 1001, 1002, 1003] (by decide)
  clear hE9
  simp only [List.cons_append, List.nil_append] at hv
  go_end0
  exact ⟨rfl, vb, vo, vc, R1, hv.drop.drop, HI1.out, HS1.out⟩
set_option maxRecDepth 100000 in
set_option maxHeartbeats 16000000 in
theorem lay_11 {w0 w : World} {L : List (Nat × Array Value)} {R : List (Nat × Value × List Value)} {mb mo mn mc : Nat} {M : List Nat} {bw bc base n av la hd db d0 dn dc rm : Nat} {fv cv : Value} {ds : List Nat} (hv : Mem w0 w ((bw, #[.int .i64 (base : Nat), .int .i64 (n : Nat), fv, .int .u16 (av : Nat), .int .u16 (la : Nat), cv, (.slice (some ⟨mb, mo, none⟩) mn mc)]) :: (bc, #[.int .i64 (hd : Nat), .slice (some ⟨db, d0, none⟩) dn dc, .int .i64 (rm : Nat)]) :: L) R) (hm : InM R mb mo mn mc M) (hn : okN n) (hb : base + sizeN n ≤ mn) (hds : (1, .slice (some ⟨db, d0, none⟩) dn dc, intsI ds) ∈ R) (i p ln : Nat) (hln : ln < 1000000) (hp : p < 1000000) {di : Nat} (hdi : ds[i]? = some di) (hdn : di < n) (hdl : ds.length ≤ 16) (hrm : rm ≤ 100000000) (hlast : ds.length = i + 1) :
    Calls Tryz.prog 46 #[.pointer (some ⟨bw, 0, none⟩), .pointer (some ⟨bc, 0, none⟩), .int .i64 (i : Nat), .agg #[.int .i64 (p : Nat), .int .i64 (ln : Nat), .bool true]] w fun e w' => e = .returned (.tuple #[]) ∧ ∃ vb vo vc R', Mem w0 w' ((bw, #[.int .i64 (base : Nat), .int .i64 (n : Nat), fv, .int .u16 (av : Nat), .int .u16 (la : Nat), cv, (.slice (some ⟨vb, vo, none⟩) mn vc)]) :: (bc, #[.int .i64 (hd : Nat), .slice (some ⟨db, d0, none⟩) dn dc, .int .i64 ((rm + ln : Nat) : Nat)]) :: L) R' ∧ InM R' vb vo mn vc (setD M (base + 16 * di) p ln 2 0) ∧ ∀ x ∈ R, x ∈ R' := by
  have HM := Lib.hid hm
  have HN := Lib.hid hn
  have HB := Lib.hid hb
  have HDS := Lib.hid hds
  have hdnn : ds.length = dn := by
    obtain ⟨_, _, _, e, g, _⟩ := hv.rd hds
    cases e
    rw [intsI_len] at g; omega
  have hle := hn.le
  have HDN := Lib.hid hdn
  have hil : i < ds.length := (List.getElem?_eq_some_iff.1 hdi).1
  have HXI : Hid ((intsI ds)[i]? = some (.int .i64 (di : Nat))) := Lib.hid (by unfold intsI; rw [List.getElem?_map, hdi]; rfl)
  have HA : Hid (p < 18446744073709551616) := Lib.hid (by omega)
  have HL4 : Hid (ln < 4294967296) := Lib.hid (by omega)
  have HF : Hid ((2 : Nat) < 65536) := Lib.hid (by decide)
  have q1 : IntKind.u64.wrap (p : Int) = (p : Int) := wrapU64 (by omega)
  have q2 : IntKind.u32.wrap (ln : Int) = (ln : Int) := wrap32 (by omega)
  have q3 : IntKind.i64.wrap ((i : Int) + 1) = (i : Int) + 1 := IntWalk.i64_in _ (by omega)
  have HX : Hid ((0 : Nat) < 65536) := Lib.hid (by decide)
  have y1 : decide ((i : Int) + 1 < (dn : Int)) = false := decide_eq_false (by omega)
  have y2 : ¬ ((i : Int) + 1 < (dn : Int)) := by omega
  have y3 : (i : Int) < (dn : Int) := by omega
  obtain ⟨rm2, hrm2⟩ : ∃ k, rm + ln = k := ⟨_, rfl⟩
  have q5 : IntKind.i64.wrap ((rm : Int) + (ln : Int)) = (rm2 : Int) := by rw [IntWalk.i64_in _ (by omega)]; omega
  have q6 : bits .or .u16 0 2 = 2 := by decide
  have HRW : Hid (rm + ln = rm2) := Lib.hid hrm2
  clear hm hn hb hds hln hp hdi hdn hdl hrm hlast hrm2 hdnn hle hil
  go_enter Tryz.func46, Tryz.ntmps46
  go_wp2_with (first
    | ((with_reducible refine at_box (T := 39) (dst := some 7) ?_); refine wl_newb rfl #[.int .i64 (p : Nat), .int .i64 (ln : Nat), .bool true] 39 (fun _ => rfl) ?_; intro b7 w2 hm2; replace hv := hv.madeAt hm2; clear hm2)
    | ((with_reducible refine at_load (T := 3) ?_); refine wl_ldc rfl b7 0 rfl _ (hv.vars.row (by first | exact .head _ | exact .tail _ (.head _) | exact .tail _ (.tail _ (.head _)) | exact .tail _ (.tail _ (.tail _ (.head _))) | exact .tail _ (.tail _ (.tail _ (.tail _ (.head _)))) | exact .tail _ (.tail _ (.tail _ (.tail _ (.tail _ (.head _))))) | exact .tail _ (.tail _ (.tail _ (.tail _ (.tail _ (.tail _ (.head _)))))) | exact .tail _ (.tail _ (.tail _ (.tail _ (.tail _ (.tail _ (.tail _ (.head _))))))))) _ Tryz.underlying3 rfl (.int .i64 (p : Nat)) rfl ?_)
    | ((with_reducible refine at_load (T := 3) ?_); refine wl_ldc rfl b7 1 rfl _ (hv.vars.row (by first | exact .head _ | exact .tail _ (.head _) | exact .tail _ (.tail _ (.head _)) | exact .tail _ (.tail _ (.tail _ (.head _))) | exact .tail _ (.tail _ (.tail _ (.tail _ (.head _)))) | exact .tail _ (.tail _ (.tail _ (.tail _ (.tail _ (.head _))))) | exact .tail _ (.tail _ (.tail _ (.tail _ (.tail _ (.tail _ (.head _)))))) | exact .tail _ (.tail _ (.tail _ (.tail _ (.tail _ (.tail _ (.tail _ (.head _))))))))) _ Tryz.underlying3 rfl (.int .i64 (ln : Nat)) rfl ?_)
    | ((with_reducible refine at_build ?_); refine wl_build rfl [(0, .int .u64 (p : Nat)), (1, .int .u32 (ln : Nat))] rfl (built_d _ _) ?_)
    | ((with_reducible refine at_alloc (T := 164) (dst := some 8) ?_); refine wl_newb rfl #[.int .u64 0, .int .u32 0, .int .u16 0, .int .u16 0] 164 (fun _ => rfl) ?_; intro b8 w2 hm2; replace hv := hv.madeAt hm2; clear hm2)
    | ((with_reducible refine at_store (T := 164) ?_); refine wl_stv rfl b8 rfl _ rfl _ (hv.vars.row (by first | exact .head _ | exact .tail _ (.head _) | exact .tail _ (.tail _ (.head _)) | exact .tail _ (.tail _ (.tail _ (.head _))) | exact .tail _ (.tail _ (.tail _ (.tail _ (.head _)))) | exact .tail _ (.tail _ (.tail _ (.tail _ (.tail _ (.head _))))) | exact .tail _ (.tail _ (.tail _ (.tail _ (.tail _ (.tail _ (.head _)))))) | exact .tail _ (.tail _ (.tail _ (.tail _ (.tail _ (.tail _ (.tail _ (.head _))))))))) (hv.vars.sft (by first | exact .head _ | exact .tail _ (.head _) | exact .tail _ (.tail _ (.head _)) | exact .tail _ (.tail _ (.tail _ (.head _))) | exact .tail _ (.tail _ (.tail _ (.tail _ (.head _)))) | exact .tail _ (.tail _ (.tail _ (.tail _ (.tail _ (.head _))))) | exact .tail _ (.tail _ (.tail _ (.tail _ (.tail _ (.tail _ (.head _)))))) | exact .tail _ (.tail _ (.tail _ (.tail _ (.tail _ (.tail _ (.tail _ (.head _))))))))) 4 infoD rfl rfl (by simp [Value.oneCell']) ?_; intro w2 hw2; (first | (replace hv := hv.set 0 rfl hw2) | (replace hv := hv.set 1 rfl hw2) | (replace hv := hv.set 2 rfl hw2) | (replace hv := hv.set 3 rfl hw2) | (replace hv := hv.set 4 rfl hw2) | (replace hv := hv.set 5 rfl hw2) | (replace hv := hv.set 6 rfl hw2) | (replace hv := hv.set 7 rfl hw2)); clear hw2; simp only [List.set] at hv)
    | ((with_reducible refine at_load (T := 22) ?_); refine wl_ldc rfl bc 1 rfl _ (hv.vars.row (by first | exact .head _ | exact .tail _ (.head _) | exact .tail _ (.tail _ (.head _)) | exact .tail _ (.tail _ (.tail _ (.head _))) | exact .tail _ (.tail _ (.tail _ (.tail _ (.head _)))) | exact .tail _ (.tail _ (.tail _ (.tail _ (.tail _ (.head _))))) | exact .tail _ (.tail _ (.tail _ (.tail _ (.tail _ (.tail _ (.head _)))))) | exact .tail _ (.tail _ (.tail _ (.tail _ (.tail _ (.tail _ (.tail _ (.head _))))))))) _ Tryz.underlying22 rfl (.slice (some ⟨db, d0, none⟩) dn dc) rfl ?_)
    | ((with_reducible refine at_load (T := 4) ?_); refine wl_ldc rfl b7 2 rfl _ (hv.vars.row (by first | exact .head _ | exact .tail _ (.head _) | exact .tail _ (.tail _ (.head _)) | exact .tail _ (.tail _ (.tail _ (.head _))) | exact .tail _ (.tail _ (.tail _ (.tail _ (.head _)))) | exact .tail _ (.tail _ (.tail _ (.tail _ (.tail _ (.head _))))) | exact .tail _ (.tail _ (.tail _ (.tail _ (.tail _ (.tail _ (.head _)))))) | exact .tail _ (.tail _ (.tail _ (.tail _ (.tail _ (.tail _ (.tail _ (.head _))))))))) _ Tryz.underlying4 rfl (.bool true) rfl ?_)
    | ((with_reducible refine at_load (T := 29) ?_); refine wl_ldc rfl b8 2 rfl _ (hv.vars.row (by first | exact .head _ | exact .tail _ (.head _) | exact .tail _ (.tail _ (.head _)) | exact .tail _ (.tail _ (.tail _ (.head _))) | exact .tail _ (.tail _ (.tail _ (.tail _ (.head _)))) | exact .tail _ (.tail _ (.tail _ (.tail _ (.tail _ (.head _))))) | exact .tail _ (.tail _ (.tail _ (.tail _ (.tail _ (.tail _ (.head _)))))) | exact .tail _ (.tail _ (.tail _ (.tail _ (.tail _ (.tail _ (.tail _ (.head _))))))))) _ Tryz.underlying29 rfl (.int .u16 0) rfl ?_)
    | ((with_reducible refine at_store (T := 29) ?_); refine wl_stc rfl b8 2 rfl (.int .u16 2) rfl _ (hv.vars.row (by first | exact .head _ | exact .tail _ (.head _) | exact .tail _ (.tail _ (.head _)) | exact .tail _ (.tail _ (.tail _ (.head _))) | exact .tail _ (.tail _ (.tail _ (.tail _ (.head _)))) | exact .tail _ (.tail _ (.tail _ (.tail _ (.tail _ (.head _))))) | exact .tail _ (.tail _ (.tail _ (.tail _ (.tail _ (.tail _ (.head _)))))) | exact .tail _ (.tail _ (.tail _ (.tail _ (.tail _ (.tail _ (.tail _ (.head _))))))))) (hv.vars.sft (by first | exact .head _ | exact .tail _ (.head _) | exact .tail _ (.tail _ (.head _)) | exact .tail _ (.tail _ (.tail _ (.head _))) | exact .tail _ (.tail _ (.tail _ (.tail _ (.head _)))) | exact .tail _ (.tail _ (.tail _ (.tail _ (.tail _ (.head _))))) | exact .tail _ (.tail _ (.tail _ (.tail _ (.tail _ (.tail _ (.head _)))))) | exact .tail _ (.tail _ (.tail _ (.tail _ (.tail _ (.tail _ (.tail _ (.head _))))))))) (by kernel_rfl) rfl (by show 2 < 4; decide) ?_; intro w2 hw2; (first | (replace hv := hv.set 0 rfl hw2) | (replace hv := hv.set 1 rfl hw2) | (replace hv := hv.set 2 rfl hw2) | (replace hv := hv.set 3 rfl hw2)); clear hw2; simp only [List.set] at hv))
  have hv0 := hv
  clear hv
  have hv : Mem w0 _ ([(b8, #[.int .u64 (p : Nat), .int .u32 (ln : Nat), .int .u16 2, .int .u16 0]), (b7, #[.int .i64 (p : Nat), .int .i64 (ln : Nat), .bool true]), (bw, #[.int .i64 (base : Nat), .int .i64 (n : Nat), fv, .int .u16 (av : Nat), .int .u16 (la : Nat), cv, (.slice (some ⟨mb, mo, none⟩) mn mc)]), (bc, #[.int .i64 (hd : Nat), .slice (some ⟨db, d0, none⟩) dn dc, .int .i64 (rm : Nat)])] ++ L) _ := hv0
  clear hv0
  have HPD := Lib.hid (Any.rd_start (hv.keep (List.sublist_append_left [(b8, #[.int .u64 (p : Nat), .int .u32 (ln : Nat), .int .u16 2, .int .u16 0]), (b7, #[.int .i64 (p : Nat), .int .i64 (ln : Nat), .bool true]), (bw, #[.int .i64 (base : Nat), .int .i64 (n : Nat), fv, .int .u16 (av : Nat), .int .u16 (la : Nat), cv, (.slice (some ⟨mb, mo, none⟩) mn mc)]), (bc, #[.int .i64 (hd : Nat), .slice (some ⟨db, d0, none⟩) dn dc, .int .i64 (rm : Nat)])] L)) HDS.out)
  refine Any.wp_region_walk [⟨[], none⟩, ⟨[], none⟩, ⟨[], none⟩, ⟨[1003], none⟩, ⟨[], none⟩, ⟨[1001], none⟩, ⟨[], none⟩, ⟨[], none⟩, ⟨[], none⟩, ⟨[1003], some 1003⟩] [.val, .val, .val, .val, .val, .val, .val, .val, .val, .put] (by kernel_rfl) (by kernel_rfl) (hv.vars.keep (List.sublist_append_left [(b8, #[.int .u64 (p : Nat), .int .u32 (ln : Nat), .int .u16 2, .int .u16 0]), (b7, #[.int .i64 (p : Nat), .int .i64 (ln : Nat), .bool true]), (bw, #[.int .i64 (base : Nat), .int .i64 (n : Nat), fv, .int .u16 (av : Nat), .int .u16 (la : Nat), cv, (.slice (some ⟨mb, mo, none⟩) mn mc)]), (bc, #[.int .i64 (hd : Nat), .slice (some ⟨db, d0, none⟩) dn dc, .int .i64 (rm : Nat)])] L)) ?_
  simp only [List.length_cons, List.length_nil, Nat.zero_add, Any.someVals]
  iterate 10 apply Exists.intro
  repeat (first
    | (refine Any.E_off rfl ?_; simp only [Act.put, List.setIfInBounds_toArray, List.set_cons_succ, List.set_cons_zero])
    | (apply Any.E_pureq rfl rfl rfl
       case h => intro K hK; go_big_quiet_op; (refine hK _ ?_; rfl)
       case hr => exact fun _ => rfl
       simp only [Act.put, List.setIfInBounds_toArray, List.set_cons_succ, List.set_cons_zero])
    | (apply Any.E_val rfl rfl rfl rfl
       case h =>
         intro E' hA K hK
         first
           | ((with_reducible refine Any.at_qload (T := 3) ?_); refine Any.q_ldc 1003 hA (by decide) rfl rfl _ Tryz.underlying3 rfl (.int .i64 (rm : Nat)) rfl ?_; refine hK _ ?_; rfl)
           | ((with_reducible refine Any.at_qload (T := 3) ?_); refine Any.q_ldc 1001 hA (by decide) rfl rfl _ Tryz.underlying3 rfl (.int .i64 (ln : Nat)) rfl ?_; refine hK _ ?_; rfl)
           | (go_big_quiet_op; first
             | (refine hK _ ?_; rfl)
             | (refine ⟨_, fun _ _ => rfl, ?_⟩; refine hK _ ?_; rfl)
             | (apply Exists.intro; refine ⟨fun w1 hw1 => ?_, ?_⟩; · (first
                 | fail)
                refine hK _ ?_; rfl))
       case hD => rfl
       simp only [Act.put, List.setIfInBounds_toArray, List.set_cons_succ, List.set_cons_zero])
    | ((with_reducible refine Any.at_ealloc ?_); refine Any.E_lay rfl rfl rfl (fun _ => rfl) ?_; intro B; simp only [Act.put, List.setIfInBounds_toArray, List.set_cons_succ, List.set_cons_zero])
    | ((with_reducible refine Any.at_estore (T := 3) ?_); refine Any.E_putc (T := 3) rfl rfl rfl rfl rfl rfl (by kernel_rfl) rfl (by simp) ?_; simp only [Act.put, List.setIfInBounds_toArray, List.set_cons_succ, List.set_cons_zero]))
  try any_goals exact undef
  refine Any.E_nil ?_
  intro w9 hE9
  replace hv : Mem w0 w9 ([(b8, #[.int .u64 (p : Nat), .int .u32 (ln : Nat), .int .u16 2, .int .u16 0]), (b7, #[.int .i64 (p : Nat), .int .i64 (ln : Nat), .bool true]), (bw, #[.int .i64 (base : Nat), .int .i64 (n : Nat), fv, .int .u16 (av : Nat), .int .u16 (la : Nat), cv, (.slice (some ⟨mb, mo, none⟩) mn mc)]), (bc, #[.int .i64 (hd : Nat), .slice (some ⟨db, d0, none⟩) dn dc, .int .i64 (rm2 : Nat)])] ++ L) _ := hE9.memr hv [1000, 1001, 1002, 1003] (by decide)
  clear hE9
  simp only [List.cons_append, List.nil_append] at hv
  go_wp2
  try clear HPD
  have hv0 := hv
  clear hv
  have hv : Mem w0 _ ([(b8, #[.int .u64 (p : Nat), .int .u32 (ln : Nat), .int .u16 2, .int .u16 0]), (b7, #[.int .i64 (p : Nat), .int .i64 (ln : Nat), .bool true]), (bw, #[.int .i64 (base : Nat), .int .i64 (n : Nat), fv, .int .u16 (av : Nat), .int .u16 (la : Nat), cv, (.slice (some ⟨mb, mo, none⟩) mn mc)]), (bc, #[.int .i64 (hd : Nat), .slice (some ⟨db, d0, none⟩) dn dc, .int .i64 (rm2 : Nat)])] ++ L) _ := hv0
  clear hv0
  have HPD := Lib.hid (Any.rd_start (hv.keep (List.sublist_append_left [(b8, #[.int .u64 (p : Nat), .int .u32 (ln : Nat), .int .u16 2, .int .u16 0]), (b7, #[.int .i64 (p : Nat), .int .i64 (ln : Nat), .bool true]), (bw, #[.int .i64 (base : Nat), .int .i64 (n : Nat), fv, .int .u16 (av : Nat), .int .u16 (la : Nat), cv, (.slice (some ⟨mb, mo, none⟩) mn mc)]), (bc, #[.int .i64 (hd : Nat), .slice (some ⟨db, d0, none⟩) dn dc, .int .i64 (rm2 : Nat)])] L)) HDS.out)
  have hv0 := hv
  clear hv
  have hv : Mem w0 _ ([(b8, #[.int .u64 (p : Nat), .int .u32 (ln : Nat), .int .u16 2, .int .u16 0]), (b7, #[.int .i64 (p : Nat), .int .i64 (ln : Nat), .bool true]), (bw, #[.int .i64 (base : Nat), .int .i64 (n : Nat), fv, .int .u16 (av : Nat), .int .u16 (la : Nat), cv, (.slice (some ⟨mb, mo, none⟩) mn mc)]), (bc, #[.int .i64 (hd : Nat), .slice (some ⟨db, d0, none⟩) dn dc, .int .i64 (rm2 : Nat)])] ++ L) _ := hv0
  clear hv0
  refine Any.wp_region_cut1 23 [⟨[], none⟩, ⟨[], none⟩, ⟨[], none⟩, ⟨[], none⟩, ⟨[1002], none⟩, ⟨[], none⟩, ⟨[], none⟩, ⟨[], none⟩, ⟨[], none⟩, ⟨[1002], none⟩, ⟨[], none⟩, ⟨[], none⟩, ⟨[], none⟩, ⟨[], none⟩, ⟨[1002], none⟩, ⟨[], none⟩, ⟨[], none⟩, ⟨[], none⟩, ⟨[1003], none⟩, ⟨[], none⟩, ⟨[], none⟩, ⟨[], none⟩, ⟨[1000], none⟩, ⟨[], none⟩, ⟨[], none⟩, ⟨[], none⟩, ⟨[], none⟩, ⟨[], none⟩, ⟨[], none⟩, ⟨[], none⟩] [.val, .val, .val, .val, .val, .val, .val, .val, .val, .val, .val, .val, .val, .val, .val, .val, .val, .val, .val, .val, .val, .val, .val] (.pointer (some ⟨bw, 0, none⟩)) (by kernel_rfl) (by kernel_rfl) (hv.vars.keep (List.sublist_append_left [(b8, #[.int .u64 (p : Nat), .int .u32 (ln : Nat), .int .u16 2, .int .u16 0]), (b7, #[.int .i64 (p : Nat), .int .i64 (ln : Nat), .bool true]), (bw, #[.int .i64 (base : Nat), .int .i64 (n : Nat), fv, .int .u16 (av : Nat), .int .u16 (la : Nat), cv, (.slice (some ⟨mb, mo, none⟩) mn mc)]), (bc, #[.int .i64 (hd : Nat), .slice (some ⟨db, d0, none⟩) dn dc, .int .i64 (rm2 : Nat)])] L)) (fun _ _ _ h => h) (.inl ⟨rfl, fun _ => by rfl⟩) ?_
  simp only [Any.someVals, List.take_succ_cons, List.take_zero, List.drop_succ_cons, List.drop_zero, Nat.reduceSub]
  simp only [Act.put, List.setIfInBounds_toArray, List.set_cons_succ, List.set_cons_zero]
  iterate 23 apply Exists.intro
  repeat (first
    | (refine Any.E_off rfl ?_; simp only [Act.put, List.setIfInBounds_toArray, List.set_cons_succ, List.set_cons_zero])
    | (apply Any.E_pureq rfl rfl rfl
       case h => intro K hK; go_big_quiet_op; (refine hK _ ?_; rfl)
       case hr => exact fun _ => rfl
       simp only [Act.put, List.setIfInBounds_toArray, List.set_cons_succ, List.set_cons_zero])
    | (apply Any.E_val rfl rfl rfl rfl
       case h =>
         intro E' hA K hK
         first
           | ((with_reducible refine Any.at_qload (T := 28) ?_); refine Any.q_ldp 1002 hA (by decide) rfl rfl 1 _ Tryz.underlying28 rfl infoM (by decide) (show 6 + 1 ≤ 7 from by decide) #[(.slice (some ⟨mb, mo, none⟩) mn mc)] rfl ?_; refine hK _ ?_; rfl)
           | ((with_reducible refine Any.at_qload (T := 3) ?_); refine Any.q_ldc 1002 hA (by decide) rfl rfl _ Tryz.underlying3 rfl (.int .i64 (base : Nat)) rfl ?_; refine hK _ ?_; rfl)
           | ((with_reducible refine Any.at_qload (T := 3) ?_); refine Any.q_ldc 1002 hA (by decide) rfl rfl _ Tryz.underlying3 rfl (.int .i64 (n : Nat)) rfl ?_; refine hK _ ?_; rfl)
           | ((with_reducible refine Any.at_qload (T := 22) ?_); refine Any.q_ldc 1003 hA (by decide) rfl rfl _ Tryz.underlying22 rfl (.slice (some ⟨db, d0, none⟩) dn dc) rfl ?_; refine hK _ ?_; rfl)
           | ((with_reducible refine Any.at_qload (T := 3) ?_); refine Any.q_rd HPD.out (i) rfl _ Tryz.underlying3 rfl (.int .i64 (di : Nat)) HXI.out ?_; refine hK _ ?_; rfl)
           | ((with_reducible refine Any.at_qload (T := 164) ?_); refine Any.q_ldv 1000 hA (by decide) rfl rfl 4 _ Tryz.underlying164 rfl infoD (by decide) rfl ?_; refine hK _ ?_; rfl)
           | (go_big_quiet_op; first
             | (refine hK _ ?_; rfl)
             | (refine ⟨_, fun _ _ => rfl, ?_⟩; refine hK _ ?_; rfl)
             | (apply Exists.intro; refine ⟨fun w1 hw1 => ?_, ?_⟩; · (first
                 | fail)
                refine hK _ ?_; rfl))
       case hD => rfl
       simp only [Act.put, List.setIfInBounds_toArray, List.set_cons_succ, List.set_cons_zero])
    | ((with_reducible refine Any.at_ealloc ?_); refine Any.E_lay rfl rfl rfl (fun _ => rfl) ?_; intro B; simp only [Act.put, List.setIfInBounds_toArray, List.set_cons_succ, List.set_cons_zero])
    | ((with_reducible refine Any.at_estore (T := 28) ?_); refine Any.E_putp rfl rfl rfl rfl rfl rfl 1 infoM rfl (by show 6 + 1 ≤ 7; decide) (by simp [Value.oneCell']) (c' := #[.int .i64 (base : Nat), .int .i64 (n : Nat), fv, .int .u16 (av : Nat), .int .u16 (la : Nat), cv, (.slice (some ⟨vb, vo, none⟩) mn vc)]) (splice_w _ _ _ _ _ _ _ _) ?_; simp only [Act.put, List.setIfInBounds_toArray, List.set_cons_succ, List.set_cons_zero]))
  try any_goals exact undef
  refine Any.E_nil ?_
  intro w9 hE9
  replace hv : Mem w0 w9 ([(b8, #[.int .u64 (p : Nat), .int .u32 (ln : Nat), .int .u16 2, .int .u16 0]), (b7, #[.int .i64 (p : Nat), .int .i64 (ln : Nat), .bool true]), (bw, #[.int .i64 (base : Nat), .int .i64 (n : Nat), fv, .int .u16 (av : Nat), .int .u16 (la : Nat), cv, (.slice (some ⟨mb, mo, none⟩) mn mc)]), (bc, #[.int .i64 (hd : Nat), .slice (some ⟨db, d0, none⟩) dn dc, .int .i64 (rm2 : Nat)])] ++ L) _ := hE9.memr (L1 := [(b8, #[.int .u64 (p : Nat), .int .u32 (ln : Nat), .int .u16 2, .int .u16 0]), (b7, #[.int .i64 (p : Nat), .int .i64 (ln : Nat), .bool true]), (bw, #[.int .i64 (base : Nat), .int .i64 (n : Nat), fv, .int .u16 (av : Nat), .int .u16 (la : Nat), cv, (.slice (some ⟨mb, mo, none⟩) mn mc)]), (bc, #[.int .i64 (hd : Nat), .slice (some ⟨db, d0, none⟩) dn dc, .int .i64 (rm2 : Nat)])]) hv [1000, 1001, 1002, 1003] (by decide)
  clear hE9
  refine Any.wpOp_callv rfl rfl (Go.Proofs.enters_of Tryz.func91 (by kernel_rfl) rfl) rfl [(.agg #[(.slice (some ⟨mb, mo, none⟩) mn mc)]), .int .i64 (base : Nat), .int .i64 (n : Nat), .int .i64 (di : Nat), .agg #[.int .u64 (p : Nat), .int .u32 (ln : Nat), .int .u16 2, .int .u16 0]] rfl ?_
  refine (SetDesc_M (a := p) (l := ln) (f := 2) (x := 0) hv HM.out base n di HN.out HB.out HDN.out HA.out HL4.out HF.out HX.out).mono ?_
  rintro e w1 ⟨vb, vo, vc, R1, rfl, hv1, hi1, hs1⟩
  replace hv := hv1
  have HI1 := Lib.hid hi1
  have HS1 := Lib.hid hs1
  clear hv1 hi1 hs1
  refine ⟨_, rfl, ?_⟩
  have hv0 := hv
  clear hv
  have hv : Mem w0 _ ([(b8, #[.int .u64 (p : Nat), .int .u32 (ln : Nat), .int .u16 2, .int .u16 0]), (b7, #[.int .i64 (p : Nat), .int .i64 (ln : Nat), .bool true]), (bw, #[.int .i64 (base : Nat), .int .i64 (n : Nat), fv, .int .u16 (av : Nat), .int .u16 (la : Nat), cv, (.slice (some ⟨mb, mo, none⟩) mn mc)]), (bc, #[.int .i64 (hd : Nat), .slice (some ⟨db, d0, none⟩) dn dc, .int .i64 (rm2 : Nat)])] ++ L) _ := hv0
  clear hv0
  refine Any.wpAny_rest 24 [⟨[], none⟩, ⟨[], none⟩, ⟨[], none⟩, ⟨[], none⟩, ⟨[], none⟩, ⟨[1002], some 1002⟩] [.val, .val, .val, .val, .val, .put] (by kernel_rfl) (hv.vars.keep (List.sublist_append_left [(b8, #[.int .u64 (p : Nat), .int .u32 (ln : Nat), .int .u16 2, .int .u16 0]), (b7, #[.int .i64 (p : Nat), .int .i64 (ln : Nat), .bool true]), (bw, #[.int .i64 (base : Nat), .int .i64 (n : Nat), fv, .int .u16 (av : Nat), .int .u16 (la : Nat), cv, (.slice (some ⟨mb, mo, none⟩) mn mc)]), (bc, #[.int .i64 (hd : Nat), .slice (some ⟨db, d0, none⟩) dn dc, .int .i64 (rm2 : Nat)])] L)) ?_
  simp only [List.length_cons, List.length_nil, Nat.zero_add, Nat.reduceAdd, Nat.reduceSub, Any.someVals, List.drop_succ_cons, List.drop_zero]
  simp only [Act.put, List.setIfInBounds_toArray, List.set_cons_succ, List.set_cons_zero]
  iterate 6 apply Exists.intro
  repeat (first
    | (refine Any.E_off rfl ?_; simp only [Act.put, List.setIfInBounds_toArray, List.set_cons_succ, List.set_cons_zero])
    | (apply Any.E_pureq rfl rfl rfl
       case h => intro K hK; go_big_quiet_op; (refine hK _ ?_; rfl)
       case hr => exact fun _ => rfl
       simp only [Act.put, List.setIfInBounds_toArray, List.set_cons_succ, List.set_cons_zero])
    | (apply Any.E_val rfl rfl rfl rfl
       case h =>
         intro E' hA K hK
         first
           | ((with_reducible refine Any.at_qload (T := 28) ?_); refine Any.q_ldp 1002 hA (by decide) rfl rfl 1 _ Tryz.underlying28 rfl infoM (by decide) (show 6 + 1 ≤ 7 from by decide) #[(.slice (some ⟨mb, mo, none⟩) mn mc)] rfl ?_; refine hK _ ?_; rfl)
           | ((with_reducible refine Any.at_qload (T := 3) ?_); refine Any.q_ldc 1002 hA (by decide) rfl rfl _ Tryz.underlying3 rfl (.int .i64 (base : Nat)) rfl ?_; refine hK _ ?_; rfl)
           | ((with_reducible refine Any.at_qload (T := 3) ?_); refine Any.q_ldc 1002 hA (by decide) rfl rfl _ Tryz.underlying3 rfl (.int .i64 (n : Nat)) rfl ?_; refine hK _ ?_; rfl)
           | ((with_reducible refine Any.at_qload (T := 22) ?_); refine Any.q_ldc 1003 hA (by decide) rfl rfl _ Tryz.underlying22 rfl (.slice (some ⟨db, d0, none⟩) dn dc) rfl ?_; refine hK _ ?_; rfl)
           | ((with_reducible refine Any.at_qload (T := 3) ?_); refine Any.q_rd HPD.out (i) rfl _ Tryz.underlying3 rfl (.int .i64 (di : Nat)) HXI.out ?_; refine hK _ ?_; rfl)
           | ((with_reducible refine Any.at_qload (T := 164) ?_); refine Any.q_ldv 1000 hA (by decide) rfl rfl 4 _ Tryz.underlying164 rfl infoD (by decide) rfl ?_; refine hK _ ?_; rfl)
           | (go_big_quiet_op; first
             | (refine hK _ ?_; rfl)
             | (refine ⟨_, fun _ _ => rfl, ?_⟩; refine hK _ ?_; rfl)
             | (apply Exists.intro; refine ⟨fun w1 hw1 => ?_, ?_⟩; · (first
                 | fail)
                refine hK _ ?_; rfl))
       case hD => rfl
       simp only [Act.put, List.setIfInBounds_toArray, List.set_cons_succ, List.set_cons_zero])
    | ((with_reducible refine Any.at_ealloc ?_); refine Any.E_lay rfl rfl rfl (fun _ => rfl) ?_; intro B; simp only [Act.put, List.setIfInBounds_toArray, List.set_cons_succ, List.set_cons_zero])
    | ((with_reducible refine Any.at_estore (T := 28) ?_); refine Any.E_putp rfl rfl rfl rfl rfl rfl 1 infoM rfl (by show 6 + 1 ≤ 7; decide) (by simp [Value.oneCell']) (c' := #[.int .i64 (base : Nat), .int .i64 (n : Nat), fv, .int .u16 (av : Nat), .int .u16 (la : Nat), cv, (.slice (some ⟨vb, vo, none⟩) mn vc)]) (splice_w _ _ _ _ _ _ _ _) ?_; simp only [Act.put, List.setIfInBounds_toArray, List.set_cons_succ, List.set_cons_zero]))
  try any_goals exact undef
  refine Any.E_nil ?_
  intro w9 hE9
  replace hv : Mem w0 w9 ([(b8, #[.int .u64 (p : Nat), .int .u32 (ln : Nat), .int .u16 2, .int .u16 0]), (b7, #[.int .i64 (p : Nat), .int .i64 (ln : Nat), .bool true]), (bw, #[.int .i64 (base : Nat), .int .i64 (n : Nat), fv, .int .u16 (av : Nat), .int .u16 (la : Nat), cv, (.slice (some ⟨vb, vo, none⟩) mn vc)]), (bc, #[.int .i64 (hd : Nat), .slice (some ⟨db, d0, none⟩) dn dc, .int .i64 (rm2 : Nat)])] ++ L) _ := hE9.memr0 (L1 := [(b8, #[.int .u64 (p : Nat), .int .u32 (ln : Nat), .int .u16 2, .int .u16 0]), (b7, #[.int .i64 (p : Nat), .int .i64 (ln : Nat), .bool true]), (bw, #[.int .i64 (base : Nat), .int .i64 (n : Nat), fv, .int .u16 (av : Nat), .int .u16 (la : Nat), cv, (.slice (some ⟨mb, mo, none⟩) mn mc)]), (bc, #[.int .i64 (hd : Nat), .slice (some ⟨db, d0, none⟩) dn dc, .int .i64 (rm2 : Nat)])]) hv [1000, 1001, 1002, 1003] (by decide)
  clear hE9
  simp only [List.cons_append, List.nil_append] at hv
  go_end0
  exact ⟨rfl, vb, vo, vc, R1, by rw [HRW.out]; exact hv.drop.drop, HI1.out, HS1.out⟩
end Go.Proofs.YtcelehhaggoijaaGreat
