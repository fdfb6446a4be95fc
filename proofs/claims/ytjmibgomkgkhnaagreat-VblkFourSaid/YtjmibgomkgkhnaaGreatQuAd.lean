import Derived.Test.YtjmibgomkgkhnaaGreatQuCk
import Derived.Test.YtjmibgomkgkhnaaGreatQuNx
import Derived.Test.YtjmibgomkgkhnaaGreatCut1
set_option linter.unusedSimpArgs false
set_option linter.unusedVariables false
set_option maxRecDepth 100000
set_option maxHeartbeats 16000000
section
/-
 What a driver hands over: right, parts that lie within memory, a part laid.
-/
namespace Go.Proofs.Qu
open Go Go.RowKit Go.Proofs.Nm
theorem splice_w (a b c d e f g v : Value) : splice #[a, b, c, d, e, f, g] 6 #[v] = #[a, b, c, d, e, f, v] := by simp [splice]
theorem part_cells (l : List Pt) {k : Nat} (hk : k < l.length) : ((cellsPt l).drop (k * 3)).take 3 = [.int .i64 ((l[k]'hk).1 : Nat), .int .i64 ((l[k]'hk).2.1 : Nat), .bool (l[k]'hk).2.2] := part_flat (k := 3) (en := encP) (fun _ => rfl) l k hk
theorem wrapU64 {n : Nat} (h : n < 18446744073709551616) : IntKind.u64.wrap (n : Int) = (n : Int) := by
 have e : IntKind.u64.wrap (n : Int) = (n : Int) % 18446744073709551616 := rfl
 rw [e]; omega
end Go.Proofs.Qu
namespace Go.Proofs.YtjmibgomkgkhnaaGreat
open Go.Proofs.Qu Go.Proofs.Nm Go.RowKit Go.Proofs
theorem QRight_ok {w0 w : World} {L : List (Nat × Array Value)} {R : List (Nat × Value × List Value)} {mb mo mn mc : Nat} {M : List Nat} (hv : Mem w0 w L R) (hm : InM R mb mo mn mc M) {base n av la : Nat} {fv cv : Value} {free : List Nat} {chs : List Chn} (hq : InQ R fv cv free chs) (hok : OkQ n free chs) (hb : base + sizeN n ≤ mn) :
   Calls Tryz.prog 61 #[(.agg #[(.slice (some ⟨mb, mo, none⟩) mn mc)]), .agg #[.int .i64 base, .int .i64 n, fv, .int .u16 av, .int .u16 la, cv]] w fun e w' => e = .returned (.bool true) ∧ New w w' := by
 have hv0 := hv
 clear hv
 have hv : Mem w w [] R := ⟨Vars.nil w, fun x hx => ⟨(hv0.rds x hx).1, fun _ _ _ _ _ _ p hp => (List.not_mem_nil hp).elim⟩⟩
 obtain ⟨fa, fn, fc, rfl, _⟩ := id (hv.rd hq.fr)
 obtain ⟨ca, cn, cc, rfl, _⟩ := id (hv.rd hq.ch)
 have HQ := Lib.hid hq
 have HOK := Lib.hid hok
 have HB := Lib.hid hb
 have HM8 : Hid (mn ≤ 8192) := Lib.hid hm.most
 clear hv0 hq hok hb hm
 go_enter Tryz.func61, Tryz.ntmps61
 go_wp2_with (first
   | ((with_reducible refine at_box (T := 26) (dst := some 2) ?_); refine wl_newb rfl #[(.slice (some ⟨mb, mo, none⟩) mn mc)] 26 (fun _ => rfl) ?_; intro b2 w2 hm2; replace hv := hv.madeAt hm2; clear hm2)
   | ((with_reducible refine at_box (T := 30) (dst := some 3) ?_); refine wl_newb rfl #[.int .i64 base, .int .i64 n, .slice fa fn fc, .int .u16 av, .int .u16 la, .slice ca cn cc] 30 (fun _ => rfl) ?_; intro b3 w2 hm2; replace hv := hv.madeAt hm2; clear hm2)
   | ((with_reducible refine at_load (T := 30) ?_); refine wl_ldv rfl b3 rfl _ hv.vars.ro 6 _ Tryz.underlying30 rfl infoQ (by decide) rfl ?_)
   | (go_at_call 50; (with_reducible refine (QCheck_ok hv HQ.out HOK.out).mono ?_); rintro e w1 ⟨rfl, hn1⟩; replace hv := hv.new hn1; clear hn1)
   | ((with_reducible refine at_load (T := 26) ?_); refine wl_ldv rfl b2 rfl _ hv.vars.ro 1 _ Tryz.underlying26 rfl infoM (by decide) rfl ?_)
   | ((with_reducible refine at_load (T := 3) ?_); refine wl_ldc rfl b3 0 rfl _ hv.vars.ro _ Tryz.underlying3 rfl (.int .i64 base) rfl ?_)
   | ((with_reducible refine at_load (T := 3) ?_); refine wl_ldc rfl b3 1 rfl _ hv.vars.ro _ Tryz.underlying3 rfl (.int .i64 n) rfl ?_)
   | (go_at_call 53; (with_reducible refine (RingCheck_ok _ _ _ _ _ _ HOK.out.sz HB.out HM8.out _).mono ?_); rintro e w1 ⟨rfl, hn1⟩; replace hv := hv.new hn1; clear hn1))
 go_ret
 exact ⟨rfl, hv.below⟩
theorem Add1_ok {mb mo mn mc : Nat} {M : List Nat} (hm : OkM mn M) {bm : Nat} (p ln : Nat) (wr : Bool) (h1 : 0 < ln) (h : p + ln ≤ mn) (w : World) (hrow : w.rowD bm = #[(.slice (some ⟨mb, mo, none⟩) mn mc)]) (hlt : bm < w.heap.size) (hr : Rd w 1 (.slice (some ⟨mb, mo, none⟩) mn mc) (cellsB M)) :
   Calls Tryz.prog 68 #[.agg #[.int .i64 p, .int .i64 ln, .bool wr], .pointer (some ⟨bm, 0, none⟩)] w fun e w' => e = .returned (.bool false) ∧ New w w' := by
 have hv0 := (Mem.nil w).old hr
 have hv : Mem w w [] [(1, (.slice (some ⟨mb, mo, none⟩) mn mc), cellsB M)] := hv0
 have HM : Hid (InM [(1, (.slice (some ⟨mb, mo, none⟩) mn mc), cellsB M)] mb mo mn mc M) := Lib.hid ⟨Mem.z, hm.len, hm.pos, hm.most, hm.good⟩
 clear hv0 hr
 have HROW := Lib.hid hrow
 have HLT := Lib.hid hlt
 have H1 := Lib.hid h1
 have HH := Lib.hid h
 clear h1 h hrow hlt hm
 go_enter Tryz.func68, Tryz.ntmps68
 go_wp2_with (first
   | ((with_reducible refine at_box (T := 91) (dst := some 2) ?_); refine wl_newb rfl #[.int .i64 p, .int .i64 ln, .bool wr] 91 (fun _ => rfl) ?_; intro b2 w2 hm2; replace hv := hv.madeAt hm2; clear hm2)
   | ((with_reducible refine at_load (T := 26) ?_); refine wl_ldv rfl bm rfl _ ((New.row hv.below HLT.out).trans HROW.out) 1 _ Tryz.underlying26 rfl infoM (by decide) rfl ?_)
   | ((with_reducible refine at_load (T := 91) ?_); refine wl_ldv rfl b2 rfl _ hv.vars.ro 3 _ Tryz.underlying91 rfl infoB3 (by decide) rfl ?_)
   | (go_at_call 69; (with_reducible refine (lies_w HM.out.ok p ln wr H1.out HH.out _ (hv.rd HM.out.rd)).mono ?_); rintro e w1 ⟨rfl, hn1⟩; replace hv := hv.new hn1; clear hn1))
 go_ret
 exact ⟨rfl, hv.below⟩
theorem IndexB_no {v : Value} {l : List Pt} (hl100 : l.length ≤ 100000) {f : FuncId} {cap : Array Value} (hE : Enters Tryz.prog f) (w : World) (hr : Rd w 3 v (cellsPt l)) (hdo : ∀ p ∈ l, ∀ w1, New w w1 → Calls Tryz.prog f (#[.agg #[.int .i64 (p.1 : Nat), .int .i64 (p.2.1 : Nat), .bool p.2.2]] ++ cap) w1 fun e w' => e = .returned (.bool false) ∧ New w1 w') :
   Calls Tryz.prog 104 #[v, .func (.func f) #[] cap] w fun e w' => e = .returned (.int .i64 (-1)) ∧ New w w' := by
 have hv := (Mem.nil w).old hr
 obtain ⟨aa, an, ac, rfl, _⟩ := id hr
 have HL : Hid ((3, Value.slice aa an ac, cellsPt l) ∈ [(3, Value.slice aa an ac, cellsPt l)]) := Lib.hid Mem.z
 have HE := Lib.hid hE
 have HDO := Lib.hid hdo
 have hln : l.length = an := len_rdPt hr
 have HLN := Lib.hid hln
 have HAB : Hid (an ≤ 100000) := Lib.hid (by omega)
 clear hl100 hE hdo hr hln
 go_enter Tryz.func104, Tryz.ntmps104
 go_wp2
 go_loopw [8] (fun kv wr => ∃ k : Nat, k ≤ an ∧ kv = .int .i64 k ∧ Mem w wr [] [(3, Value.slice aa an ac, cellsPt l)]) (fun kv _ => an - (intOf kv).toNat)
 case atStart => exact ⟨0, Nat.zero_le _, rfl, hv⟩
 case round =>
   clear hv
   obtain ⟨k, hk0, rfl, hv⟩ := hrel
   by_cases hk : k < an
   · have hki : (k : Int) < (an : Int) := by omega
     have hkb : (k : Int) ≤ 100000 := by have := HAB.out; omega
     have hkl : k < l.length := by rw [HLN.out]; exact hk
     obtain ⟨⟨p, ln, wr⟩, hc⟩ : ∃ c, l[k] = c := ⟨_, rfl⟩
     have HKC : Hid (((cellsPt l).drop (k * 3)).take 3 = [.int .i64 p, .int .i64 ln, .bool wr]) := Lib.hid (by
       have := part_cells l hkl
       rw [hc] at this; exact this)
     have HP : Hid (∀ w1, New w w1 → Calls Tryz.prog f (#[.agg #[.int .i64 p, .int .i64 ln, .bool wr]] ++ cap) w1 fun e w' => e = .returned (.bool false) ∧ New w1 w') := Lib.hid (fun w1 hn => by
       have := HDO.out l[k] (List.getElem_mem _) w1 hn
       rw [hc] at this; exact this)
     obtain ⟨xb, xo, _, _, e, hq⟩ := (hv.rd HL.out).some (by rw [cellsPt_len]; omega)
     clear hq
     cases e
     have HKN := Lib.hid hk
     clear hkl hc hk0 hk
     go_wp2_with (first
       | ((with_reducible refine at_load (T := 91) ?_); refine wl_rdv rfl (hv.rd HL.out) (k * 3) rfl 3 _ Tryz.underlying91 rfl infoB3 (by decide) #[.int .i64 p, .int .i64 ln, .bool wr] HKC.out rfl ?_)
       | ((with_reducible refine at_call ?_); refine wl_callv rfl HE.out rfl [.agg #[.int .i64 p, .int .i64 ln, .bool wr]] rfl (HP.out _ hv.below) ?_; rintro e w1 ⟨rfl, hn1⟩; refine ⟨_, rfl, ?_⟩; replace hv := hv.new hn1; clear hn1))
     have hkn := HKN.out
     go_roundw
     case rel => exact ⟨k + 1, by omega, by go_num, hv⟩
     case measure => simp [intOf]; omega
   · have hki : ¬ (k : Int) < (an : Int) := by omega
     clear hk hk0
     go_wp2
     go_ret
     exact ⟨rfl, hv.below⟩
theorem Contains_no {v : Value} {l : List Pt} (hl100 : l.length ≤ 100000) {f : FuncId} {cap : Array Value} (hE : Enters Tryz.prog f) (w : World) (hr : Rd w 3 v (cellsPt l)) (hdo : ∀ p ∈ l, ∀ w1, New w w1 → Calls Tryz.prog f (#[.agg #[.int .i64 (p.1 : Nat), .int .i64 (p.2.1 : Nat), .bool p.2.2]] ++ cap) w1 fun e w' => e = .returned (.bool false) ∧ New w1 w') :
   Calls Tryz.prog 67 #[v, .func (.func f) #[] cap] w fun e w' => e = .returned (.bool false) ∧ New w w' := by
 have hv := Mem.nil w
 have HX := Lib.hid (IndexB_no hl100 hE w hr hdo)
 clear hl100 hE hdo hr
 go_enter Tryz.func67, Tryz.ntmps67
 go_wp2_with (first
   | (go_at_call 104; (with_reducible refine (HX.out).mono ?_); rintro e w1 ⟨rfl, hn1⟩; replace hv := hv.new hn1; clear hn1))
 go_ret
 exact ⟨rfl, hv.below⟩
theorem built_d (p ln : Nat) : Tryz.prog.built 137 [(0, .int .u64 p), (1, .int .u32 ln)] = some #[.int .u64 p, .int .u32 ln, .int .u16 0, .int .u16 0] := by kernel_rfl
theorem lay_00 {w0 w : World} {L : List (Nat × Array Value)} {R : List (Nat × Value × List Value)} {mb mo mn mc : Nat} {M : List Nat} {bw bc base n av la hd db d0 dn dc rm : Nat} {fv cv : Value} {ds : List Nat} (hv : Mem w0 w ((bw, #[.int .i64 base, .int .i64 n, fv, .int .u16 av, .int .u16 la, cv, (.slice (some ⟨mb, mo, none⟩) mn mc)]) :: (bc, #[.int .i64 hd, .slice (some ⟨db, d0, none⟩) dn dc, .int .i64 rm]) :: L) R) (hm : InM R mb mo mn mc M) (hn : okN n) (hb : base + sizeN n ≤ mn) (hds : (1, .slice (some ⟨db, d0, none⟩) dn dc, intsI ds) ∈ R) (i p ln : Nat) (hln : ln < 1000000) (hp : p < 1000000) {di : Nat} (hdi : ds[i]? = some di) (hdn : di < n) (hdl : ds.length ≤ 16) (hrm : rm ≤ 100000000) {nx : Nat} (hnx : ds[i + 1]? = some nx) (hnxn : nx < n) :
   Calls Tryz.prog 71 #[.pointer (some ⟨bw, 0, none⟩), .pointer (some ⟨bc, 0, none⟩), .int .i64 i, .agg #[.int .i64 p, .int .i64 ln, .bool false]] w fun e w' => e = .returned (.tuple #[]) ∧ ∃ vb vo vc R', Mem w0 w' ((bw, #[.int .i64 base, .int .i64 n, fv, .int .u16 av, .int .u16 la, cv, (.slice (some ⟨vb, vo, none⟩) mn vc)]) :: (bc, #[.int .i64 hd, .slice (some ⟨db, d0, none⟩) dn dc, .int .i64 rm]) :: L) R' ∧ InM R' vb vo mn vc (setD M (base + 16 * di) p ln 1 nx) ∧ ∀ x ∈ R, x ∈ R' := by
 have HM := Lib.hid hm
 have HN := Lib.hid hn
 have HB := Lib.hid hb
 have HDS := Lib.hid hds
 have hdnn : ds.length = dn := by
   obtain ⟨_, _, _, e, g, _⟩ := hv.rd hds
   cases e
   rw [intsI_len] at g; omega
 have hle := hn.le
 have HDN := Lib.hid hdn
 have hil : i < ds.length := (List.getElem?_eq_some_iff.1 hdi).1
 have HXI : Hid ((intsI ds)[i]? = some (.int .i64 di)) := Lib.hid (by unfold intsI; rw [List.getElem?_map, hdi]; rfl)
 have HA : Hid (p < 18446744073709551616) := Lib.hid (by omega)
 have HL4 : Hid (ln < 4294967296) := Lib.hid (by omega)
 have HF : Hid ((1 : Nat) < 65536) := Lib.hid (by decide)
 have q1 : IntKind.u64.wrap (p : Int) = (p : Int) := wrapU64 (by omega)
 have q2 : IntKind.u32.wrap (ln : Int) = (ln : Int) := wrap32 (by omega)
 have q3 : IntKind.i64.wrap ((i : Int) + 1) = (i : Int) + 1 := IntWalk.i64_in _ (by omega)
 have hil1 : i + 1 < ds.length := (List.getElem?_eq_some_iff.1 hnx).1
 have HX : Hid (nx < 65536) := Lib.hid (by omega)
 have HXN : Hid ((intsI ds)[i + 1]? = some (.int .i64 nx)) := Lib.hid (by unfold intsI; rw [List.getElem?_map, hnx]; rfl)
 have q4 : IntKind.u16.wrap (nx : Int) = (nx : Int) := wrap16 (by omega)
 have y1 : decide ((i : Int) + 1 < (dn : Int)) = true := decide_eq_true (by omega)
 have y2 : (i : Int) + 1 < (dn : Int) := by omega
 clear hm hn hb hds hln hp hdi hdn hdl hrm hnx hnxn hil1  hdnn hle hil
 go_enter Tryz.func71, Tryz.ntmps71
 go_wp2_with (first
   | ((with_reducible refine at_box (T := 91) (dst := some 7) ?_); refine wl_newb rfl #[.int .i64 p, .int .i64 ln, .bool false] 91 (fun _ => rfl) ?_; intro b7 w2 hm2; replace hv := hv.madeAt hm2; clear hm2)
   | ((with_reducible refine at_load (T := 3) ?_); refine wl_ldc rfl b7 0 rfl _ hv.vars.ro _ Tryz.underlying3 rfl (.int .i64 p) rfl ?_)
   | ((with_reducible refine at_load (T := 3) ?_); refine wl_ldc rfl b7 1 rfl _ hv.vars.ro _ Tryz.underlying3 rfl (.int .i64 ln) rfl ?_)
   | ((with_reducible refine at_build ?_); refine wl_build rfl [(0, .int .u64 p), (1, .int .u32 ln)] rfl (built_d _ _) ?_)
   | ((with_reducible refine at_alloc (T := 137) (dst := some 8) ?_); refine wl_newb rfl #[.int .u64 0, .int .u32 0, .int .u16 0, .int .u16 0] 137 (fun _ => rfl) ?_; intro b8 w2 hm2; replace hv := hv.madeAt hm2; clear hm2)
   | ((with_reducible refine at_store (T := 137) ?_); refine wl_stv rfl b8 rfl _ rfl _ hv.vars.ro hv.vars.so 4 infoD rfl rfl (by simp [Value.oneCell']) ?_; intro w2 hw2; replace hv := hv.sets (by repeat first | exact .z | apply SetM.s) hw2; clear hw2)
   | ((with_reducible refine at_load (T := 22) ?_); refine wl_ldc rfl bc 1 rfl _ hv.vars.ro _ Tryz.underlying22 rfl (.slice (some ⟨db, d0, none⟩) dn dc) rfl ?_))
 replace hv : Mem w0 _ ([(b8, _), (b7, _), (bw, _), (bc, _)] ++ L) _ := hv
 have HPD := Lib.hid (Any.rd_start (hv.keep (List.sublist_append_left [(b8, #[.int .u64 p, .int .u32 ln, .int .u16 0, .int .u16 0]), (b7, #[.int .i64 p, .int .i64 ln, .bool false]), (bw, #[.int .i64 base, .int .i64 n, fv, .int .u16 av, .int .u16 la, cv, (.slice (some ⟨mb, mo, none⟩) mn mc)]), (bc, #[.int .i64 hd, .slice (some ⟨db, d0, none⟩) dn dc, .int .i64 rm])] L)) HDS.out)
 refine Any.wp_region_walk [⟨[], none⟩, ⟨[], none⟩, ⟨[], none⟩, ⟨[1003], none⟩, ⟨[], none⟩, ⟨[], none⟩, ⟨[], none⟩, ⟨[], none⟩, ⟨[], none⟩, ⟨[], none⟩, ⟨[1000], some 1000⟩, ⟨[], none⟩, ⟨[1000], some 1000⟩] [.val, .val, .val, .val, .val, .val, .val, .val, .val, .val, .put, .val, .put] (by kernel_rfl) (by kernel_rfl) (hv.vars.keep (List.sublist_append_left [(b8, #[.int .u64 p, .int .u32 ln, .int .u16 0, .int .u16 0]), (b7, #[.int .i64 p, .int .i64 ln, .bool false]), (bw, #[.int .i64 base, .int .i64 n, fv, .int .u16 av, .int .u16 la, cv, (.slice (some ⟨mb, mo, none⟩) mn mc)]), (bc, #[.int .i64 hd, .slice (some ⟨db, d0, none⟩) dn dc, .int .i64 rm])] L)) ?_
 simp only [List.length_cons, List.length_nil, Nat.zero_add, Any.someVals]
 iterate 13 apply Exists.intro
 repeat (first
   | (refine Any.E_off rfl ?_; simp only [Act.put, sia, scs, scz])
   | (apply Any.E_pureq rfl rfl rfl
      case h => intro K hK; go_big_quiet_op; (refine hK _ ?_; rfl)
      case hr => exact fun _ => rfl
      simp only [Act.put, sia, scs, scz])
   | (apply Any.E_val rfl rfl rfl rfl
      case h =>
        intro E' hA K hK
        first
          | ((with_reducible refine Any.at_qload (T := 22) ?_); refine Any.q_ldc 1003 hA (by decide) rfl rfl _ Tryz.underlying22 rfl (.slice (some ⟨db, d0, none⟩) dn dc) rfl ?_; refine hK _ ?_; rfl)
          | ((with_reducible refine Any.at_qload (T := 3) ?_); refine Any.q_rd HPD.out (i + 1) rfl _ Tryz.underlying3 rfl (.int .i64 nx) HXN.out ?_; refine hK _ ?_; rfl)
          | (go_big_quiet_op; first
            | (refine hK _ ?_; rfl)
            | (refine ⟨_, fun _ _ => rfl, ?_⟩; refine hK _ ?_; rfl)
            | (apply Exists.intro; refine ⟨fun w1 hw1 => ?_, ?_⟩; · (first
                | fail)
               refine hK _ ?_; rfl))
      case hD => rfl
      simp only [Act.put, sia, scs, scz])
   | ((with_reducible refine Any.at_ealloc ?_); refine Any.E_lay rfl rfl rfl (fun _ => rfl) ?_; intro B; simp only [Act.put, sia, scs, scz])
   | ((with_reducible refine Any.at_estore (T := 27) ?_); refine Any.E_putc (T := 27) rfl rfl rfl rfl rfl rfl (by kernel_rfl) rfl (by simp) ?_; simp only [Act.put, sia, scs, scz]))
 try any_goals exact undef
 refine Any.E_nil ?_
 intro w9 hE9
 replace hv : Mem w0 w9 ([(b8, #[.int .u64 p, .int .u32 ln, .int .u16 1, .int .u16 nx]), (b7, #[.int .i64 p, .int .i64 ln, .bool false]), (bw, #[.int .i64 base, .int .i64 n, fv, .int .u16 av, .int .u16 la, cv, (.slice (some ⟨mb, mo, none⟩) mn mc)]), (bc, #[.int .i64 hd, .slice (some ⟨db, d0, none⟩) dn dc, .int .i64 rm])] ++ L) _ := hE9.memr hv [1000, 1001, 1002, 1003] (by decide)
 clear hE9
 simp only [List.cons_append, List.nil_append] at hv
 go_wp2_with (first
   | ((with_reducible refine at_load (T := 4) ?_); refine wl_ldc rfl b7 2 rfl _ hv.vars.ro _ Tryz.underlying4 rfl (.bool false) rfl ?_)
   | ((with_reducible refine at_load (T := 27) ?_); refine wl_ldc rfl b8 2 rfl _ hv.vars.ro _ Tryz.underlying27 rfl (.int .u16 1) rfl ?_)
   | ((with_reducible refine at_store (T := 27) ?_); refine wl_stc rfl b8 2 rfl (.int .u16 1) rfl _ hv.vars.ro hv.vars.so (by kernel_rfl) rfl (by show 2 < 4; decide) ?_; intro w2 hw2; replace hv := hv.sets (by repeat first | exact .z | apply SetM.s) hw2; clear hw2))
 try clear HPD
 replace hv : Mem w0 _ ([(b8, _), (b7, _), (bw, _), (bc, _)] ++ L) _ := hv
 have HPD := Lib.hid (Any.rd_start (hv.keep (List.sublist_append_left [(b8, #[.int .u64 p, .int .u32 ln, .int .u16 1, .int .u16 nx]), (b7, #[.int .i64 p, .int .i64 ln, .bool false]), (bw, #[.int .i64 base, .int .i64 n, fv, .int .u16 av, .int .u16 la, cv, (.slice (some ⟨mb, mo, none⟩) mn mc)]), (bc, #[.int .i64 hd, .slice (some ⟨db, d0, none⟩) dn dc, .int .i64 rm])] L)) HDS.out)
 replace hv : Mem w0 _ ([(b8, _), (b7, _), (bw, _), (bc, _)] ++ L) _ := hv
 refine Any.wp_region_cut1 23 [⟨[], none⟩, ⟨[], none⟩, ⟨[], none⟩, ⟨[], none⟩, ⟨[1002], none⟩, ⟨[], none⟩, ⟨[], none⟩, ⟨[], none⟩, ⟨[], none⟩, ⟨[1002], none⟩, ⟨[], none⟩, ⟨[], none⟩, ⟨[], none⟩, ⟨[], none⟩, ⟨[1002], none⟩, ⟨[], none⟩, ⟨[], none⟩, ⟨[], none⟩, ⟨[1003], none⟩, ⟨[], none⟩, ⟨[], none⟩, ⟨[], none⟩, ⟨[1000], none⟩, ⟨[], none⟩, ⟨[], none⟩, ⟨[], none⟩, ⟨[], none⟩, ⟨[], none⟩, ⟨[], none⟩, ⟨[], none⟩] [.val, .val, .val, .val, .val, .val, .val, .val, .val, .val, .val, .val, .val, .val, .val, .val, .val, .val, .val, .val, .val, .val, .val] (.pointer (some ⟨bw, 0, none⟩)) (by kernel_rfl) (by kernel_rfl) (hv.vars.keep (List.sublist_append_left [(b8, #[.int .u64 p, .int .u32 ln, .int .u16 1, .int .u16 nx]), (b7, #[.int .i64 p, .int .i64 ln, .bool false]), (bw, #[.int .i64 base, .int .i64 n, fv, .int .u16 av, .int .u16 la, cv, (.slice (some ⟨mb, mo, none⟩) mn mc)]), (bc, #[.int .i64 hd, .slice (some ⟨db, d0, none⟩) dn dc, .int .i64 rm])] L)) (fun _ _ _ h => h) (.inl ⟨rfl, fun _ => by rfl⟩) ?_
 simp only [Any.someVals, List.take_succ_cons, List.take_zero, List.drop_succ_cons, List.drop_zero, Nat.reduceSub]
 simp only [Act.put, sia, scs, scz]
 iterate 23 apply Exists.intro
 repeat (first
   | (refine Any.E_off rfl ?_; simp only [Act.put, sia, scs, scz])
   | (apply Any.E_pureq rfl rfl rfl
      case h => intro K hK; go_big_quiet_op; (refine hK _ ?_; rfl)
      case hr => exact fun _ => rfl
      simp only [Act.put, sia, scs, scz])
   | (apply Any.E_val rfl rfl rfl rfl
      case h =>
        intro E' hA K hK
        first
          | ((with_reducible refine Any.at_qload (T := 26) ?_); refine Any.q_ldp 1002 hA (by decide) rfl rfl 1 _ Tryz.underlying26 rfl infoM (by decide) (show 6 + 1 ≤ 7 from by decide) #[(.slice (some ⟨mb, mo, none⟩) mn mc)] rfl ?_; refine hK _ ?_; rfl)
          | ((with_reducible refine Any.at_qload (T := 3) ?_); refine Any.q_ldc 1002 hA (by decide) rfl rfl _ Tryz.underlying3 rfl (.int .i64 base) rfl ?_; refine hK _ ?_; rfl)
          | ((with_reducible refine Any.at_qload (T := 3) ?_); refine Any.q_ldc 1002 hA (by decide) rfl rfl _ Tryz.underlying3 rfl (.int .i64 n) rfl ?_; refine hK _ ?_; rfl)
          | ((with_reducible refine Any.at_qload (T := 22) ?_); refine Any.q_ldc 1003 hA (by decide) rfl rfl _ Tryz.underlying22 rfl (.slice (some ⟨db, d0, none⟩) dn dc) rfl ?_; refine hK _ ?_; rfl)
          | ((with_reducible refine Any.at_qload (T := 3) ?_); refine Any.q_rd HPD.out (i) rfl _ Tryz.underlying3 rfl (.int .i64 di) HXI.out ?_; refine hK _ ?_; rfl)
          | ((with_reducible refine Any.at_qload (T := 137) ?_); refine Any.q_ldv 1000 hA (by decide) rfl rfl 4 _ Tryz.underlying137 rfl infoD (by decide) rfl ?_; refine hK _ ?_; rfl)
          | (go_big_quiet_op; first
            | (refine hK _ ?_; rfl)
            | (refine ⟨_, fun _ _ => rfl, ?_⟩; refine hK _ ?_; rfl)
            | (apply Exists.intro; refine ⟨fun w1 hw1 => ?_, ?_⟩; · (first
                | fail)
               refine hK _ ?_; rfl))
      case hD => rfl
      simp only [Act.put, sia, scs, scz])
   | ((with_reducible refine Any.at_ealloc ?_); refine Any.E_lay rfl rfl rfl (fun _ => rfl) ?_; intro B; simp only [Act.put, sia, scs, scz])
   | ((with_reducible refine Any.at_estore (T := 26) ?_); refine Any.E_putp rfl rfl rfl rfl rfl rfl 1 infoM rfl (by show 6 + 1 ≤ 7; decide) (by simp [Value.oneCell']) (c' := #[.int .i64 base, .int .i64 n, fv, .int .u16 av, .int .u16 la, cv, (.slice (some ⟨vb, vo, none⟩) mn vc)]) (splice_w _ _ _ _ _ _ _ _) ?_; simp only [Act.put, sia, scs, scz]))
 try any_goals exact undef
 refine Any.E_nil ?_
 intro w9 hE9
 replace hv : Mem w0 w9 ([(b8, #[.int .u64 p, .int .u32 ln, .int .u16 1, .int .u16 nx]), (b7, #[.int .i64 p, .int .i64 ln, .bool false]), (bw, #[.int .i64 base, .int .i64 n, fv, .int .u16 av, .int .u16 la, cv, (.slice (some ⟨mb, mo, none⟩) mn mc)]), (bc, #[.int .i64 hd, .slice (some ⟨db, d0, none⟩) dn dc, .int .i64 rm])] ++ L) _ := hE9.memr (L1 := [(b8, #[.int .u64 p, .int .u32 ln, .int .u16 1, .int .u16 nx]), (b7, #[.int .i64 p, .int .i64 ln, .bool false]), (bw, #[.int .i64 base, .int .i64 n, fv, .int .u16 av, .int .u16 la, cv, (.slice (some ⟨mb, mo, none⟩) mn mc)]), (bc, #[.int .i64 hd, .slice (some ⟨db, d0, none⟩) dn dc, .int .i64 rm])]) hv [1000, 1001, 1002, 1003] (by decide)
 clear hE9
 refine Any.wpOp_callv rfl rfl (Go.Proofs.enters_of Tryz.func105 (by kernel_rfl) rfl) rfl [(.agg #[(.slice (some ⟨mb, mo, none⟩) mn mc)]), .int .i64 base, .int .i64 n, .int .i64 di, .agg #[.int .u64 p, .int .u32 ln, .int .u16 1, .int .u16 nx]] rfl ?_
 refine (SetDesc_M (a := p) (l := ln) (f := 1) (x := nx) hv HM.out base n di HN.out HB.out HDN.out HA.out HL4.out HF.out HX.out).mono ?_
 rintro e w1 ⟨vb, vo, vc, R1, rfl, hv1, hi1, hs1⟩
 replace hv := hv1
 have HI1 := Lib.hid hi1
 have HS1 := Lib.hid hs1
 clear hv1 hi1 hs1
 refine ⟨_, rfl, ?_⟩
 replace hv : Mem w0 _ ([(b8, _), (b7, _), (bw, _), (bc, _)] ++ L) _ := hv
 refine Any.wpAny_rest 24 [⟨[], none⟩, ⟨[], none⟩, ⟨[], none⟩, ⟨[], none⟩, ⟨[], none⟩, ⟨[1002], some 1002⟩] [.val, .val, .val, .val, .val, .put] (by kernel_rfl) (hv.vars.keep (List.sublist_append_left [(b8, #[.int .u64 p, .int .u32 ln, .int .u16 1, .int .u16 nx]), (b7, #[.int .i64 p, .int .i64 ln, .bool false]), (bw, #[.int .i64 base, .int .i64 n, fv, .int .u16 av, .int .u16 la, cv, (.slice (some ⟨mb, mo, none⟩) mn mc)]), (bc, #[.int .i64 hd, .slice (some ⟨db, d0, none⟩) dn dc, .int .i64 rm])] L)) ?_
 simp only [List.length_cons, List.length_nil, Nat.zero_add, Nat.reduceAdd, Nat.reduceSub, Any.someVals, List.drop_succ_cons, List.drop_zero]
 simp only [Act.put, sia, scs, scz]
 iterate 6 apply Exists.intro
 repeat (first
   | (refine Any.E_off rfl ?_; simp only [Act.put, sia, scs, scz])
   | (apply Any.E_pureq rfl rfl rfl
      case h => intro K hK; go_big_quiet_op; (refine hK _ ?_; rfl)
      case hr => exact fun _ => rfl
      simp only [Act.put, sia, scs, scz])
   | (apply Any.E_val rfl rfl rfl rfl
      case h =>
        intro E' hA K hK
        first
          | ((with_reducible refine Any.at_qload (T := 26) ?_); refine Any.q_ldp 1002 hA (by decide) rfl rfl 1 _ Tryz.underlying26 rfl infoM (by decide) (show 6 + 1 ≤ 7 from by decide) #[(.slice (some ⟨mb, mo, none⟩) mn mc)] rfl ?_; refine hK _ ?_; rfl)
          | ((with_reducible refine Any.at_qload (T := 3) ?_); refine Any.q_ldc 1002 hA (by decide) rfl rfl _ Tryz.underlying3 rfl (.int .i64 base) rfl ?_; refine hK _ ?_; rfl)
          | ((with_reducible refine Any.at_qload (T := 3) ?_); refine Any.q_ldc 1002 hA (by decide) rfl rfl _ Tryz.underlying3 rfl (.int .i64 n) rfl ?_; refine hK _ ?_; rfl)
          | ((with_reducible refine Any.at_qload (T := 22) ?_); refine Any.q_ldc 1003 hA (by decide) rfl rfl _ Tryz.underlying22 rfl (.slice (some ⟨db, d0, none⟩) dn dc) rfl ?_; refine hK _ ?_; rfl)
          | ((with_reducible refine Any.at_qload (T := 3) ?_); refine Any.q_rd HPD.out (i) rfl _ Tryz.underlying3 rfl (.int .i64 di) HXI.out ?_; refine hK _ ?_; rfl)
          | ((with_reducible refine Any.at_qload (T := 137) ?_); refine Any.q_ldv 1000 hA (by decide) rfl rfl 4 _ Tryz.underlying137 rfl infoD (by decide) rfl ?_; refine hK _ ?_; rfl)
          | (go_big_quiet_op; first
            | (refine hK _ ?_; rfl)
            | (refine ⟨_, fun _ _ => rfl, ?_⟩; refine hK _ ?_; rfl)
            | (apply Exists.intro; refine ⟨fun w1 hw1 => ?_, ?_⟩; · (first
                | fail)
               refine hK _ ?_; rfl))
      case hD => rfl
      simp only [Act.put, sia, scs, scz])
   | ((with_reducible refine Any.at_ealloc ?_); refine Any.E_lay rfl rfl rfl (fun _ => rfl) ?_; intro B; simp only [Act.put, sia, scs, scz])
   | ((with_reducible refine Any.at_estore (T := 26) ?_); refine Any.E_putp rfl rfl rfl rfl rfl rfl 1 infoM rfl (by show 6 + 1 ≤ 7; decide) (by simp [Value.oneCell']) (c' := #[.int .i64 base, .int .i64 n, fv, .int .u16 av, .int .u16 la, cv, (.slice (some ⟨vb, vo, none⟩) mn vc)]) (splice_w _ _ _ _ _ _ _ _) ?_; simp only [Act.put, sia, scs, scz]))
 try any_goals exact undef
 refine Any.E_nil ?_
 intro w9 hE9
 replace hv : Mem w0 w9 ([(b8, #[.int .u64 p, .int .u32 ln, .int .u16 1, .int .u16 nx]), (b7, #[.int .i64 p, .int .i64 ln, .bool false]), (bw, #[.int .i64 base, .int .i64 n, fv, .int .u16 av, .int .u16 la, cv, (.slice (some ⟨vb, vo, none⟩) mn vc)]), (bc, #[.int .i64 hd, .slice (some ⟨db, d0, none⟩) dn dc, .int .i64 rm])] ++ L) _ := hE9.memr0 (L1 := [(b8, #[.int .u64 p, .int .u32 ln, .int .u16 1, .int .u16 nx]), (b7, #[.int .i64 p, .int .i64 ln, .bool false]), (bw, #[.int .i64 base, .int .i64 n, fv, .int .u16 av, .int .u16 la, cv, (.slice (some ⟨mb, mo, none⟩) mn mc)]), (bc, #[.int .i64 hd, .slice (some ⟨db, d0, none⟩) dn dc, .int .i64 rm])]) hv [1000, 1001, 1002, 1003] (by decide)
 clear hE9
 simp only [List.cons_append, List.nil_append] at hv
 go_end0
 exact ⟨rfl, vb, vo, vc, R1, hv.drop.drop, HI1.out, HS1.out⟩
theorem lay_01 {w0 w : World} {L : List (Nat × Array Value)} {R : List (Nat × Value × List Value)} {mb mo mn mc : Nat} {M : List Nat} {bw bc base n av la hd db d0 dn dc rm : Nat} {fv cv : Value} {ds : List Nat} (hv : Mem w0 w ((bw, #[.int .i64 base, .int .i64 n, fv, .int .u16 av, .int .u16 la, cv, (.slice (some ⟨mb, mo, none⟩) mn mc)]) :: (bc, #[.int .i64 hd, .slice (some ⟨db, d0, none⟩) dn dc, .int .i64 rm]) :: L) R) (hm : InM R mb mo mn mc M) (hn : okN n) (hb : base + sizeN n ≤ mn) (hds : (1, .slice (some ⟨db, d0, none⟩) dn dc, intsI ds) ∈ R) (i p ln : Nat) (hln : ln < 1000000) (hp : p < 1000000) {di : Nat} (hdi : ds[i]? = some di) (hdn : di < n) (hdl : ds.length ≤ 16) (hrm : rm ≤ 100000000) {nx : Nat} (hnx : ds[i + 1]? = some nx) (hnxn : nx < n) :
   Calls Tryz.prog 71 #[.pointer (some ⟨bw, 0, none⟩), .pointer (some ⟨bc, 0, none⟩), .int .i64 i, .agg #[.int .i64 p, .int .i64 ln, .bool true]] w fun e w' => e = .returned (.tuple #[]) ∧ ∃ vb vo vc R', Mem w0 w' ((bw, #[.int .i64 base, .int .i64 n, fv, .int .u16 av, .int .u16 la, cv, (.slice (some ⟨vb, vo, none⟩) mn vc)]) :: (bc, #[.int .i64 hd, .slice (some ⟨db, d0, none⟩) dn dc, .int .i64 ((rm + ln : Nat) : Nat)]) :: L) R' ∧ InM R' vb vo mn vc (setD M (base + 16 * di) p ln 3 nx) ∧ ∀ x ∈ R, x ∈ R' := by
 have HM := Lib.hid hm
 have HN := Lib.hid hn
 have HB := Lib.hid hb
 have HDS := Lib.hid hds
 have hdnn : ds.length = dn := by
   obtain ⟨_, _, _, e, g, _⟩ := hv.rd hds
   cases e
   rw [intsI_len] at g; omega
 have hle := hn.le
 have HDN := Lib.hid hdn
 have hil : i < ds.length := (List.getElem?_eq_some_iff.1 hdi).1
 have HXI : Hid ((intsI ds)[i]? = some (.int .i64 di)) := Lib.hid (by unfold intsI; rw [List.getElem?_map, hdi]; rfl)
 have HA : Hid (p < 18446744073709551616) := Lib.hid (by omega)
 have HL4 : Hid (ln < 4294967296) := Lib.hid (by omega)
 have HF : Hid ((3 : Nat) < 65536) := Lib.hid (by decide)
 have q1 : IntKind.u64.wrap (p : Int) = (p : Int) := wrapU64 (by omega)
 have q2 : IntKind.u32.wrap (ln : Int) = (ln : Int) := wrap32 (by omega)
 have q3 : IntKind.i64.wrap ((i : Int) + 1) = (i : Int) + 1 := IntWalk.i64_in _ (by omega)
 have hil1 : i + 1 < ds.length := (List.getElem?_eq_some_iff.1 hnx).1
 have HX : Hid (nx < 65536) := Lib.hid (by omega)
 have HXN : Hid ((intsI ds)[i + 1]? = some (.int .i64 nx)) := Lib.hid (by unfold intsI; rw [List.getElem?_map, hnx]; rfl)
 have q4 : IntKind.u16.wrap (nx : Int) = (nx : Int) := wrap16 (by omega)
 have y1 : decide ((i : Int) + 1 < (dn : Int)) = true := decide_eq_true (by omega)
 have y2 : (i : Int) + 1 < (dn : Int) := by omega
 obtain ⟨rm2, hrm2⟩ : ∃ k, rm + ln = k := ⟨_, rfl⟩
 have q5 : IntKind.i64.wrap ((rm : Int) + (ln : Int)) = (rm2 : Int) := by rw [IntWalk.i64_in _ (by omega)]; omega
 have q6 : bits .or .u16 1 2 = 3 := by decide
 have HRW : Hid (rm + ln = rm2) := Lib.hid hrm2
 clear hm hn hb hds hln hp hdi hdn hdl hrm hnx hnxn hil1 hrm2 hdnn hle hil
 go_enter Tryz.func71, Tryz.ntmps71
 go_wp2_with (first
   | ((with_reducible refine at_box (T := 91) (dst := some 7) ?_); refine wl_newb rfl #[.int .i64 p, .int .i64 ln, .bool true] 91 (fun _ => rfl) ?_; intro b7 w2 hm2; replace hv := hv.madeAt hm2; clear hm2)
   | ((with_reducible refine at_load (T := 3) ?_); refine wl_ldc rfl b7 0 rfl _ hv.vars.ro _ Tryz.underlying3 rfl (.int .i64 p) rfl ?_)
   | ((with_reducible refine at_load (T := 3) ?_); refine wl_ldc rfl b7 1 rfl _ hv.vars.ro _ Tryz.underlying3 rfl (.int .i64 ln) rfl ?_)
   | ((with_reducible refine at_build ?_); refine wl_build rfl [(0, .int .u64 p), (1, .int .u32 ln)] rfl (built_d _ _) ?_)
   | ((with_reducible refine at_alloc (T := 137) (dst := some 8) ?_); refine wl_newb rfl #[.int .u64 0, .int .u32 0, .int .u16 0, .int .u16 0] 137 (fun _ => rfl) ?_; intro b8 w2 hm2; replace hv := hv.madeAt hm2; clear hm2)
   | ((with_reducible refine at_store (T := 137) ?_); refine wl_stv rfl b8 rfl _ rfl _ hv.vars.ro hv.vars.so 4 infoD rfl rfl (by simp [Value.oneCell']) ?_; intro w2 hw2; replace hv := hv.sets (by repeat first | exact .z | apply SetM.s) hw2; clear hw2)
   | ((with_reducible refine at_load (T := 22) ?_); refine wl_ldc rfl bc 1 rfl _ hv.vars.ro _ Tryz.underlying22 rfl (.slice (some ⟨db, d0, none⟩) dn dc) rfl ?_))
 replace hv : Mem w0 _ ([(b8, _), (b7, _), (bw, _), (bc, _)] ++ L) _ := hv
 have HPD := Lib.hid (Any.rd_start (hv.keep (List.sublist_append_left [(b8, #[.int .u64 p, .int .u32 ln, .int .u16 0, .int .u16 0]), (b7, #[.int .i64 p, .int .i64 ln, .bool true]), (bw, #[.int .i64 base, .int .i64 n, fv, .int .u16 av, .int .u16 la, cv, (.slice (some ⟨mb, mo, none⟩) mn mc)]), (bc, #[.int .i64 hd, .slice (some ⟨db, d0, none⟩) dn dc, .int .i64 rm])] L)) HDS.out)
 refine Any.wp_region_walk [⟨[], none⟩, ⟨[], none⟩, ⟨[], none⟩, ⟨[1003], none⟩, ⟨[], none⟩, ⟨[], none⟩, ⟨[], none⟩, ⟨[], none⟩, ⟨[], none⟩, ⟨[], none⟩, ⟨[1000], some 1000⟩, ⟨[], none⟩, ⟨[1000], some 1000⟩] [.val, .val, .val, .val, .val, .val, .val, .val, .val, .val, .put, .val, .put] (by kernel_rfl) (by kernel_rfl) (hv.vars.keep (List.sublist_append_left [(b8, #[.int .u64 p, .int .u32 ln, .int .u16 0, .int .u16 0]), (b7, #[.int .i64 p, .int .i64 ln, .bool true]), (bw, #[.int .i64 base, .int .i64 n, fv, .int .u16 av, .int .u16 la, cv, (.slice (some ⟨mb, mo, none⟩) mn mc)]), (bc, #[.int .i64 hd, .slice (some ⟨db, d0, none⟩) dn dc, .int .i64 rm])] L)) ?_
 simp only [List.length_cons, List.length_nil, Nat.zero_add, Any.someVals]
 iterate 13 apply Exists.intro
 repeat (first
   | (refine Any.E_off rfl ?_; simp only [Act.put, sia, scs, scz])
   | (apply Any.E_pureq rfl rfl rfl
      case h => intro K hK; go_big_quiet_op; (refine hK _ ?_; rfl)
      case hr => exact fun _ => rfl
      simp only [Act.put, sia, scs, scz])
   | (apply Any.E_val rfl rfl rfl rfl
      case h =>
        intro E' hA K hK
        first
          | ((with_reducible refine Any.at_qload (T := 22) ?_); refine Any.q_ldc 1003 hA (by decide) rfl rfl _ Tryz.underlying22 rfl (.slice (some ⟨db, d0, none⟩) dn dc) rfl ?_; refine hK _ ?_; rfl)
          | ((with_reducible refine Any.at_qload (T := 3) ?_); refine Any.q_rd HPD.out (i + 1) rfl _ Tryz.underlying3 rfl (.int .i64 nx) HXN.out ?_; refine hK _ ?_; rfl)
          | (go_big_quiet_op; first
            | (refine hK _ ?_; rfl)
            | (refine ⟨_, fun _ _ => rfl, ?_⟩; refine hK _ ?_; rfl)
            | (apply Exists.intro; refine ⟨fun w1 hw1 => ?_, ?_⟩; · (first
                | fail)
               refine hK _ ?_; rfl))
      case hD => rfl
      simp only [Act.put, sia, scs, scz])
   | ((with_reducible refine Any.at_ealloc ?_); refine Any.E_lay rfl rfl rfl (fun _ => rfl) ?_; intro B; simp only [Act.put, sia, scs, scz])
   | ((with_reducible refine Any.at_estore (T := 27) ?_); refine Any.E_putc (T := 27) rfl rfl rfl rfl rfl rfl (by kernel_rfl) rfl (by simp) ?_; simp only [Act.put, sia, scs, scz]))
 try any_goals exact undef
 refine Any.E_nil ?_
 intro w9 hE9
 replace hv : Mem w0 w9 ([(b8, #[.int .u64 p, .int .u32 ln, .int .u16 1, .int .u16 nx]), (b7, #[.int .i64 p, .int .i64 ln, .bool true]), (bw, #[.int .i64 base, .int .i64 n, fv, .int .u16 av, .int .u16 la, cv, (.slice (some ⟨mb, mo, none⟩) mn mc)]), (bc, #[.int .i64 hd, .slice (some ⟨db, d0, none⟩) dn dc, .int .i64 rm])] ++ L) _ := hE9.memr hv [1000, 1001, 1002, 1003] (by decide)
 clear hE9
 simp only [List.cons_append, List.nil_append] at hv
 go_wp2_with (first
   | ((with_reducible refine at_load (T := 4) ?_); refine wl_ldc rfl b7 2 rfl _ hv.vars.ro _ Tryz.underlying4 rfl (.bool true) rfl ?_)
   | ((with_reducible refine at_load (T := 27) ?_); refine wl_ldc rfl b8 2 rfl _ hv.vars.ro _ Tryz.underlying27 rfl (.int .u16 1) rfl ?_)
   | ((with_reducible refine at_store (T := 27) ?_); refine wl_stc rfl b8 2 rfl (.int .u16 3) rfl _ hv.vars.ro hv.vars.so (by kernel_rfl) rfl (by show 2 < 4; decide) ?_; intro w2 hw2; replace hv := hv.sets (by repeat first | exact .z | apply SetM.s) hw2; clear hw2))
 replace hv : Mem w0 _ ([(b8, _), (b7, _), (bw, _), (bc, _)] ++ L) _ := hv
 have HPD := Lib.hid (Any.rd_start (hv.keep (List.sublist_append_left [(b8, #[.int .u64 p, .int .u32 ln, .int .u16 3, .int .u16 nx]), (b7, #[.int .i64 p, .int .i64 ln, .bool true]), (bw, #[.int .i64 base, .int .i64 n, fv, .int .u16 av, .int .u16 la, cv, (.slice (some ⟨mb, mo, none⟩) mn mc)]), (bc, #[.int .i64 hd, .slice (some ⟨db, d0, none⟩) dn dc, .int .i64 rm])] L)) HDS.out)
 refine Any.wp_region_walk [⟨[], none⟩, ⟨[], none⟩, ⟨[], none⟩, ⟨[1003], none⟩, ⟨[], none⟩, ⟨[1001], none⟩, ⟨[], none⟩, ⟨[], none⟩, ⟨[], none⟩, ⟨[1003], some 1003⟩] [.val, .val, .val, .val, .val, .val, .val, .val, .val, .put] (by kernel_rfl) (by kernel_rfl) (hv.vars.keep (List.sublist_append_left [(b8, #[.int .u64 p, .int .u32 ln, .int .u16 3, .int .u16 nx]), (b7, #[.int .i64 p, .int .i64 ln, .bool true]), (bw, #[.int .i64 base, .int .i64 n, fv, .int .u16 av, .int .u16 la, cv, (.slice (some ⟨mb, mo, none⟩) mn mc)]), (bc, #[.int .i64 hd, .slice (some ⟨db, d0, none⟩) dn dc, .int .i64 rm])] L)) ?_
 simp only [List.length_cons, List.length_nil, Nat.zero_add, Any.someVals]
 iterate 10 apply Exists.intro
 repeat (first
   | (refine Any.E_off rfl ?_; simp only [Act.put, sia, scs, scz])
   | (apply Any.E_pureq rfl rfl rfl
      case h => intro K hK; go_big_quiet_op; (refine hK _ ?_; rfl)
      case hr => exact fun _ => rfl
      simp only [Act.put, sia, scs, scz])
   | (apply Any.E_val rfl rfl rfl rfl
      case h =>
        intro E' hA K hK
        first
          | ((with_reducible refine Any.at_qload (T := 3) ?_); refine Any.q_ldc 1003 hA (by decide) rfl rfl _ Tryz.underlying3 rfl (.int .i64 rm) rfl ?_; refine hK _ ?_; rfl)
          | ((with_reducible refine Any.at_qload (T := 3) ?_); refine Any.q_ldc 1001 hA (by decide) rfl rfl _ Tryz.underlying3 rfl (.int .i64 ln) rfl ?_; refine hK _ ?_; rfl)
          | (go_big_quiet_op; first
            | (refine hK _ ?_; rfl)
            | (refine ⟨_, fun _ _ => rfl, ?_⟩; refine hK _ ?_; rfl)
            | (apply Exists.intro; refine ⟨fun w1 hw1 => ?_, ?_⟩; · (first
                | fail)
               refine hK _ ?_; rfl))
      case hD => rfl
      simp only [Act.put, sia, scs, scz])
   | ((with_reducible refine Any.at_ealloc ?_); refine Any.E_lay rfl rfl rfl (fun _ => rfl) ?_; intro B; simp only [Act.put, sia, scs, scz])
   | ((with_reducible refine Any.at_estore (T := 3) ?_); refine Any.E_putc (T := 3) rfl rfl rfl rfl rfl rfl (by kernel_rfl) rfl (by simp) ?_; simp only [Act.put, sia, scs, scz]))
 try any_goals exact undef
 refine Any.E_nil ?_
 intro w9 hE9
 replace hv : Mem w0 w9 ([(b8, #[.int .u64 p, .int .u32 ln, .int .u16 3, .int .u16 nx]), (b7, #[.int .i64 p, .int .i64 ln, .bool true]), (bw, #[.int .i64 base, .int .i64 n, fv, .int .u16 av, .int .u16 la, cv, (.slice (some ⟨mb, mo, none⟩) mn mc)]), (bc, #[.int .i64 hd, .slice (some ⟨db, d0, none⟩) dn dc, .int .i64 rm2])] ++ L) _ := hE9.memr hv [1000, 1001, 1002, 1003] (by decide)
 clear hE9
 simp only [List.cons_append, List.nil_append] at hv
 go_wp2
 try clear HPD
 replace hv : Mem w0 _ ([(b8, _), (b7, _), (bw, _), (bc, _)] ++ L) _ := hv
 have HPD := Lib.hid (Any.rd_start (hv.keep (List.sublist_append_left [(b8, #[.int .u64 p, .int .u32 ln, .int .u16 3, .int .u16 nx]), (b7, #[.int .i64 p, .int .i64 ln, .bool true]), (bw, #[.int .i64 base, .int .i64 n, fv, .int .u16 av, .int .u16 la, cv, (.slice (some ⟨mb, mo, none⟩) mn mc)]), (bc, #[.int .i64 hd, .slice (some ⟨db, d0, none⟩) dn dc, .int .i64 rm2])] L)) HDS.out)
 replace hv : Mem w0 _ ([(b8, _), (b7, _), (bw, _), (bc, _)] ++ L) _ := hv
 refine Any.wp_region_cut1 23 [⟨[], none⟩, ⟨[], none⟩, ⟨[], none⟩, ⟨[], none⟩, ⟨[1002], none⟩, ⟨[], none⟩, ⟨[], none⟩, ⟨[], none⟩, ⟨[], none⟩, ⟨[1002], none⟩, ⟨[], none⟩, ⟨[], none⟩, ⟨[], none⟩, ⟨[], none⟩, ⟨[1002], none⟩, ⟨[], none⟩, ⟨[], none⟩, ⟨[], none⟩, ⟨[1003], none⟩, ⟨[], none⟩, ⟨[], none⟩, ⟨[], none⟩, ⟨[1000], none⟩, ⟨[], none⟩, ⟨[], none⟩, ⟨[], none⟩, ⟨[], none⟩, ⟨[], none⟩, ⟨[], none⟩, ⟨[], none⟩] [.val, .val, .val, .val, .val, .val, .val, .val, .val, .val, .val, .val, .val, .val, .val, .val, .val, .val, .val, .val, .val, .val, .val] (.pointer (some ⟨bw, 0, none⟩)) (by kernel_rfl) (by kernel_rfl) (hv.vars.keep (List.sublist_append_left [(b8, #[.int .u64 p, .int .u32 ln, .int .u16 3, .int .u16 nx]), (b7, #[.int .i64 p, .int .i64 ln, .bool true]), (bw, #[.int .i64 base, .int .i64 n, fv, .int .u16 av, .int .u16 la, cv, (.slice (some ⟨mb, mo, none⟩) mn mc)]), (bc, #[.int .i64 hd, .slice (some ⟨db, d0, none⟩) dn dc, .int .i64 rm2])] L)) (fun _ _ _ h => h) (.inl ⟨rfl, fun _ => by rfl⟩) ?_
 simp only [Any.someVals, List.take_succ_cons, List.take_zero, List.drop_succ_cons, List.drop_zero, Nat.reduceSub]
 simp only [Act.put, sia, scs, scz]
 iterate 23 apply Exists.intro
 repeat (first
   | (refine Any.E_off rfl ?_; simp only [Act.put, sia, scs, scz])
   | (apply Any.E_pureq rfl rfl rfl
      case h => intro K hK; go_big_quiet_op; (refine hK _ ?_; rfl)
      case hr => exact fun _ => rfl
      simp only [Act.put, sia, scs, scz])
   | (apply Any.E_val rfl rfl rfl rfl
      case h =>
        intro E' hA K hK
        first
          | ((with_reducible refine Any.at_qload (T := 26) ?_); refine Any.q_ldp 1002 hA (by decide) rfl rfl 1 _ Tryz.underlying26 rfl infoM (by decide) (show 6 + 1 ≤ 7 from by decide) #[(.slice (some ⟨mb, mo, none⟩) mn mc)] rfl ?_; refine hK _ ?_; rfl)
          | ((with_reducible refine Any.at_qload (T := 3) ?_); refine Any.q_ldc 1002 hA (by decide) rfl rfl _ Tryz.underlying3 rfl (.int .i64 base) rfl ?_; refine hK _ ?_; rfl)
          | ((with_reducible refine Any.at_qload (T := 3) ?_); refine Any.q_ldc 1002 hA (by decide) rfl rfl _ Tryz.underlying3 rfl (.int .i64 n) rfl ?_; refine hK _ ?_; rfl)
          | ((with_reducible refine Any.at_qload (T := 22) ?_); refine Any.q_ldc 1003 hA (by decide) rfl rfl _ Tryz.underlying22 rfl (.slice (some ⟨db, d0, none⟩) dn dc) rfl ?_; refine hK _ ?_; rfl)
          | ((with_reducible refine Any.at_qload (T := 3) ?_); refine Any.q_rd HPD.out (i) rfl _ Tryz.underlying3 rfl (.int .i64 di) HXI.out ?_; refine hK _ ?_; rfl)
          | ((with_reducible refine Any.at_qload (T := 137) ?_); refine Any.q_ldv 1000 hA (by decide) rfl rfl 4 _ Tryz.underlying137 rfl infoD (by decide) rfl ?_; refine hK _ ?_; rfl)
          | (go_big_quiet_op; first
            | (refine hK _ ?_; rfl)
            | (refine ⟨_, fun _ _ => rfl, ?_⟩; refine hK _ ?_; rfl)
            | (apply Exists.intro; refine ⟨fun w1 hw1 => ?_, ?_⟩; · (first
                | fail)
               refine hK _ ?_; rfl))
      case hD => rfl
      simp only [Act.put, sia, scs, scz])
   | ((with_reducible refine Any.at_ealloc ?_); refine Any.E_lay rfl rfl rfl (fun _ => rfl) ?_; intro B; simp only [Act.put, sia, scs, scz])
   | ((with_reducible refine Any.at_estore (T := 26) ?_); refine Any.E_putp rfl rfl rfl rfl rfl rfl 1 infoM rfl (by show 6 + 1 ≤ 7; decide) (by simp [Value.oneCell']) (c' := #[.int .i64 base, .int .i64 n, fv, .int .u16 av, .int .u16 la, cv, (.slice (some ⟨vb, vo, none⟩) mn vc)]) (splice_w _ _ _ _ _ _ _ _) ?_; simp only [Act.put, sia, scs, scz]))
 try any_goals exact undef
 refine Any.E_nil ?_
 intro w9 hE9
 replace hv : Mem w0 w9 ([(b8, #[.int .u64 p, .int .u32 ln, .int .u16 3, .int .u16 nx]), (b7, #[.int .i64 p, .int .i64 ln, .bool true]), (bw, #[.int .i64 base, .int .i64 n, fv, .int .u16 av, .int .u16 la, cv, (.slice (some ⟨mb, mo, none⟩) mn mc)]), (bc, #[.int .i64 hd, .slice (some ⟨db, d0, none⟩) dn dc, .int .i64 rm2])] ++ L) _ := hE9.memr (L1 := [(b8, #[.int .u64 p, .int .u32 ln, .int .u16 3, .int .u16 nx]), (b7, #[.int .i64 p, .int .i64 ln, .bool true]), (bw, #[.int .i64 base, .int .i64 n, fv, .int .u16 av, .int .u16 la, cv, (.slice (some ⟨mb, mo, none⟩) mn mc)]), (bc, #[.int .i64 hd, .slice (some ⟨db, d0, none⟩) dn dc, .int .i64 rm2])]) hv [1000, 1001, 1002, 1003] (by decide)
 clear hE9
 refine Any.wpOp_callv rfl rfl (Go.Proofs.enters_of Tryz.func105 (by kernel_rfl) rfl) rfl [(.agg #[(.slice (some ⟨mb, mo, none⟩) mn mc)]), .int .i64 base, .int .i64 n, .int .i64 di, .agg #[.int .u64 p, .int .u32 ln, .int .u16 3, .int .u16 nx]] rfl ?_
 refine (SetDesc_M (a := p) (l := ln) (f := 3) (x := nx) hv HM.out base n di HN.out HB.out HDN.out HA.out HL4.out HF.out HX.out).mono ?_
 rintro e w1 ⟨vb, vo, vc, R1, rfl, hv1, hi1, hs1⟩
 replace hv := hv1
 have HI1 := Lib.hid hi1
 have HS1 := Lib.hid hs1
 clear hv1 hi1 hs1
 refine ⟨_, rfl, ?_⟩
 replace hv : Mem w0 _ ([(b8, _), (b7, _), (bw, _), (bc, _)] ++ L) _ := hv
 refine Any.wpAny_rest 24 [⟨[], none⟩, ⟨[], none⟩, ⟨[], none⟩, ⟨[], none⟩, ⟨[], none⟩, ⟨[1002], some 1002⟩] [.val, .val, .val, .val, .val, .put] (by kernel_rfl) (hv.vars.keep (List.sublist_append_left [(b8, #[.int .u64 p, .int .u32 ln, .int .u16 3, .int .u16 nx]), (b7, #[.int .i64 p, .int .i64 ln, .bool true]), (bw, #[.int .i64 base, .int .i64 n, fv, .int .u16 av, .int .u16 la, cv, (.slice (some ⟨mb, mo, none⟩) mn mc)]), (bc, #[.int .i64 hd, .slice (some ⟨db, d0, none⟩) dn dc, .int .i64 rm2])] L)) ?_
 simp only [List.length_cons, List.length_nil, Nat.zero_add, Nat.reduceAdd, Nat.reduceSub, Any.someVals, List.drop_succ_cons, List.drop_zero]
 simp only [Act.put, sia, scs, scz]
 iterate 6 apply Exists.intro
 repeat (first
   | (refine Any.E_off rfl ?_; simp only [Act.put, sia, scs, scz])
   | (apply Any.E_pureq rfl rfl rfl
      case h => intro K hK; go_big_quiet_op; (refine hK _ ?_; rfl)
      case hr => exact fun _ => rfl
      simp only [Act.put, sia, scs, scz])
   | (apply Any.E_val rfl rfl rfl rfl
      case h =>
        intro E' hA K hK
        first
          | ((with_reducible refine Any.at_qload (T := 26) ?_); refine Any.q_ldp 1002 hA (by decide) rfl rfl 1 _ Tryz.underlying26 rfl infoM (by decide) (show 6 + 1 ≤ 7 from by decide) #[(.slice (some ⟨mb, mo, none⟩) mn mc)] rfl ?_; refine hK _ ?_; rfl)
          | ((with_reducible refine Any.at_qload (T := 3) ?_); refine Any.q_ldc 1002 hA (by decide) rfl rfl _ Tryz.underlying3 rfl (.int .i64 base) rfl ?_; refine hK _ ?_; rfl)
          | ((with_reducible refine Any.at_qload (T := 3) ?_); refine Any.q_ldc 1002 hA (by decide) rfl rfl _ Tryz.underlying3 rfl (.int .i64 n) rfl ?_; refine hK _ ?_; rfl)
          | ((with_reducible refine Any.at_qload (T := 22) ?_); refine Any.q_ldc 1003 hA (by decide) rfl rfl _ Tryz.underlying22 rfl (.slice (some ⟨db, d0, none⟩) dn dc) rfl ?_; refine hK _ ?_; rfl)
          | ((with_reducible refine Any.at_qload (T := 3) ?_); refine Any.q_rd HPD.out (i) rfl _ Tryz.underlying3 rfl (.int .i64 di) HXI.out ?_; refine hK _ ?_; rfl)
          | ((with_reducible refine Any.at_qload (T := 137) ?_); refine Any.q_ldv 1000 hA (by decide) rfl rfl 4 _ Tryz.underlying137 rfl infoD (by decide) rfl ?_; refine hK _ ?_; rfl)
          | (go_big_quiet_op; first
            | (refine hK _ ?_; rfl)
            | (refine ⟨_, fun _ _ => rfl, ?_⟩; refine hK _ ?_; rfl)
            | (apply Exists.intro; refine ⟨fun w1 hw1 => ?_, ?_⟩; · (first
                | fail)
               refine hK _ ?_; rfl))
      case hD => rfl
      simp only [Act.put, sia, scs, scz])
   | ((with_reducible refine Any.at_ealloc ?_); refine Any.E_lay rfl rfl rfl (fun _ => rfl) ?_; intro B; simp only [Act.put, sia, scs, scz])
   | ((with_reducible refine Any.at_estore (T := 26) ?_); refine Any.E_putp rfl rfl rfl rfl rfl rfl 1 infoM rfl (by show 6 + 1 ≤ 7; decide) (by simp [Value.oneCell']) (c' := #[.int .i64 base, .int .i64 n, fv, .int .u16 av, .int .u16 la, cv, (.slice (some ⟨vb, vo, none⟩) mn vc)]) (splice_w _ _ _ _ _ _ _ _) ?_; simp only [Act.put, sia, scs, scz]))
 try any_goals exact undef
 refine Any.E_nil ?_
 intro w9 hE9
 replace hv : Mem w0 w9 ([(b8, #[.int .u64 p, .int .u32 ln, .int .u16 3, .int .u16 nx]), (b7, #[.int .i64 p, .int .i64 ln, .bool true]), (bw, #[.int .i64 base, .int .i64 n, fv, .int .u16 av, .int .u16 la, cv, (.slice (some ⟨vb, vo, none⟩) mn vc)]), (bc, #[.int .i64 hd, .slice (some ⟨db, d0, none⟩) dn dc, .int .i64 rm2])] ++ L) _ := hE9.memr0 (L1 := [(b8, #[.int .u64 p, .int .u32 ln, .int .u16 3, .int .u16 nx]), (b7, #[.int .i64 p, .int .i64 ln, .bool true]), (bw, #[.int .i64 base, .int .i64 n, fv, .int .u16 av, .int .u16 la, cv, (.slice (some ⟨mb, mo, none⟩) mn mc)]), (bc, #[.int .i64 hd, .slice (some ⟨db, d0, none⟩) dn dc, .int .i64 rm2])]) hv [1000, 1001, 1002, 1003] (by decide)
 clear hE9
 simp only [List.cons_append, List.nil_append] at hv
 go_end0
 exact ⟨rfl, vb, vo, vc, R1, by rw [HRW.out]; exact hv.drop.drop, HI1.out, HS1.out⟩
theorem lay_10 {w0 w : World} {L : List (Nat × Array Value)} {R : List (Nat × Value × List Value)} {mb mo mn mc : Nat} {M : List Nat} {bw bc base n av la hd db d0 dn dc rm : Nat} {fv cv : Value} {ds : List Nat} (hv : Mem w0 w ((bw, #[.int .i64 base, .int .i64 n, fv, .int .u16 av, .int .u16 la, cv, (.slice (some ⟨mb, mo, none⟩) mn mc)]) :: (bc, #[.int .i64 hd, .slice (some ⟨db, d0, none⟩) dn dc, .int .i64 rm]) :: L) R) (hm : InM R mb mo mn mc M) (hn : okN n) (hb : base + sizeN n ≤ mn) (hds : (1, .slice (some ⟨db, d0, none⟩) dn dc, intsI ds) ∈ R) (i p ln : Nat) (hln : ln < 1000000) (hp : p < 1000000) {di : Nat} (hdi : ds[i]? = some di) (hdn : di < n) (hdl : ds.length ≤ 16) (hrm : rm ≤ 100000000) (hlast : ds.length = i + 1) :
   Calls Tryz.prog 71 #[.pointer (some ⟨bw, 0, none⟩), .pointer (some ⟨bc, 0, none⟩), .int .i64 i, .agg #[.int .i64 p, .int .i64 ln, .bool false]] w fun e w' => e = .returned (.tuple #[]) ∧ ∃ vb vo vc R', Mem w0 w' ((bw, #[.int .i64 base, .int .i64 n, fv, .int .u16 av, .int .u16 la, cv, (.slice (some ⟨vb, vo, none⟩) mn vc)]) :: (bc, #[.int .i64 hd, .slice (some ⟨db, d0, none⟩) dn dc, .int .i64 rm]) :: L) R' ∧ InM R' vb vo mn vc (setD M (base + 16 * di) p ln 0 0) ∧ ∀ x ∈ R, x ∈ R' := by
 have HM := Lib.hid hm
 have HN := Lib.hid hn
 have HB := Lib.hid hb
 have HDS := Lib.hid hds
 have hdnn : ds.length = dn := by
   obtain ⟨_, _, _, e, g, _⟩ := hv.rd hds
   cases e
   rw [intsI_len] at g; omega
 have hle := hn.le
 have HDN := Lib.hid hdn
 have hil : i < ds.length := (List.getElem?_eq_some_iff.1 hdi).1
 have HXI : Hid ((intsI ds)[i]? = some (.int .i64 di)) := Lib.hid (by unfold intsI; rw [List.getElem?_map, hdi]; rfl)
 have HA : Hid (p < 18446744073709551616) := Lib.hid (by omega)
 have HL4 : Hid (ln < 4294967296) := Lib.hid (by omega)
 have HF : Hid ((0 : Nat) < 65536) := Lib.hid (by decide)
 have q1 : IntKind.u64.wrap (p : Int) = (p : Int) := wrapU64 (by omega)
 have q2 : IntKind.u32.wrap (ln : Int) = (ln : Int) := wrap32 (by omega)
 have q3 : IntKind.i64.wrap ((i : Int) + 1) = (i : Int) + 1 := IntWalk.i64_in _ (by omega)
 have HX : Hid ((0 : Nat) < 65536) := Lib.hid (by decide)
 have y1 : decide ((i : Int) + 1 < (dn : Int)) = false := decide_eq_false (by omega)
 have y2 : ¬ ((i : Int) + 1 < (dn : Int)) := by omega
 have y3 : (i : Int) < (dn : Int) := by omega
 clear hm hn hb hds hln hp hdi hdn hdl hrm hlast  hdnn hle hil
 go_enter Tryz.func71, Tryz.ntmps71
 go_wp2_with (first
   | ((with_reducible refine at_box (T := 91) (dst := some 7) ?_); refine wl_newb rfl #[.int .i64 p, .int .i64 ln, .bool false] 91 (fun _ => rfl) ?_; intro b7 w2 hm2; replace hv := hv.madeAt hm2; clear hm2)
   | ((with_reducible refine at_load (T := 3) ?_); refine wl_ldc rfl b7 0 rfl _ hv.vars.ro _ Tryz.underlying3 rfl (.int .i64 p) rfl ?_)
   | ((with_reducible refine at_load (T := 3) ?_); refine wl_ldc rfl b7 1 rfl _ hv.vars.ro _ Tryz.underlying3 rfl (.int .i64 ln) rfl ?_)
   | ((with_reducible refine at_build ?_); refine wl_build rfl [(0, .int .u64 p), (1, .int .u32 ln)] rfl (built_d _ _) ?_)
   | ((with_reducible refine at_alloc (T := 137) (dst := some 8) ?_); refine wl_newb rfl #[.int .u64 0, .int .u32 0, .int .u16 0, .int .u16 0] 137 (fun _ => rfl) ?_; intro b8 w2 hm2; replace hv := hv.madeAt hm2; clear hm2)
   | ((with_reducible refine at_store (T := 137) ?_); refine wl_stv rfl b8 rfl _ rfl _ hv.vars.ro hv.vars.so 4 infoD rfl rfl (by simp [Value.oneCell']) ?_; intro w2 hw2; replace hv := hv.sets (by repeat first | exact .z | apply SetM.s) hw2; clear hw2)
   | ((with_reducible refine at_load (T := 22) ?_); refine wl_ldc rfl bc 1 rfl _ hv.vars.ro _ Tryz.underlying22 rfl (.slice (some ⟨db, d0, none⟩) dn dc) rfl ?_)
   | ((with_reducible refine at_load (T := 4) ?_); refine wl_ldc rfl b7 2 rfl _ hv.vars.ro _ Tryz.underlying4 rfl (.bool false) rfl ?_)
   | ((with_reducible refine at_load (T := 27) ?_); refine wl_ldc rfl b8 2 rfl _ hv.vars.ro _ Tryz.underlying27 rfl (.int .u16 0) rfl ?_)
   | ((with_reducible refine at_store (T := 27) ?_); refine wl_stc rfl b8 2 rfl (.int .u16 0) rfl _ hv.vars.ro hv.vars.so (by kernel_rfl) rfl (by show 2 < 4; decide) ?_; intro w2 hw2; replace hv := hv.sets (by repeat first | exact .z | apply SetM.s) hw2; clear hw2))
 try clear HPD
 replace hv : Mem w0 _ ([(b8, _), (b7, _), (bw, _), (bc, _)] ++ L) _ := hv
 have HPD := Lib.hid (Any.rd_start (hv.keep (List.sublist_append_left [(b8, #[.int .u64 p, .int .u32 ln, .int .u16 0, .int .u16 0]), (b7, #[.int .i64 p, .int .i64 ln, .bool false]), (bw, #[.int .i64 base, .int .i64 n, fv, .int .u16 av, .int .u16 la, cv, (.slice (some ⟨mb, mo, none⟩) mn mc)]), (bc, #[.int .i64 hd, .slice (some ⟨db, d0, none⟩) dn dc, .int .i64 rm])] L)) HDS.out)
 replace hv : Mem w0 _ ([(b8, _), (b7, _), (bw, _), (bc, _)] ++ L) _ := hv
 refine Any.wp_region_cut1 23 [⟨[], none⟩, ⟨[], none⟩, ⟨[], none⟩, ⟨[], none⟩, ⟨[1002], none⟩, ⟨[], none⟩, ⟨[], none⟩, ⟨[], none⟩, ⟨[], none⟩, ⟨[1002], none⟩, ⟨[], none⟩, ⟨[], none⟩, ⟨[], none⟩, ⟨[], none⟩, ⟨[1002], none⟩, ⟨[], none⟩, ⟨[], none⟩, ⟨[], none⟩, ⟨[1003], none⟩, ⟨[], none⟩, ⟨[], none⟩, ⟨[], none⟩, ⟨[1000], none⟩, ⟨[], none⟩, ⟨[], none⟩, ⟨[], none⟩, ⟨[], none⟩, ⟨[], none⟩, ⟨[], none⟩, ⟨[], none⟩] [.val, .val, .val, .val, .val, .val, .val, .val, .val, .val, .val, .val, .val, .val, .val, .val, .val, .val, .val, .val, .val, .val, .val] (.pointer (some ⟨bw, 0, none⟩)) (by kernel_rfl) (by kernel_rfl) (hv.vars.keep (List.sublist_append_left [(b8, #[.int .u64 p, .int .u32 ln, .int .u16 0, .int .u16 0]), (b7, #[.int .i64 p, .int .i64 ln, .bool false]), (bw, #[.int .i64 base, .int .i64 n, fv, .int .u16 av, .int .u16 la, cv, (.slice (some ⟨mb, mo, none⟩) mn mc)]), (bc, #[.int .i64 hd, .slice (some ⟨db, d0, none⟩) dn dc, .int .i64 rm])] L)) (fun _ _ _ h => h) (.inl ⟨rfl, fun _ => by rfl⟩) ?_
 simp only [Any.someVals, List.take_succ_cons, List.take_zero, List.drop_succ_cons, List.drop_zero, Nat.reduceSub]
 simp only [Act.put, sia, scs, scz]
 iterate 23 apply Exists.intro
 repeat (first
   | (refine Any.E_off rfl ?_; simp only [Act.put, sia, scs, scz])
   | (apply Any.E_pureq rfl rfl rfl
      case h => intro K hK; go_big_quiet_op; (refine hK _ ?_; rfl)
      case hr => exact fun _ => rfl
      simp only [Act.put, sia, scs, scz])
   | (apply Any.E_val rfl rfl rfl rfl
      case h =>
        intro E' hA K hK
        first
          | ((with_reducible refine Any.at_qload (T := 26) ?_); refine Any.q_ldp 1002 hA (by decide) rfl rfl 1 _ Tryz.underlying26 rfl infoM (by decide) (show 6 + 1 ≤ 7 from by decide) #[(.slice (some ⟨mb, mo, none⟩) mn mc)] rfl ?_; refine hK _ ?_; rfl)
          | ((with_reducible refine Any.at_qload (T := 3) ?_); refine Any.q_ldc 1002 hA (by decide) rfl rfl _ Tryz.underlying3 rfl (.int .i64 base) rfl ?_; refine hK _ ?_; rfl)
          | ((with_reducible refine Any.at_qload (T := 3) ?_); refine Any.q_ldc 1002 hA (by decide) rfl rfl _ Tryz.underlying3 rfl (.int .i64 n) rfl ?_; refine hK _ ?_; rfl)
          | ((with_reducible refine Any.at_qload (T := 22) ?_); refine Any.q_ldc 1003 hA (by decide) rfl rfl _ Tryz.underlying22 rfl (.slice (some ⟨db, d0, none⟩) dn dc) rfl ?_; refine hK _ ?_; rfl)
          | ((with_reducible refine Any.at_qload (T := 3) ?_); refine Any.q_rd HPD.out (i) rfl _ Tryz.underlying3 rfl (.int .i64 di) HXI.out ?_; refine hK _ ?_; rfl)
          | ((with_reducible refine Any.at_qload (T := 137) ?_); refine Any.q_ldv 1000 hA (by decide) rfl rfl 4 _ Tryz.underlying137 rfl infoD (by decide) rfl ?_; refine hK _ ?_; rfl)
          | (go_big_quiet_op; first
            | (refine hK _ ?_; rfl)
            | (refine ⟨_, fun _ _ => rfl, ?_⟩; refine hK _ ?_; rfl)
            | (apply Exists.intro; refine ⟨fun w1 hw1 => ?_, ?_⟩; · (first
                | fail)
               refine hK _ ?_; rfl))
      case hD => rfl
      simp only [Act.put, sia, scs, scz])
   | ((with_reducible refine Any.at_ealloc ?_); refine Any.E_lay rfl rfl rfl (fun _ => rfl) ?_; intro B; simp only [Act.put, sia, scs, scz])
   | ((with_reducible refine Any.at_estore (T := 26) ?_); refine Any.E_putp rfl rfl rfl rfl rfl rfl 1 infoM rfl (by show 6 + 1 ≤ 7; decide) (by simp [Value.oneCell']) (c' := #[.int .i64 base, .int .i64 n, fv, .int .u16 av, .int .u16 la, cv, (.slice (some ⟨vb, vo, none⟩) mn vc)]) (splice_w _ _ _ _ _ _ _ _) ?_; simp only [Act.put, sia, scs, scz]))
 try any_goals exact undef
 refine Any.E_nil ?_
 intro w9 hE9
 replace hv : Mem w0 w9 ([(b8, #[.int .u64 p, .int .u32 ln, .int .u16 0, .int .u16 0]), (b7, #[.int .i64 p, .int .i64 ln, .bool false]), (bw, #[.int .i64 base, .int .i64 n, fv, .int .u16 av, .int .u16 la, cv, (.slice (some ⟨mb, mo, none⟩) mn mc)]), (bc, #[.int .i64 hd, .slice (some ⟨db, d0, none⟩) dn dc, .int .i64 rm])] ++ L) _ := hE9.memr (L1 := [(b8, #[.int .u64 p, .int .u32 ln, .int .u16 0, .int .u16 0]), (b7, #[.int .i64 p, .int .i64 ln, .bool false]), (bw, #[.int .i64 base, .int .i64 n, fv, .int .u16 av, .int .u16 la, cv, (.slice (some ⟨mb, mo, none⟩) mn mc)]), (bc, #[.int .i64 hd, .slice (some ⟨db, d0, none⟩) dn dc, .int .i64 rm])]) hv [1000, 1001, 1002, 1003] (by decide)
 clear hE9
 refine Any.wpOp_callv rfl rfl (Go.Proofs.enters_of Tryz.func105 (by kernel_rfl) rfl) rfl [(.agg #[(.slice (some ⟨mb, mo, none⟩) mn mc)]), .int .i64 base, .int .i64 n, .int .i64 di, .agg #[.int .u64 p, .int .u32 ln, .int .u16 0, .int .u16 0]] rfl ?_
 refine (SetDesc_M (a := p) (l := ln) (f := 0) (x := 0) hv HM.out base n di HN.out HB.out HDN.out HA.out HL4.out HF.out HX.out).mono ?_
 rintro e w1 ⟨vb, vo, vc, R1, rfl, hv1, hi1, hs1⟩
 replace hv := hv1
 have HI1 := Lib.hid hi1
 have HS1 := Lib.hid hs1
 clear hv1 hi1 hs1
 refine ⟨_, rfl, ?_⟩
 replace hv : Mem w0 _ ([(b8, _), (b7, _), (bw, _), (bc, _)] ++ L) _ := hv
 refine Any.wpAny_rest 24 [⟨[], none⟩, ⟨[], none⟩, ⟨[], none⟩, ⟨[], none⟩, ⟨[], none⟩, ⟨[1002], some 1002⟩] [.val, .val, .val, .val, .val, .put] (by kernel_rfl) (hv.vars.keep (List.sublist_append_left [(b8, #[.int .u64 p, .int .u32 ln, .int .u16 0, .int .u16 0]), (b7, #[.int .i64 p, .int .i64 ln, .bool false]), (bw, #[.int .i64 base, .int .i64 n, fv, .int .u16 av, .int .u16 la, cv, (.slice (some ⟨mb, mo, none⟩) mn mc)]), (bc, #[.int .i64 hd, .slice (some ⟨db, d0, none⟩) dn dc, .int .i64 rm])] L)) ?_
 simp only [List.length_cons, List.length_nil, Nat.zero_add, Nat.reduceAdd, Nat.reduceSub, Any.someVals, List.drop_succ_cons, List.drop_zero]
 simp only [Act.put, sia, scs, scz]
 iterate 6 apply Exists.intro
 repeat (first
   | (refine Any.E_off rfl ?_; simp only [Act.put, sia, scs, scz])
   | (apply Any.E_pureq rfl rfl rfl
      case h => intro K hK; go_big_quiet_op; (refine hK _ ?_; rfl)
      case hr => exact fun _ => rfl
      simp only [Act.put, sia, scs, scz])
   | (apply Any.E_val rfl rfl rfl rfl
      case h =>
        intro E' hA K hK
        first
          | ((with_reducible refine Any.at_qload (T := 26) ?_); refine Any.q_ldp 1002 hA (by decide) rfl rfl 1 _ Tryz.underlying26 rfl infoM (by decide) (show 6 + 1 ≤ 7 from by decide) #[(.slice (some ⟨mb, mo, none⟩) mn mc)] rfl ?_; refine hK _ ?_; rfl)
          | ((with_reducible refine Any.at_qload (T := 3) ?_); refine Any.q_ldc 1002 hA (by decide) rfl rfl _ Tryz.underlying3 rfl (.int .i64 base) rfl ?_; refine hK _ ?_; rfl)
          | ((with_reducible refine Any.at_qload (T := 3) ?_); refine Any.q_ldc 1002 hA (by decide) rfl rfl _ Tryz.underlying3 rfl (.int .i64 n) rfl ?_; refine hK _ ?_; rfl)
          | ((with_reducible refine Any.at_qload (T := 22) ?_); refine Any.q_ldc 1003 hA (by decide) rfl rfl _ Tryz.underlying22 rfl (.slice (some ⟨db, d0, none⟩) dn dc) rfl ?_; refine hK _ ?_; rfl)
          | ((with_reducible refine Any.at_qload (T := 3) ?_); refine Any.q_rd HPD.out (i) rfl _ Tryz.underlying3 rfl (.int .i64 di) HXI.out ?_; refine hK _ ?_; rfl)
          | ((with_reducible refine Any.at_qload (T := 137) ?_); refine Any.q_ldv 1000 hA (by decide) rfl rfl 4 _ Tryz.underlying137 rfl infoD (by decide) rfl ?_; refine hK _ ?_; rfl)
          | (go_big_quiet_op; first
            | (refine hK _ ?_; rfl)
            | (refine ⟨_, fun _ _ => rfl, ?_⟩; refine hK _ ?_; rfl)
            | (apply Exists.intro; refine ⟨fun w1 hw1 => ?_, ?_⟩; · (first
                | fail)
               refine hK _ ?_; rfl))
      case hD => rfl
      simp only [Act.put, sia, scs, scz])
   | ((with_reducible refine Any.at_ealloc ?_); refine Any.E_lay rfl rfl rfl (fun _ => rfl) ?_; intro B; simp only [Act.put, sia, scs, scz])
   | ((with_reducible refine Any.at_estore (T := 26) ?_); refine Any.E_putp rfl rfl rfl rfl rfl rfl 1 infoM rfl (by show 6 + 1 ≤ 7; decide) (by simp [Value.oneCell']) (c' := #[.int .i64 base, .int .i64 n, fv, .int .u16 av, .int .u16 la, cv, (.slice (some ⟨vb, vo, none⟩) mn vc)]) (splice_w _ _ _ _ _ _ _ _) ?_; simp only [Act.put, sia, scs, scz]))
 try any_goals exact undef
 refine Any.E_nil ?_
 intro w9 hE9
 replace hv : Mem w0 w9 ([(b8, #[.int .u64 p, .int .u32 ln, .int .u16 0, .int .u16 0]), (b7, #[.int .i64 p, .int .i64 ln, .bool false]), (bw, #[.int .i64 base, .int .i64 n, fv, .int .u16 av, .int .u16 la, cv, (.slice (some ⟨vb, vo, none⟩) mn vc)]), (bc, #[.int .i64 hd, .slice (some ⟨db, d0, none⟩) dn dc, .int .i64 rm])] ++ L) _ := hE9.memr0 (L1 := [(b8, #[.int .u64 p, .int .u32 ln, .int .u16 0, .int .u16 0]), (b7, #[.int .i64 p, .int .i64 ln, .bool false]), (bw, #[.int .i64 base, .int .i64 n, fv, .int .u16 av, .int .u16 la, cv, (.slice (some ⟨mb, mo, none⟩) mn mc)]), (bc, #[.int .i64 hd, .slice (some ⟨db, d0, none⟩) dn dc, .int .i64 rm])]) hv [1000, 1001, 1002, 1003] (by decide)
 clear hE9
 simp only [List.cons_append, List.nil_append] at hv
 go_end0
 exact ⟨rfl, vb, vo, vc, R1, hv.drop.drop, HI1.out, HS1.out⟩
theorem lay_11 {w0 w : World} {L : List (Nat × Array Value)} {R : List (Nat × Value × List Value)} {mb mo mn mc : Nat} {M : List Nat} {bw bc base n av la hd db d0 dn dc rm : Nat} {fv cv : Value} {ds : List Nat} (hv : Mem w0 w ((bw, #[.int .i64 base, .int .i64 n, fv, .int .u16 av, .int .u16 la, cv, (.slice (some ⟨mb, mo, none⟩) mn mc)]) :: (bc, #[.int .i64 hd, .slice (some ⟨db, d0, none⟩) dn dc, .int .i64 rm]) :: L) R) (hm : InM R mb mo mn mc M) (hn : okN n) (hb : base + sizeN n ≤ mn) (hds : (1, .slice (some ⟨db, d0, none⟩) dn dc, intsI ds) ∈ R) (i p ln : Nat) (hln : ln < 1000000) (hp : p < 1000000) {di : Nat} (hdi : ds[i]? = some di) (hdn : di < n) (hdl : ds.length ≤ 16) (hrm : rm ≤ 100000000) (hlast : ds.length = i + 1) :
   Calls Tryz.prog 71 #[.pointer (some ⟨bw, 0, none⟩), .pointer (some ⟨bc, 0, none⟩), .int .i64 i, .agg #[.int .i64 p, .int .i64 ln, .bool true]] w fun e w' => e = .returned (.tuple #[]) ∧ ∃ vb vo vc R', Mem w0 w' ((bw, #[.int .i64 base, .int .i64 n, fv, .int .u16 av, .int .u16 la, cv, (.slice (some ⟨vb, vo, none⟩) mn vc)]) :: (bc, #[.int .i64 hd, .slice (some ⟨db, d0, none⟩) dn dc, .int .i64 ((rm + ln : Nat) : Nat)]) :: L) R' ∧ InM R' vb vo mn vc (setD M (base + 16 * di) p ln 2 0) ∧ ∀ x ∈ R, x ∈ R' := by
 have HM := Lib.hid hm
 have HN := Lib.hid hn
 have HB := Lib.hid hb
 have HDS := Lib.hid hds
 have hdnn : ds.length = dn := by
   obtain ⟨_, _, _, e, g, _⟩ := hv.rd hds
   cases e
   rw [intsI_len] at g; omega
 have hle := hn.le
 have HDN := Lib.hid hdn
 have hil : i < ds.length := (List.getElem?_eq_some_iff.1 hdi).1
 have HXI : Hid ((intsI ds)[i]? = some (.int .i64 di)) := Lib.hid (by unfold intsI; rw [List.getElem?_map, hdi]; rfl)
 have HA : Hid (p < 18446744073709551616) := Lib.hid (by omega)
 have HL4 : Hid (ln < 4294967296) := Lib.hid (by omega)
 have HF : Hid ((2 : Nat) < 65536) := Lib.hid (by decide)
 have q1 : IntKind.u64.wrap (p : Int) = (p : Int) := wrapU64 (by omega)
 have q2 : IntKind.u32.wrap (ln : Int) = (ln : Int) := wrap32 (by omega)
 have q3 : IntKind.i64.wrap ((i : Int) + 1) = (i : Int) + 1 := IntWalk.i64_in _ (by omega)
 have HX : Hid ((0 : Nat) < 65536) := Lib.hid (by decide)
 have y1 : decide ((i : Int) + 1 < (dn : Int)) = false := decide_eq_false (by omega)
 have y2 : ¬ ((i : Int) + 1 < (dn : Int)) := by omega
 have y3 : (i : Int) < (dn : Int) := by omega
 obtain ⟨rm2, hrm2⟩ : ∃ k, rm + ln = k := ⟨_, rfl⟩
 have q5 : IntKind.i64.wrap ((rm : Int) + (ln : Int)) = (rm2 : Int) := by rw [IntWalk.i64_in _ (by omega)]; omega
 have q6 : bits .or .u16 0 2 = 2 := by decide
 have HRW : Hid (rm + ln = rm2) := Lib.hid hrm2
 clear hm hn hb hds hln hp hdi hdn hdl hrm hlast hrm2 hdnn hle hil
 go_enter Tryz.func71, Tryz.ntmps71
 go_wp2_with (first
   | ((with_reducible refine at_box (T := 91) (dst := some 7) ?_); refine wl_newb rfl #[.int .i64 p, .int .i64 ln, .bool true] 91 (fun _ => rfl) ?_; intro b7 w2 hm2; replace hv := hv.madeAt hm2; clear hm2)
   | ((with_reducible refine at_load (T := 3) ?_); refine wl_ldc rfl b7 0 rfl _ hv.vars.ro _ Tryz.underlying3 rfl (.int .i64 p) rfl ?_)
   | ((with_reducible refine at_load (T := 3) ?_); refine wl_ldc rfl b7 1 rfl _ hv.vars.ro _ Tryz.underlying3 rfl (.int .i64 ln) rfl ?_)
   | ((with_reducible refine at_build ?_); refine wl_build rfl [(0, .int .u64 p), (1, .int .u32 ln)] rfl (built_d _ _) ?_)
   | ((with_reducible refine at_alloc (T := 137) (dst := some 8) ?_); refine wl_newb rfl #[.int .u64 0, .int .u32 0, .int .u16 0, .int .u16 0] 137 (fun _ => rfl) ?_; intro b8 w2 hm2; replace hv := hv.madeAt hm2; clear hm2)
   | ((with_reducible refine at_store (T := 137) ?_); refine wl_stv rfl b8 rfl _ rfl _ hv.vars.ro hv.vars.so 4 infoD rfl rfl (by simp [Value.oneCell']) ?_; intro w2 hw2; replace hv := hv.sets (by repeat first | exact .z | apply SetM.s) hw2; clear hw2)
   | ((with_reducible refine at_load (T := 22) ?_); refine wl_ldc rfl bc 1 rfl _ hv.vars.ro _ Tryz.underlying22 rfl (.slice (some ⟨db, d0, none⟩) dn dc) rfl ?_)
   | ((with_reducible refine at_load (T := 4) ?_); refine wl_ldc rfl b7 2 rfl _ hv.vars.ro _ Tryz.underlying4 rfl (.bool true) rfl ?_)
   | ((with_reducible refine at_load (T := 27) ?_); refine wl_ldc rfl b8 2 rfl _ hv.vars.ro _ Tryz.underlying27 rfl (.int .u16 0) rfl ?_)
   | ((with_reducible refine at_store (T := 27) ?_); refine wl_stc rfl b8 2 rfl (.int .u16 2) rfl _ hv.vars.ro hv.vars.so (by kernel_rfl) rfl (by show 2 < 4; decide) ?_; intro w2 hw2; replace hv := hv.sets (by repeat first | exact .z | apply SetM.s) hw2; clear hw2))
 replace hv : Mem w0 _ ([(b8, _), (b7, _), (bw, _), (bc, _)] ++ L) _ := hv
 have HPD := Lib.hid (Any.rd_start (hv.keep (List.sublist_append_left [(b8, #[.int .u64 p, .int .u32 ln, .int .u16 2, .int .u16 0]), (b7, #[.int .i64 p, .int .i64 ln, .bool true]), (bw, #[.int .i64 base, .int .i64 n, fv, .int .u16 av, .int .u16 la, cv, (.slice (some ⟨mb, mo, none⟩) mn mc)]), (bc, #[.int .i64 hd, .slice (some ⟨db, d0, none⟩) dn dc, .int .i64 rm])] L)) HDS.out)
 refine Any.wp_region_walk [⟨[], none⟩, ⟨[], none⟩, ⟨[], none⟩, ⟨[1003], none⟩, ⟨[], none⟩, ⟨[1001], none⟩, ⟨[], none⟩, ⟨[], none⟩, ⟨[], none⟩, ⟨[1003], some 1003⟩] [.val, .val, .val, .val, .val, .val, .val, .val, .val, .put] (by kernel_rfl) (by kernel_rfl) (hv.vars.keep (List.sublist_append_left [(b8, #[.int .u64 p, .int .u32 ln, .int .u16 2, .int .u16 0]), (b7, #[.int .i64 p, .int .i64 ln, .bool true]), (bw, #[.int .i64 base, .int .i64 n, fv, .int .u16 av, .int .u16 la, cv, (.slice (some ⟨mb, mo, none⟩) mn mc)]), (bc, #[.int .i64 hd, .slice (some ⟨db, d0, none⟩) dn dc, .int .i64 rm])] L)) ?_
 simp only [List.length_cons, List.length_nil, Nat.zero_add, Any.someVals]
 iterate 10 apply Exists.intro
 repeat (first
   | (refine Any.E_off rfl ?_; simp only [Act.put, sia, scs, scz])
   | (apply Any.E_pureq rfl rfl rfl
      case h => intro K hK; go_big_quiet_op; (refine hK _ ?_; rfl)
      case hr => exact fun _ => rfl
      simp only [Act.put, sia, scs, scz])
   | (apply Any.E_val rfl rfl rfl rfl
      case h =>
        intro E' hA K hK
        first
          | ((with_reducible refine Any.at_qload (T := 3) ?_); refine Any.q_ldc 1003 hA (by decide) rfl rfl _ Tryz.underlying3 rfl (.int .i64 rm) rfl ?_; refine hK _ ?_; rfl)
          | ((with_reducible refine Any.at_qload (T := 3) ?_); refine Any.q_ldc 1001 hA (by decide) rfl rfl _ Tryz.underlying3 rfl (.int .i64 ln) rfl ?_; refine hK _ ?_; rfl)
          | (go_big_quiet_op; first
            | (refine hK _ ?_; rfl)
            | (refine ⟨_, fun _ _ => rfl, ?_⟩; refine hK _ ?_; rfl)
            | (apply Exists.intro; refine ⟨fun w1 hw1 => ?_, ?_⟩; · (first
                | fail)
               refine hK _ ?_; rfl))
      case hD => rfl
      simp only [Act.put, sia, scs, scz])
   | ((with_reducible refine Any.at_ealloc ?_); refine Any.E_lay rfl rfl rfl (fun _ => rfl) ?_; intro B; simp only [Act.put, sia, scs, scz])
   | ((with_reducible refine Any.at_estore (T := 3) ?_); refine Any.E_putc (T := 3) rfl rfl rfl rfl rfl rfl (by kernel_rfl) rfl (by simp) ?_; simp only [Act.put, sia, scs, scz]))
 try any_goals exact undef
 refine Any.E_nil ?_
 intro w9 hE9
 replace hv : Mem w0 w9 ([(b8, #[.int .u64 p, .int .u32 ln, .int .u16 2, .int .u16 0]), (b7, #[.int .i64 p, .int .i64 ln, .bool true]), (bw, #[.int .i64 base, .int .i64 n, fv, .int .u16 av, .int .u16 la, cv, (.slice (some ⟨mb, mo, none⟩) mn mc)]), (bc, #[.int .i64 hd, .slice (some ⟨db, d0, none⟩) dn dc, .int .i64 rm2])] ++ L) _ := hE9.memr hv [1000, 1001, 1002, 1003] (by decide)
 clear hE9
 simp only [List.cons_append, List.nil_append] at hv
 go_wp2
 try clear HPD
 replace hv : Mem w0 _ ([(b8, _), (b7, _), (bw, _), (bc, _)] ++ L) _ := hv
 have HPD := Lib.hid (Any.rd_start (hv.keep (List.sublist_append_left [(b8, #[.int .u64 p, .int .u32 ln, .int .u16 2, .int .u16 0]), (b7, #[.int .i64 p, .int .i64 ln, .bool true]), (bw, #[.int .i64 base, .int .i64 n, fv, .int .u16 av, .int .u16 la, cv, (.slice (some ⟨mb, mo, none⟩) mn mc)]), (bc, #[.int .i64 hd, .slice (some ⟨db, d0, none⟩) dn dc, .int .i64 rm2])] L)) HDS.out)
 replace hv : Mem w0 _ ([(b8, _), (b7, _), (bw, _), (bc, _)] ++ L) _ := hv
 refine Any.wp_region_cut1 23 [⟨[], none⟩, ⟨[], none⟩, ⟨[], none⟩, ⟨[], none⟩, ⟨[1002], none⟩, ⟨[], none⟩, ⟨[], none⟩, ⟨[], none⟩, ⟨[], none⟩, ⟨[1002], none⟩, ⟨[], none⟩, ⟨[], none⟩, ⟨[], none⟩, ⟨[], none⟩, ⟨[1002], none⟩, ⟨[], none⟩, ⟨[], none⟩, ⟨[], none⟩, ⟨[1003], none⟩, ⟨[], none⟩, ⟨[], none⟩, ⟨[], none⟩, ⟨[1000], none⟩, ⟨[], none⟩, ⟨[], none⟩, ⟨[], none⟩, ⟨[], none⟩, ⟨[], none⟩, ⟨[], none⟩, ⟨[], none⟩] [.val, .val, .val, .val, .val, .val, .val, .val, .val, .val, .val, .val, .val, .val, .val, .val, .val, .val, .val, .val, .val, .val, .val] (.pointer (some ⟨bw, 0, none⟩)) (by kernel_rfl) (by kernel_rfl) (hv.vars.keep (List.sublist_append_left [(b8, #[.int .u64 p, .int .u32 ln, .int .u16 2, .int .u16 0]), (b7, #[.int .i64 p, .int .i64 ln, .bool true]), (bw, #[.int .i64 base, .int .i64 n, fv, .int .u16 av, .int .u16 la, cv, (.slice (some ⟨mb, mo, none⟩) mn mc)]), (bc, #[.int .i64 hd, .slice (some ⟨db, d0, none⟩) dn dc, .int .i64 rm2])] L)) (fun _ _ _ h => h) (.inl ⟨rfl, fun _ => by rfl⟩) ?_
 simp only [Any.someVals, List.take_succ_cons, List.take_zero, List.drop_succ_cons, List.drop_zero, Nat.reduceSub]
 simp only [Act.put, sia, scs, scz]
 iterate 23 apply Exists.intro
 repeat (first
   | (refine Any.E_off rfl ?_; simp only [Act.put, sia, scs, scz])
   | (apply Any.E_pureq rfl rfl rfl
      case h => intro K hK; go_big_quiet_op; (refine hK _ ?_; rfl)
      case hr => exact fun _ => rfl
      simp only [Act.put, sia, scs, scz])
   | (apply Any.E_val rfl rfl rfl rfl
      case h =>
        intro E' hA K hK
        first
          | ((with_reducible refine Any.at_qload (T := 26) ?_); refine Any.q_ldp 1002 hA (by decide) rfl rfl 1 _ Tryz.underlying26 rfl infoM (by decide) (show 6 + 1 ≤ 7 from by decide) #[(.slice (some ⟨mb, mo, none⟩) mn mc)] rfl ?_; refine hK _ ?_; rfl)
          | ((with_reducible refine Any.at_qload (T := 3) ?_); refine Any.q_ldc 1002 hA (by decide) rfl rfl _ Tryz.underlying3 rfl (.int .i64 base) rfl ?_; refine hK _ ?_; rfl)
          | ((with_reducible refine Any.at_qload (T := 3) ?_); refine Any.q_ldc 1002 hA (by decide) rfl rfl _ Tryz.underlying3 rfl (.int .i64 n) rfl ?_; refine hK _ ?_; rfl)
          | ((with_reducible refine Any.at_qload (T := 22) ?_); refine Any.q_ldc 1003 hA (by decide) rfl rfl _ Tryz.underlying22 rfl (.slice (some ⟨db, d0, none⟩) dn dc) rfl ?_; refine hK _ ?_; rfl)
          | ((with_reducible refine Any.at_qload (T := 3) ?_); refine Any.q_rd HPD.out (i) rfl _ Tryz.underlying3 rfl (.int .i64 di) HXI.out ?_; refine hK _ ?_; rfl)
          | ((with_reducible refine Any.at_qload (T := 137) ?_); refine Any.q_ldv 1000 hA (by decide) rfl rfl 4 _ Tryz.underlying137 rfl infoD (by decide) rfl ?_; refine hK _ ?_; rfl)
          | (go_big_quiet_op; first
            | (refine hK _ ?_; rfl)
            | (refine ⟨_, fun _ _ => rfl, ?_⟩; refine hK _ ?_; rfl)
            | (apply Exists.intro; refine ⟨fun w1 hw1 => ?_, ?_⟩; · (first
                | fail)
               refine hK _ ?_; rfl))
      case hD => rfl
      simp only [Act.put, sia, scs, scz])
   | ((with_reducible refine Any.at_ealloc ?_); refine Any.E_lay rfl rfl rfl (fun _ => rfl) ?_; intro B; simp only [Act.put, sia, scs, scz])
   | ((with_reducible refine Any.at_estore (T := 26) ?_); refine Any.E_putp rfl rfl rfl rfl rfl rfl 1 infoM rfl (by show 6 + 1 ≤ 7; decide) (by simp [Value.oneCell']) (c' := #[.int .i64 base, .int .i64 n, fv, .int .u16 av, .int .u16 la, cv, (.slice (some ⟨vb, vo, none⟩) mn vc)]) (splice_w _ _ _ _ _ _ _ _) ?_; simp only [Act.put, sia, scs, scz]))
 try any_goals exact undef
 refine Any.E_nil ?_
 intro w9 hE9
 replace hv : Mem w0 w9 ([(b8, #[.int .u64 p, .int .u32 ln, .int .u16 2, .int .u16 0]), (b7, #[.int .i64 p, .int .i64 ln, .bool true]), (bw, #[.int .i64 base, .int .i64 n, fv, .int .u16 av, .int .u16 la, cv, (.slice (some ⟨mb, mo, none⟩) mn mc)]), (bc, #[.int .i64 hd, .slice (some ⟨db, d0, none⟩) dn dc, .int .i64 rm2])] ++ L) _ := hE9.memr (L1 := [(b8, #[.int .u64 p, .int .u32 ln, .int .u16 2, .int .u16 0]), (b7, #[.int .i64 p, .int .i64 ln, .bool true]), (bw, #[.int .i64 base, .int .i64 n, fv, .int .u16 av, .int .u16 la, cv, (.slice (some ⟨mb, mo, none⟩) mn mc)]), (bc, #[.int .i64 hd, .slice (some ⟨db, d0, none⟩) dn dc, .int .i64 rm2])]) hv [1000, 1001, 1002, 1003] (by decide)
 clear hE9
 refine Any.wpOp_callv rfl rfl (Go.Proofs.enters_of Tryz.func105 (by kernel_rfl) rfl) rfl [(.agg #[(.slice (some ⟨mb, mo, none⟩) mn mc)]), .int .i64 base, .int .i64 n, .int .i64 di, .agg #[.int .u64 p, .int .u32 ln, .int .u16 2, .int .u16 0]] rfl ?_
 refine (SetDesc_M (a := p) (l := ln) (f := 2) (x := 0) hv HM.out base n di HN.out HB.out HDN.out HA.out HL4.out HF.out HX.out).mono ?_
 rintro e w1 ⟨vb, vo, vc, R1, rfl, hv1, hi1, hs1⟩
 replace hv := hv1
 have HI1 := Lib.hid hi1
 have HS1 := Lib.hid hs1
 clear hv1 hi1 hs1
 refine ⟨_, rfl, ?_⟩
 replace hv : Mem w0 _ ([(b8, _), (b7, _), (bw, _), (bc, _)] ++ L) _ := hv
 refine Any.wpAny_rest 24 [⟨[], none⟩, ⟨[], none⟩, ⟨[], none⟩, ⟨[], none⟩, ⟨[], none⟩, ⟨[1002], some 1002⟩] [.val, .val, .val, .val, .val, .put] (by kernel_rfl) (hv.vars.keep (List.sublist_append_left [(b8, #[.int .u64 p, .int .u32 ln, .int .u16 2, .int .u16 0]), (b7, #[.int .i64 p, .int .i64 ln, .bool true]), (bw, #[.int .i64 base, .int .i64 n, fv, .int .u16 av, .int .u16 la, cv, (.slice (some ⟨mb, mo, none⟩) mn mc)]), (bc, #[.int .i64 hd, .slice (some ⟨db, d0, none⟩) dn dc, .int .i64 rm2])] L)) ?_
 simp only [List.length_cons, List.length_nil, Nat.zero_add, Nat.reduceAdd, Nat.reduceSub, Any.someVals, List.drop_succ_cons, List.drop_zero]
 simp only [Act.put, sia, scs, scz]
 iterate 6 apply Exists.intro
 repeat (first
   | (refine Any.E_off rfl ?_; simp only [Act.put, sia, scs, scz])
   | (apply Any.E_pureq rfl rfl rfl
      case h => intro K hK; go_big_quiet_op; (refine hK _ ?_; rfl)
      case hr => exact fun _ => rfl
      simp only [Act.put, sia, scs, scz])
   | (apply Any.E_val rfl rfl rfl rfl
      case h =>
        intro E' hA K hK
        first
          | ((with_reducible refine Any.at_qload (T := 26) ?_); refine Any.q_ldp 1002 hA (by decide) rfl rfl 1 _ Tryz.underlying26 rfl infoM (by decide) (show 6 + 1 ≤ 7 from by decide) #[(.slice (some ⟨mb, mo, none⟩) mn mc)] rfl ?_; refine hK _ ?_; rfl)
          | ((with_reducible refine Any.at_qload (T := 3) ?_); refine Any.q_ldc 1002 hA (by decide) rfl rfl _ Tryz.underlying3 rfl (.int .i64 base) rfl ?_; refine hK _ ?_; rfl)
          | ((with_reducible refine Any.at_qload (T := 3) ?_); refine Any.q_ldc 1002 hA (by decide) rfl rfl _ Tryz.underlying3 rfl (.int .i64 n) rfl ?_; refine hK _ ?_; rfl)
          | ((with_reducible refine Any.at_qload (T := 22) ?_); refine Any.q_ldc 1003 hA (by decide) rfl rfl _ Tryz.underlying22 rfl (.slice (some ⟨db, d0, none⟩) dn dc) rfl ?_; refine hK _ ?_; rfl)
          | ((with_reducible refine Any.at_qload (T := 3) ?_); refine Any.q_rd HPD.out (i) rfl _ Tryz.underlying3 rfl (.int .i64 di) HXI.out ?_; refine hK _ ?_; rfl)
          | ((with_reducible refine Any.at_qload (T := 137) ?_); refine Any.q_ldv 1000 hA (by decide) rfl rfl 4 _ Tryz.underlying137 rfl infoD (by decide) rfl ?_; refine hK _ ?_; rfl)
          | (go_big_quiet_op; first
            | (refine hK _ ?_; rfl)
            | (refine ⟨_, fun _ _ => rfl, ?_⟩; refine hK _ ?_; rfl)
            | (apply Exists.intro; refine ⟨fun w1 hw1 => ?_, ?_⟩; · (first
                | fail)
               refine hK _ ?_; rfl))
      case hD => rfl
      simp only [Act.put, sia, scs, scz])
   | ((with_reducible refine Any.at_ealloc ?_); refine Any.E_lay rfl rfl rfl (fun _ => rfl) ?_; intro B; simp only [Act.put, sia, scs, scz])
   | ((with_reducible refine Any.at_estore (T := 26) ?_); refine Any.E_putp rfl rfl rfl rfl rfl rfl 1 infoM rfl (by show 6 + 1 ≤ 7; decide) (by simp [Value.oneCell']) (c' := #[.int .i64 base, .int .i64 n, fv, .int .u16 av, .int .u16 la, cv, (.slice (some ⟨vb, vo, none⟩) mn vc)]) (splice_w _ _ _ _ _ _ _ _) ?_; simp only [Act.put, sia, scs, scz]))
 try any_goals exact undef
 refine Any.E_nil ?_
 intro w9 hE9
 replace hv : Mem w0 w9 ([(b8, #[.int .u64 p, .int .u32 ln, .int .u16 2, .int .u16 0]), (b7, #[.int .i64 p, .int .i64 ln, .bool true]), (bw, #[.int .i64 base, .int .i64 n, fv, .int .u16 av, .int .u16 la, cv, (.slice (some ⟨vb, vo, none⟩) mn vc)]), (bc, #[.int .i64 hd, .slice (some ⟨db, d0, none⟩) dn dc, .int .i64 rm2])] ++ L) _ := hE9.memr0 (L1 := [(b8, #[.int .u64 p, .int .u32 ln, .int .u16 2, .int .u16 0]), (b7, #[.int .i64 p, .int .i64 ln, .bool true]), (bw, #[.int .i64 base, .int .i64 n, fv, .int .u16 av, .int .u16 la, cv, (.slice (some ⟨mb, mo, none⟩) mn mc)]), (bc, #[.int .i64 hd, .slice (some ⟨db, d0, none⟩) dn dc, .int .i64 rm2])]) hv [1000, 1001, 1002, 1003] (by decide)
 clear hE9
 simp only [List.cons_append, List.nil_append] at hv
 go_end0
 exact ⟨rfl, vb, vo, vc, R1, by rw [HRW.out]; exact hv.drop.drop, HI1.out, HS1.out⟩
end Go.Proofs.YtjmibgomkgkhnaaGreat
end

section
/-
 A driver hands parts over: Add.
-/
namespace Go.Proofs.Qu
open Go Go.RowKit Go.Proofs.Nm
def flP (k i : Nat) (wr : Bool) : Nat := (if i + 1 < k then 1 else 0) + (if wr then 2 else 0)
def nxP (ds : List Nat) (i : Nat) : Nat := ds.getD (i + 1) 0
def ptD (l : List Pt) (k : Nat) : Pt := l.getD k (0, 0, false)
def layM (M : List Nat) (base : Nat) (ds : List Nat) (l : List Pt) : Nat → List Nat
 | 0 => M
 | k + 1 => setD (layM M base ds l k) (base + 16 * ds.getD k 0) (ptD l k).1 (ptD l k).2.1 (flP ds.length k (ptD l k).2.2) (nxP ds k)
def roomP (l : List Pt) : Nat → Nat
 | 0 => 0
 | k + 1 => roomP l k + (if (ptD l k).2.2 then (ptD l k).2.1 else 0)
theorem roomP_le (l : List Pt) (B : Nat) (h : ∀ p ∈ l, p.2.1 ≤ B) : ∀ k, k ≤ l.length → roomP l k ≤ k * B := by
 intro k
 induction k with
 | zero => intro _; exact Nat.zero_le _
 | succ k ih =>
   intro hk
   have h1 := ih (by omega)
   have h2 : (ptD l k).2.1 ≤ B := by
     unfold ptD
     rw [List.getD_eq_getElem?_getD, List.getElem?_eq_getElem (by omega)]
     exact h _ (List.getElem_mem _)
   show roomP l k + _ ≤ _
   rw [Nat.succ_mul]
   split <;> omega
def addM (M : List Nat) (base n av : Nat) (free : List Nat) (l : List Pt) : List Nat := offerM (layM M base (free.take l.length) l l.length) base n av (free.getD 0 0)
theorem sliced_zero {ao : Option Addr} {h m k : Nat} : Go.sliced ao 0 h m k = .slice ao h m := by
 unfold Go.sliced
 cases ao <;> simp [Addr.add]
theorem sub3 {α : Type} (a b c : α) (L : List α) : (a :: b :: L).Sublist (a :: b :: c :: L) := .cons_cons _ (.cons_cons _ (.cons _ (List.Sublist.refl _)))
theorem encC_one (c : Chn) : ∀ x ∈ encC c, x.oneCell' = true := fun x hx => by
 unfold encC at hx
 simp at hx
 rcases hx with rfl | rfl | rfl <;> rfl
theorem cellsC_snoc (l : List Chn) (c : Chn) : cellsC (l ++ [c]) = cellsC l ++ encC c := by unfold cellsC; simp
end Go.Proofs.Qu
namespace Go.Proofs.YtjmibgomkgkhnaaGreat
open Go.Proofs.Qu Go.Proofs.Nm Go.RowKit Go.Proofs
theorem lay_any {w0 w : World} {L : List (Nat × Array Value)} {R : List (Nat × Value × List Value)} {mb mo mn mc : Nat} {M : List Nat} {bw bc base n av la hd db d0 dn dc rm : Nat} {fv cv : Value} {ds : List Nat} (hv : Mem w0 w ((bw, #[.int .i64 base, .int .i64 n, fv, .int .u16 av, .int .u16 la, cv, (.slice (some ⟨mb, mo, none⟩) mn mc)]) :: (bc, #[.int .i64 hd, .slice (some ⟨db, d0, none⟩) dn dc, .int .i64 rm]) :: L) R) (hm : InM R mb mo mn mc M) (hn : okN n) (hb : base + sizeN n ≤ mn) (hds : (1, .slice (some ⟨db, d0, none⟩) dn dc, intsI ds) ∈ R) (i p ln : Nat) (wr : Bool) (hln : ln < 1000000) (hp : p < 1000000) {di : Nat} (hdi : ds[i]? = some di) (hdlt : ∀ x ∈ ds, x < n) (hdl : ds.length ≤ 16) (hrm : rm ≤ 100000000) :
   Calls Tryz.prog 71 #[.pointer (some ⟨bw, 0, none⟩), .pointer (some ⟨bc, 0, none⟩), .int .i64 i, .agg #[.int .i64 p, .int .i64 ln, .bool wr]] w fun e w' => e = .returned (.tuple #[]) ∧ ∃ vb vo vc R', Mem w0 w' ((bw, #[.int .i64 base, .int .i64 n, fv, .int .u16 av, .int .u16 la, cv, (.slice (some ⟨vb, vo, none⟩) mn vc)]) :: (bc, #[.int .i64 hd, .slice (some ⟨db, d0, none⟩) dn dc, .int .i64 ((rm + (if wr then ln else 0) : Nat) : Nat)]) :: L) R' ∧ InM R' vb vo mn vc (setD M (base + 16 * di) p ln (flP ds.length i wr) (nxP ds i)) ∧ ∀ x ∈ R, x ∈ R' := by
 have hil := (List.getElem?_eq_some_iff.1 hdi).1
 have hdn : di < n := hdlt _ (List.mem_of_getElem? hdi)
 by_cases hc : i + 1 < ds.length
 · have hnx : ds[i + 1]? = some (nxP ds i) := by unfold nxP; rw [List.getD_eq_getElem?_getD, List.getElem?_eq_getElem hc]; rfl
   have hnn : nxP ds i < n := hdlt _ (List.mem_of_getElem? hnx)
   cases wr
   · have h := lay_00 hv hm hn hb hds i p ln hln hp hdi hdn hdl hrm hnx hnn
     have e : flP ds.length i false = 1 := by unfold flP; rw [if_pos hc]; rfl
     rw [e]
     exact h
   · have h := lay_01 hv hm hn hb hds i p ln hln hp hdi hdn hdl hrm hnx hnn
     have e : flP ds.length i true = 3 := by unfold flP; rw [if_pos hc]; rfl
     rw [e]
     exact h
 · have hnx : nxP ds i = 0 := by unfold nxP; rw [List.getD_eq_getElem?_getD, List.getElem?_eq_none (by omega)]; rfl
   cases wr
   · have h := lay_10 hv hm hn hb hds i p ln hln hp hdi hdn hdl hrm (by omega)
     have e : flP ds.length i false = 0 := by unfold flP; rw [if_neg hc]; rfl
     rw [e, hnx]
     exact h
   · have h := lay_11 hv hm hn hb hds i p ln hln hp hdi hdn hdl hrm (by omega)
     have e : flP ds.length i true = 2 := by unfold flP; rw [if_neg hc]; rfl
     rw [e, hnx]
     exact h
theorem Clip_ok (ca : Option Addr) (cn cc : Nat) (h : cn ≤ cc) (w : World) : Calls Tryz.prog 73 #[.slice ca cn cc] w fun e w' => e = .returned (.slice ca cn cn) ∧ New w w' := by
 have hv := Mem.nil w
 have y : (cn : Int) ≤ (cc : Int) := by omega
 clear h
 go_enter Tryz.func73, Tryz.ntmps73
 go_wp2
 go_ret
 exact ⟨rfl, hv.below⟩
theorem built_wrk (base n av la mb mo mn mc : Nat) (fv cv : Value) : Tryz.prog.built 146 [(0, .agg #[.int .i64 base, .int .i64 n, fv, .int .u16 av, .int .u16 la, cv]), (1, (.agg #[(.slice (some ⟨mb, mo, none⟩) mn mc)]))] = some #[.int .i64 base, .int .i64 n, fv, .int .u16 av, .int .u16 la, cv, (.slice (some ⟨mb, mo, none⟩) mn mc)] := by kernel_rfl
theorem built_chn (h db kn dc : Nat) : Tryz.prog.built 124 [(0, .int .i64 h), (1, .slice (some ⟨db, 0, none⟩) kn dc)] = some #[.int .i64 h, .slice (some ⟨db, 0, none⟩) kn dc, .int .i64 0] := by kernel_rfl
theorem infoC3z : (Tryz.prog.info? 124).map (fun i => (i.zero, i.size, i.bytes)) = some (some (.agg #[.int .i64 0, .slice none 0 0, .int .i64 0]), 3, 40) := by kernel_rfl
theorem infoI1 : (Tryz.prog.info? 3).map (·.size) = some 1 := by kernel_rfl
theorem Add_ok {w0 w : World} {L : List (Nat × Array Value)} {R : List (Nat × Value × List Value)} {mb mo mn mc : Nat} {M : List Nat} (hv : Mem w0 w L R) (hm : InM R mb mo mn mc M) {base n av la : Nat} {fv cv : Value} {free : List Nat} {chs : List Chn} (hq : InQ R fv cv free chs) (hok : OkQ n free chs) (hb : base + sizeN n ≤ mn) {lv : Value} {l : List Pt} (hl : (3, lv, cellsPt l) ∈ R) (h1 : 0 < l.length) (hfl : l.length ≤ free.length) (hlie : ∀ p ∈ l, 0 < p.2.1 ∧ p.1 + p.2.1 ≤ mn) (hav : av < 65536) :
   Calls Tryz.prog 38 #[(.agg #[(.slice (some ⟨mb, mo, none⟩) mn mc)]), .agg #[.int .i64 base, .int .i64 n, fv, .int .u16 av, .int .u16 la, cv], lv] w fun e w' => ∃ vb vc fv' cv' c R', e = .returned (.tuple #[.agg #[.slice (some ⟨vb, 0, none⟩) mn vc], .agg #[.int .i64 base, .int .i64 n, fv', .int .u16 ((av + 1) % 65536 : Nat), .int .u16 la, cv'], .int .i64 (free.getD 0 0 : Nat), .int .i64 0]) ∧ Mem w0 w' L R' ∧ InM R' vb 0 mn vc (addM M base n av free l) ∧ InQ R' fv' cv' (free.drop l.length) (chs ++ [c]) ∧ c.h = free.getD 0 0 ∧ c.ds = free.take l.length ∧ c.rm = roomP l l.length ∧ ∀ x ∈ R, x ∈ R' := by
 obtain ⟨fa, fn, fc, rfl, gf, gfc, _⟩ := id (hv.rd hq.fr)
 obtain ⟨ca, cn, cc, rfl, gc, gcc, _⟩ := id (hv.rd hq.ch)
 obtain ⟨la_, kn, lc, rfl, gl, _⟩ := id (hv.rd hl)
 rw [intsI_len, Nat.mul_one] at gf
 rw [cellsC_len] at gc
 rw [cellsPt_len] at gl
 have hkn : l.length = kn := by omega
 have hcn : chs.length = cn := by omega
 have hle := hok.sz.le
 have hlen := hok.len
 have hlt := hok.le
 have hchl := chs_len (fun c hc => (hok.hd c hc).1)
 have hm8 := hm.most
 have hv1 := ((hv.sliced hq.fr (l := 0) (h := kn) (m := fc) (Nat.zero_le _) (by omega) (by omega) (Nat.le_refl _)).sliced (Mem.s hq.fr) (l := kn) (h := fn) (m := fc) (by omega) (Nat.le_refl _) gfc (Nat.le_refl _)).sliced (Mem.s (Mem.s hq.ch)) (l := 0) (h := cn) (m := cn) (Nat.zero_le _) (Nat.le_refl _) (Nat.le_refl _) gcc
 have e1 : ((intsI free).drop (0 * 1)).take ((kn - 0) * 1) = intsI (free.take kn) := by unfold intsI; rw [Nat.zero_mul, List.drop_zero, Nat.sub_zero, Nat.mul_one, List.map_take]
 have e2 : ((intsI free).drop (kn * 1)).take ((fn - kn) * 1) = intsI (free.drop kn) := by unfold intsI; rw [Nat.mul_one, Nat.mul_one, List.map_drop, List.take_of_length_le (by rw [List.length_drop, List.length_map]; omega)]
 have e3 : ((cellsC chs).drop (0 * 3)).take ((cn - 0) * 3) = cellsC chs := by rw [Nat.zero_mul, List.drop_zero, Nat.sub_zero, List.take_of_length_le (by rw [cellsC_len]; omega)]
 rw [e1, e2, e3] at hv1
 obtain ⟨R1, hR1⟩ : ∃ R1, R1 = (3, Go.sliced ca 0 cn cn 3, cellsC chs) :: (1, Go.sliced fa kn fn fc 1, intsI (free.drop kn)) :: (1, Go.sliced fa 0 kn fc 1, intsI (free.take kn)) :: R := ⟨_, rfl⟩
 rw [← hR1] at hv1
 have hsub : ∀ x ∈ R, x ∈ R1 := fun x hx => by rw [hR1]; exact Mem.s (Mem.s (Mem.s hx))
 have hx1 : (1, Go.sliced fa 0 kn fc 1, intsI (free.take kn)) ∈ R1 := by rw [hR1]; exact Mem.s (Mem.s Mem.z)
 have hx2 : (1, Go.sliced fa kn fn fc 1, intsI (free.drop kn)) ∈ R1 := by rw [hR1]; exact Mem.s Mem.z
 have hx3 : (3, Go.sliced ca 0 cn cn 3, cellsC chs) ∈ R1 := by rw [hR1]; exact Mem.z
 clear hR1 e1 e2 e3 hv
 have hv := hv1
 clear hv1
 have HSUBR := Lib.hid hsub
 have HM := Lib.hid (hm.mono hsub)
 have HQ := Lib.hid (hq.mono hsub)
 have HLV := Lib.hid (hsub _ hl)
 obtain ⟨s1a, hs1⟩ := sliced_len (ao := fa) (l := 0) (h := kn) (m := fc) (k := 1)
 obtain ⟨s2a, hs2⟩ := sliced_len (ao := fa) (l := kn) (h := fn) (m := fc) (k := 1)
 have hs3 : Go.sliced ca 0 cn cn 3 = .slice ca cn cn := sliced_zero
 simp only [Nat.sub_zero] at hs1
 have hdsl : (free.take kn).length = kn := by rw [List.length_take]; omega
 obtain ⟨ds, hds⟩ : ∃ ds, free.take kn = ds := ⟨_, rfl⟩
 have hfr0 : 0 < free.length := by omega
 obtain ⟨hd, hhd⟩ : ∃ hd, free.getD 0 0 = hd := ⟨_, rfl⟩
 have hf0 : free[0]? = some hd := by rw [← hhd, List.getD_eq_getElem?_getD, List.getElem?_eq_getElem hfr0]; rfl
 have hdn : hd < n := hlt hd (List.mem_append_left _ (List.mem_of_getElem? hf0))
 rw [hs1, hds] at hx1
 rw [hds] at hdsl
 rw [hs2] at hx2
 rw [hs3] at hx3
 obtain ⟨s1b, s1o, _, _, e9, hq9⟩ := (hv.rd hx1).some (by rw [intsI_len]; omega)
 clear hq9
 cases e9
 obtain ⟨fb, fo, _, _, e9, hq9⟩ := (hv.rd (hsub _ hq.fr)).some (by rw [intsI_len]; omega)
 clear hq9
 cases e9
 have HS1 := Lib.hid hs1
 have HS2 := Lib.hid hs2
 have HX1 := Lib.hid hx1
 have HF2 := Lib.hid hx2
 have HX3 := Lib.hid hx3
 have HHD : Hid ((intsI free)[0]? = some (.int .i64 hd)) := Lib.hid (by unfold intsI; rw [List.getElem?_map, hf0]; rfl)
 have HOK := Lib.hid hok
 have HB := Lib.hid hb
 have HL1 : Hid (l.length ≤ 100000) := Lib.hid (by omega)
 have HLI := Lib.hid hlie
 have HAV := Lib.hid hav
 have HHF : Hid (hd < 65536) := Lib.hid (by omega)
 have HKC : Hid (kn ≤ fc) := Lib.hid (by omega)
 have HKF : Hid (kn ≤ fn) := Lib.hid (by omega)
 have HF4 : Hid ((free.drop kn).length ≤ 1000) := Lib.hid (by rw [List.length_drop]; omega)
 have HD16 : Hid (ds.length ≤ 16) := Lib.hid (by omega)
 have HDSL := Lib.hid hdsl
 have HDLT : Hid (∀ x ∈ ds, x < n) := Lib.hid (fun x hx => hlt x (List.mem_append_left _ (by rw [← hds] at hx; exact List.mem_of_mem_take hx)))
 have HDSE := Lib.hid hds
 have HHDE := Lib.hid hhd
 have HKN := Lib.hid hkn
 have HCN := Lib.hid hcn
 have HCLE : Hid (chs.length ≤ 16) := Lib.hid (by omega)
 have HCL : Hid (∀ w, Calls Tryz.prog 73 #[.slice ca cn cc] w fun e w' => e = .returned (.slice ca cn cn) ∧ New w w') := Lib.hid (fun w => Clip_ok ca cn cc gcc w)
 have HM8 : Hid (mn ≤ 8192) := Lib.hid hm8
 have HWS : Hid (∃ v x, AppRow v 1 (intsI ds) x) := Lib.hid (Any.AppRow.some (k := 1) (n := kn) (by rw [intsI_len, hdsl, Nat.mul_one]) (by unfold maxLen; omega))
 have HIC : Hid (∀ w1, Rd w1 1 (.slice (some ⟨s1b, s1o, none⟩) kn fc) (intsI ds) → Calls Tryz.prog 70 #[.slice (some ⟨s1b, s1o, none⟩) kn fc] w1 fun e w' => ∃ v x, e = .returned v ∧ AppRow v 1 (intsI ds) x ∧ New w1 w' ∧ w1.heap.size ≤ x.1 ∧ w'.rowD x.1 = x.2 ∧ w'.soft x.1 = true) := Lib.hid (fun w1 hr => by
   refine (IClone_M ((Mem.nil w1).old hr) Mem.z (intsI_one _) (by omega)).mono ?_
   rintro e w' ⟨b, c3, z, rfl, hrow, hv1⟩
   have hx := hv1.vars.rows (b, z) (List.mem_cons_self ..)
   exact ⟨_, (b, z), rfl, hrow, hv1.below, hx.2.2, hx.1, hx.2.1⟩)
 have y1 : decide ((kn : Int) < 1) = false := decide_eq_false (by omega)
 have z1 : decide (kn < 1) = false := decide_eq_false (by omega)
 have y2 : decide ((n : Int) < (kn : Int)) = false := decide_eq_false (by omega)
 have z2 : decide (n < kn) = false := decide_eq_false (by omega)
 have y3 : decide ((fn : Int) < (kn : Int)) = false := decide_eq_false (by omega)
 have z3 : decide (fn < kn) = false := decide_eq_false (by omega)
 have y4 : (0 : Int) < (fn : Int) := by omega
 obtain ⟨av2, hav2⟩ : ∃ j, (av + 1) % 65536 = j := ⟨_, rfl⟩
 have q3 : IntKind.u16.wrap ((av : Int) + 1) = (av2 : Int) := by rw [inc16, hav2]
 rw [hav2, hkn, hhd, hds]
 clear hm hq hok hb hl h1 hfl hlie hav gf gfc gc gcc gl hkn hcn hle hlen hlt hchl hm8 hsub hx1 hx2 hx3 hdsl hfr0 hf0 hdn hav2 hs1 hs2 hs3 hhd hds
 go_enter Tryz.func38, Tryz.ntmps38
 go_wp2_with (first
   | ((with_reducible refine at_box (T := 26) (dst := some 3) ?_); refine wl_newb rfl #[(.slice (some ⟨mb, mo, none⟩) mn mc)] 26 (fun _ => rfl) ?_; intro b3 w2 hm2; replace hv := hv.madeAt hm2; clear hm2)
   | ((with_reducible refine at_box (T := 30) (dst := some 4) ?_); refine wl_newb rfl #[.int .i64 base, .int .i64 n, .slice (some ⟨fb, fo, none⟩) fn fc, .int .u16 av, .int .u16 la, .slice ca cn cc] 30 (fun _ => rfl) ?_; intro b4 w2 hm2; replace hv := hv.madeAt hm2; clear hm2)
   | ((with_reducible refine at_alloc (T := 26) (dst := some 6) ?_); refine wl_newb rfl #[.slice none 0 0] 26 (fun _ => rfl) ?_; intro b6 w2 hm2; replace hv := hv.madeAt hm2; clear hm2)
   | ((with_reducible refine at_alloc (T := 30) (dst := some 7) ?_); refine wl_newb rfl #[.int .i64 0, .int .i64 0, .slice none 0 0, .int .u16 0, .int .u16 0, .slice none 0 0] 30 (fun _ => rfl) ?_; intro b7 w2 hm2; replace hv := hv.madeAt hm2; clear hm2)
   | ((with_reducible refine at_load (T := 26) ?_); refine wl_ldv rfl b3 rfl _ hv.vars.ro 1 _ Tryz.underlying26 rfl infoM (by decide) rfl ?_)
   | ((with_reducible refine at_load (T := 30) ?_); refine wl_ldv rfl b4 rfl _ hv.vars.ro 6 _ Tryz.underlying30 rfl infoQ (by decide) rfl ?_)
   | (go_at_call 61; (with_reducible refine (QRight_ok hv HM.out HQ.out HOK.out HB.out).mono ?_); rintro e w1 ⟨rfl, hn1⟩; replace hv := hv.new hn1; clear hn1)
   | ((with_reducible refine at_load (T := 3) ?_); refine wl_ldc rfl b4 1 rfl _ hv.vars.ro _ Tryz.underlying3 rfl (.int .i64 n) rfl ?_)
   | ((with_reducible refine at_load (T := 22) ?_); refine wl_ldc rfl b4 2 rfl _ hv.vars.ro _ Tryz.underlying22 rfl (.slice (some ⟨fb, fo, none⟩) fn fc) rfl ?_)
   | (go_at_call 67; (refine (Contains_no (l := l) (f := 68) (cap := #[.pointer (some ⟨b3, 0, none⟩)]) HL1.out (Go.Proofs.enters_of Tryz.func68 (by kernel_rfl) rfl) _ (hv.rd HLV.out) (fun p hp w1 hn => Add1_ok HM.out.ok p.1 p.2.1 p.2.2 (HLI.out p hp).1 (HLI.out p hp).2 w1 ((New.row hn (hv.vars.lt (b := b3) (by repeat first | exact mz | apply ms))).trans (hv.vars.ro (b := b3))) (Nat.lt_of_lt_of_le (hv.vars.lt (b := b3) (by repeat first | exact mz | apply ms)) hn.size) ((hv.rd HM.out.rd).new hn))).mono ?_); rintro e w1 ⟨rfl, hn1⟩; replace hv := hv.new hn1; clear hn1)
   | ((with_reducible refine at_build ?_); refine wl_build rfl _ rfl (built_wrk _ _ _ _ _ _ _ _ _ _) ?_)
   | ((with_reducible refine at_box (T := 146) (dst := some 51) ?_); refine wl_newb rfl #[.int .i64 base, .int .i64 n, .slice (some ⟨fb, fo, none⟩) fn fc, .int .u16 av, .int .u16 la, .slice ca cn cc, (.slice (some ⟨mb, mo, none⟩) mn mc)] 146 (fun _ => rfl) ?_; intro b51 w2 hm2; replace hv := hv.madeAt hm2; clear hm2))
 replace hv : Mem w0 _ ([(b51, _), (b7, _), (b6, _), (b4, _), (b3, _)] ++ L) _ := hv
 have HPF := Lib.hid (Any.rd_start (hv.keep (List.sublist_append_left [(b51, #[.int .i64 base, .int .i64 n, .slice (some ⟨fb, fo, none⟩) fn fc, .int .u16 av, .int .u16 la, .slice ca cn cc, (.slice (some ⟨mb, mo, none⟩) mn mc)]), (b7, #[.int .i64 0, .int .i64 0, .slice none 0 0, .int .u16 0, .int .u16 0, .slice none 0 0]), (b6, #[.slice none 0 0]), (b4, #[.int .i64 base, .int .i64 n, .slice (some ⟨fb, fo, none⟩) fn fc, .int .u16 av, .int .u16 la, .slice ca cn cc]), (b3, #[(.slice (some ⟨mb, mo, none⟩) mn mc)])] L)) HQ.out.fr)
 have HPS := Lib.hid (Any.rd_start (hv.keep (List.sublist_append_left [(b51, #[.int .i64 base, .int .i64 n, .slice (some ⟨fb, fo, none⟩) fn fc, .int .u16 av, .int .u16 la, .slice ca cn cc, (.slice (some ⟨mb, mo, none⟩) mn mc)]), (b7, #[.int .i64 0, .int .i64 0, .slice none 0 0, .int .u16 0, .int .u16 0, .slice none 0 0]), (b6, #[.slice none 0 0]), (b4, #[.int .i64 base, .int .i64 n, .slice (some ⟨fb, fo, none⟩) fn fc, .int .u16 av, .int .u16 la, .slice ca cn cc]), (b3, #[(.slice (some ⟨mb, mo, none⟩) mn mc)])] L)) HX1.out)
 refine Any.wp_region_walk [⟨[], none⟩, ⟨[1003], none⟩, ⟨[], none⟩, ⟨[], none⟩, ⟨[], none⟩, ⟨[1003], none⟩, ⟨[], none⟩, ⟨[], none⟩, ⟨[], some 8⟩, ⟨[], none⟩, ⟨[], some 10⟩, ⟨[10], some 10⟩] [.val, .val, .val, .val, .val, .val, .val, .val, .own (fun v x => AppRow v 1 (intsI ds) x), .pure, .lay #[.int .i64 0, .slice none 0 0, .int .i64 0], .put] (by kernel_rfl) (by kernel_rfl) (hv.vars.keep (List.sublist_append_left [(b51, #[.int .i64 base, .int .i64 n, .slice (some ⟨fb, fo, none⟩) fn fc, .int .u16 av, .int .u16 la, .slice ca cn cc, (.slice (some ⟨mb, mo, none⟩) mn mc)]), (b7, #[.int .i64 0, .int .i64 0, .slice none 0 0, .int .u16 0, .int .u16 0, .slice none 0 0]), (b6, #[.slice none 0 0]), (b4, #[.int .i64 base, .int .i64 n, .slice (some ⟨fb, fo, none⟩) fn fc, .int .u16 av, .int .u16 la, .slice ca cn cc]), (b3, #[(.slice (some ⟨mb, mo, none⟩) mn mc)])] L)) ?_
 simp only [List.length_cons, List.length_nil, Nat.zero_add, Any.someVals]
 iterate 12 apply Exists.intro
 repeat (first
   | (refine Any.E_off rfl ?_; simp only [Act.put, sia, scs, scz])
   | (apply Any.E_pureq rfl rfl rfl
      case h => intro K hK; go_big_quiet_op; (refine hK _ ?_; rfl)
      case hr => exact fun _ => rfl
      simp only [Act.put, sia, scs, scz])
   | (apply Any.E_val rfl rfl rfl rfl
      case h =>
        intro E' hA K hK
        first
          | ((with_reducible refine Any.at_qload (T := 22) ?_); refine Any.q_ldc 1003 hA (by decide) rfl rfl _ Tryz.underlying22 rfl (.slice (some ⟨fb, fo, none⟩) fn fc) rfl ?_; refine hK _ ?_; rfl)
          | ((with_reducible refine Any.at_qload (T := 3) ?_); refine Any.q_rd HPF.out (0) rfl _ Tryz.underlying3 rfl (.int .i64 hd) HHD.out ?_; refine hK _ ?_; rfl)
          | ((with_reducible refine Any.at_qslice (T := 22) ?_); refine Any.q_slice rfl Tryz.underlying22 infoI1 none (some (.int .i64 kn)) none rfl rfl rfl 0 kn fc (fun w => bounds_h HKC.out) HS1.out ?_; refine hK _ ?_; rfl)
          | (go_big_quiet_op; first
            | (refine hK _ ?_; rfl)
            | (refine ⟨_, fun _ _ => rfl, ?_⟩; refine hK _ ?_; rfl)
            | (apply Exists.intro; refine ⟨fun w1 hw1 => ?_, ?_⟩; · (first
                | fail)
               refine hK _ ?_; rfl))
      case hD => rfl
      simp only [Act.put, sia, scs, scz])
   | ((with_reducible refine Any.at_ealloc ?_); refine Any.E_lay rfl rfl rfl (fun _ => rfl) ?_; intro b12; simp only [Act.put, sia, scs, scz])
   | ((with_reducible refine Any.at_ecall ?_); refine Any.E_callown (W := (fun v x => AppRow v 1 (intsI ds) x)) rfl rfl rfl (Go.Proofs.enters_of Tryz.func70 (by kernel_rfl) rfl) rfl [.slice (some ⟨s1b, s1o, none⟩) kn fc] rfl HWS.out (fun E' w1 hw1 => HIC.out w1 (hw1.rdold HPS.out.1 HPS.out.2)) ?_; intro v8 x8 hW8; obtain ⟨db, x8z⟩ := x8; obtain ⟨n8, dc, rfl, g8⟩ := id hW8; replace g8 := Lib.hid g8; replace hW8 := Lib.hid hW8; simp only [Act.put, sia, scs, scz])
   | (refine Any.E_build rfl rfl rfl _ rfl (built_chn _ _ _ _) ?_; simp only [Act.put, sia, scs, scz])
   | ((with_reducible refine Any.at_estore (T := 124) ?_); refine Any.E_putv (T := 124) rfl rfl rfl rfl rfl rfl 3 infoC3 rfl rfl (by simp [Value.oneCell']) ?_; simp only [Act.put, sia, scs, scz]))
 try any_goals exact undef
 refine Any.E_nil ?_
 intro w9 hE9
 replace hv : Mem w0 w9 ([(b51, #[.int .i64 base, .int .i64 n, .slice (some ⟨fb, fo, none⟩) fn fc, .int .u16 av, .int .u16 la, .slice ca cn cc, (.slice (some ⟨mb, mo, none⟩) mn mc)]), (b12, #[.int .i64 hd, .slice (some ⟨db, 0, none⟩) n8 dc, .int .i64 0]), (b7, #[.int .i64 0, .int .i64 0, .slice none 0 0, .int .u16 0, .int .u16 0, .slice none 0 0]), (b6, #[.slice none 0 0]), (b4, #[.int .i64 base, .int .i64 n, .slice (some ⟨fb, fo, none⟩) fn fc, .int .u16 av, .int .u16 la, .slice ca cn cc]), (b3, #[(.slice (some ⟨mb, mo, none⟩) mn mc)]), (db, x8z)] ++ L) _ := hE9.memr hv [1000, 10, 1001, 1002, 1003, 1004, 8] (by decide)
 clear hE9
 simp only [List.cons_append, List.nil_append] at hv
 clear HPF HPS
 have hn8 : kn = n8 := by
   obtain ⟨n9, c9, e9, h9, _⟩ := hW8.out
   cases e9
   rw [intsI_len, HDSL.out] at h9; omega
 subst hn8
 have hv1 := Mem.yield (L1 := [(b51, #[.int .i64 base, .int .i64 n, .slice (some ⟨fb, fo, none⟩) fn fc, .int .u16 av, .int .u16 la, .slice ca cn cc, (.slice (some ⟨mb, mo, none⟩) mn mc)]), (b12, #[.int .i64 hd, .slice (some ⟨db, 0, none⟩) kn dc, .int .i64 0]), (b7, #[.int .i64 0, .int .i64 0, .slice none 0 0, .int .u16 0, .int .u16 0, .slice none 0 0]), (b6, #[.slice none 0 0]), (b4, #[.int .i64 base, .int .i64 n, .slice (some ⟨fb, fo, none⟩) fn fc, .int .u16 av, .int .u16 la, .slice ca cn cc]), (b3, #[(.slice (some ⟨mb, mo, none⟩) mn mc)])]) (L2 := L) hv hW8.out
 simp only [List.cons_append, List.nil_append] at hv1
 clear hv g8
 have hv := hv1
 clear hv1
 obtain ⟨R2, hR2⟩ : ∃ R2, R2 = (1, Value.slice (some ⟨db, 0, none⟩) kn dc, intsI ds) :: R1 := ⟨_, rfl⟩
 rw [← hR2] at hv
 have HSUB : Hid (∀ x ∈ R1, x ∈ R2) := Lib.hid (fun x hx => by rw [hR2]; exact Mem.s hx)
 have HDV : Hid ((1, Value.slice (some ⟨db, 0, none⟩) kn dc, intsI ds) ∈ R2) := Lib.hid (by rw [hR2]; exact Mem.z)
 clear hR2 hW8
 go_wp2
 go_loopw [64] (fun kv wr => ∃ (k mbk mok mck : Nat) (R3 : List (Nat × Value × List Value)), k ≤ kn ∧ kv = .int .i64 k ∧ Mem w0 wr ((b51, #[.int .i64 base, .int .i64 n, .slice (some ⟨fb, fo, none⟩) fn fc, .int .u16 av, .int .u16 la, .slice ca cn cc, (.slice (some ⟨mbk, mok, none⟩) mn mck)]) :: (b12, #[.int .i64 hd, .slice (some ⟨db, 0, none⟩) kn dc, .int .i64 (roomP l k : Nat)]) :: (b7, #[.int .i64 0, .int .i64 0, .slice none 0 0, .int .u16 0, .int .u16 0, .slice none 0 0]) :: (b6, #[.slice none 0 0]) :: (b4, #[.int .i64 base, .int .i64 n, .slice (some ⟨fb, fo, none⟩) fn fc, .int .u16 av, .int .u16 la, .slice ca cn cc]) :: (b3, #[(.slice (some ⟨mb, mo, none⟩) mn mc)]) :: L) R3 ∧ Hid (InM R3 mbk mok mn mck (layM M base ds l k)) ∧ Hid (∀ x ∈ R2, x ∈ R3)) (fun kv _ => kn - (intOf kv).toNat)
 case atStart => exact ⟨0, mb, mo, mc, R2, Nat.zero_le _, rfl, hv, Lib.hid (HM.out.mono HSUB.out), Lib.hid (fun x hx => hx)⟩
 case round =>
   clear hv
   obtain ⟨k, mbk, mok, mck, R3, hk0, rfl, hv, HMK, HSUB3⟩ := hrel
   obtain ⟨rm, hrm⟩ : ∃ rm, roomP l k = rm := ⟨_, rfl⟩
   rw [hrm] at hv
   have hrmk : rm ≤ 100000000 := by
     have h1 := roomP_le l 8192 (fun p hp => by have := HLI.out p hp; have := HM8.out; omega) k (by rw [HKN.out]; exact hk0)
     have h2 := HD16.out
     have h3 := HDSL.out
     have h4 : k * 8192 ≤ 16 * 8192 := Nat.mul_le_mul_right _ (by omega)
     omega
   have HRK := Lib.hid hrmk
   have HRM := Lib.hid hrm
   clear hrm hrmk
   by_cases hk : k < kn
   · have hki : (k : Int) < (kn : Int) := by omega
     have hkb : (k : Int) ≤ 100000 := by have := HD16.out; have := HDSL.out; omega
     have hkl : k < l.length := by rw [HKN.out]; exact hk
     obtain ⟨⟨p, ln, wr⟩, hc⟩ : ∃ c, l[k] = c := ⟨_, rfl⟩
     have HKL : Hid (((cellsPt l).drop (k * 3)).take 3 = [.int .i64 p, .int .i64 ln, .bool wr]) := Lib.hid (by
       have := part_cells l hkl
       rw [hc] at this; exact this)
     have hpt : ptD l k = (p, ln, wr) := by unfold ptD; rw [List.getD_eq_getElem?_getD, List.getElem?_eq_getElem hkl, hc]; rfl
     have hli := HLI.out l[k] (List.getElem_mem _)
     rw [hc] at hli
     have HLN1 : Hid (ln < 1000000) := Lib.hid (by have := HM8.out; have := hli.2; simp only at this; omega)
     have HPL1 : Hid (p < 1000000) := Lib.hid (by have := HM8.out; have := hli.2; simp only at this; omega)
     have hkd : k < ds.length := by rw [HDSL.out]; exact hk
     obtain ⟨di, hdi⟩ : ∃ di, ds[k] = di := ⟨_, rfl⟩
     have HDI : Hid (ds[k]? = some di) := Lib.hid (by rw [List.getElem?_eq_getElem hkd, hdi])
     have HLE : Hid (setD (layM M base ds l k) (base + 16 * di) p ln (flP ds.length k wr) (nxP ds k) = layM M base ds l (k + 1)) := Lib.hid (by
       show _ = setD (layM M base ds l k) (base + 16 * ds.getD k 0) (ptD l k).1 (ptD l k).2.1 (flP ds.length k (ptD l k).2.2) (nxP ds k)
       rw [hpt, List.getD_eq_getElem?_getD, HDI.out]
       rfl)
     have HRE : Hid (rm + (if wr then ln else 0) = roomP l (k + 1)) := Lib.hid (by
       show _ = roomP l k + (if (ptD l k).2.2 then (ptD l k).2.1 else 0)
       rw [hpt, HRM.out])
     obtain ⟨xb, xo, _, _, e, hq⟩ := (hv.rd (HSUB3.out _ (HSUB.out _ HLV.out))).some (by rw [cellsPt_len]; omega)
     clear hq
     cases e
     have HKN2 := Lib.hid hk
     clear hkl hc hk0 hk hli hkd hdi hpt
     go_wp2_with (first
       | ((with_reducible refine at_load (T := 91) ?_); refine wl_rdv rfl (hv.rd (HSUB3.out _ (HSUB.out _ HLV.out))) (k * 3) rfl 3 _ Tryz.underlying91 rfl infoB3 (by decide) #[.int .i64 p, .int .i64 ln, .bool wr] HKL.out rfl ?_)
       | ((with_reducible refine at_alloc (T := 91) (dst := some 14) ?_); refine wl_newb rfl #[.int .i64 0, .int .i64 0, .bool false] 91 (fun _ => rfl) ?_; intro b14 w2 hm2; replace hv := hv.madeAt hm2; clear hm2)
       | ((with_reducible refine at_store (T := 91) ?_); refine wl_stv rfl b14 rfl _ rfl _ hv.vars.ro hv.vars.so 3 infoB3 rfl rfl (by simp [Value.oneCell']) ?_; intro w2 hw2; replace hv := hv.sets (by repeat first | exact .z | apply SetM.s) hw2; clear hw2)
       | ((with_reducible refine at_load (T := 91) ?_); refine wl_ldv rfl b14 rfl _ hv.vars.ro 3 _ Tryz.underlying91 rfl infoB3 (by decide) rfl ?_)
       | (go_at_call 71; (with_reducible refine (lay_any (hv.perm (perm3i _ _ _ _)) HMK.out HOK.out.sz HB.out (HSUB3.out _ HDV.out) k p ln wr HLN1.out HPL1.out HDI.out HDLT.out HD16.out HRK.out).mono ?_); rintro e w1 ⟨rfl, nb, no, nc, R4, hv1, hi1, hs1⟩; replace hv := hv1.keep (sub3 _ _ _ _); have HMN := Lib.hid hi1; have HSN := Lib.hid hs1; clear hv1 hi1 hs1))
     have hkn := HKN2.out
     go_roundw
     case rel => exact ⟨k + 1, nb, no, nc, R4, by omega, by go_num, by rw [← HRE.out]; exact hv, by rw [← HLE.out]; exact HMN, Lib.hid (fun x hx => HSN.out x (HSUB3.out x hx))⟩
     case measure => simp [intOf]; omega
   · have hki : ¬ (k : Int) < (kn : Int) := by omega
     obtain rfl : kn = k := by omega
     clear hk hk0
     go_wp2
     replace hv : Mem w0 _ ([(b51, _), (b12, _), (b7, _), (b6, _), (b4, _), (b3, _)] ++ L) _ := hv
     refine Any.wp_region_cut1 22 [⟨[], none⟩, ⟨[], none⟩, ⟨[], none⟩, ⟨[], none⟩, ⟨[1000], none⟩, ⟨[], none⟩, ⟨[], none⟩, ⟨[], none⟩, ⟨[], none⟩, ⟨[1000], none⟩, ⟨[], none⟩, ⟨[], none⟩, ⟨[], none⟩, ⟨[], none⟩, ⟨[1000], none⟩, ⟨[], none⟩, ⟨[], none⟩, ⟨[], none⟩, ⟨[], none⟩, ⟨[1000], none⟩, ⟨[], none⟩, ⟨[1001], none⟩, ⟨[], none⟩, ⟨[], none⟩, ⟨[], none⟩, ⟨[], none⟩, ⟨[], none⟩, ⟨[], none⟩, ⟨[], none⟩] [.val, .val, .val, .val, .val, .val, .val, .val, .val, .val, .val, .val, .val, .val, .val, .val, .val, .val, .val, .val, .val, .val] (.pointer (some ⟨b51, 0, none⟩)) (by kernel_rfl) (by kernel_rfl) (hv.vars.keep (List.sublist_append_left [(b51, #[.int .i64 base, .int .i64 n, .slice (some ⟨fb, fo, none⟩) fn fc, .int .u16 av, .int .u16 la, .slice ca cn cc, (.slice (some ⟨mbk, mok, none⟩) mn mck)]), (b12, #[.int .i64 hd, .slice (some ⟨db, 0, none⟩) kn dc, .int .i64 rm]), (b7, #[.int .i64 0, .int .i64 0, .slice none 0 0, .int .u16 0, .int .u16 0, .slice none 0 0]), (b6, #[.slice none 0 0]), (b4, #[.int .i64 base, .int .i64 n, .slice (some ⟨fb, fo, none⟩) fn fc, .int .u16 av, .int .u16 la, .slice ca cn cc]), (b3, #[(.slice (some ⟨mb, mo, none⟩) mn mc)])] L)) (fun _ _ _ h => h) (.inl ⟨rfl, fun _ => by rfl⟩) ?_
     simp only [Any.someVals, List.take_succ_cons, List.take_zero, List.drop_succ_cons, List.drop_zero, Nat.reduceSub]
     simp only [Act.put, sia, scs, scz]
     iterate 22 apply Exists.intro
     repeat (first
       | (refine Any.E_off rfl ?_; simp only [Act.put, sia, scs, scz])
       | (apply Any.E_pureq rfl rfl rfl
          case h => intro K hK; go_big_quiet_op; (refine hK _ ?_; rfl)
          case hr => exact fun _ => rfl
          simp only [Act.put, sia, scs, scz])
       | (apply Any.E_val rfl rfl rfl rfl
          case h =>
            intro E' hA K hK
            first
              | ((with_reducible refine Any.at_qload (T := 26) ?_); refine Any.q_ldp 1000 hA (by decide) rfl rfl 1 _ Tryz.underlying26 rfl infoM (by decide) (show 6 + 1 ≤ 7 from by decide) #[(.slice (some ⟨mbk, mok, none⟩) mn mck)] rfl ?_; refine hK _ ?_; rfl)
              | ((with_reducible refine Any.at_qload (T := 3) ?_); refine Any.q_ldc 1000 hA (by decide) rfl rfl _ Tryz.underlying3 rfl (.int .i64 base) rfl ?_; refine hK _ ?_; rfl)
              | ((with_reducible refine Any.at_qload (T := 3) ?_); refine Any.q_ldc 1000 hA (by decide) rfl rfl _ Tryz.underlying3 rfl (.int .i64 n) rfl ?_; refine hK _ ?_; rfl)
              | ((with_reducible refine Any.at_qload (T := 27) ?_); refine Any.q_ldc 1000 hA (by decide) rfl rfl _ Tryz.underlying27 rfl (.int .u16 av) rfl ?_; refine hK _ ?_; rfl)
              | ((with_reducible refine Any.at_qload (T := 3) ?_); refine Any.q_ldc 1001 hA (by decide) rfl rfl _ Tryz.underlying3 rfl (.int .i64 hd) rfl ?_; refine hK _ ?_; rfl)
              | (go_big_quiet_op; first
                | (refine hK _ ?_; rfl)
                | (refine ⟨_, fun _ _ => rfl, ?_⟩; refine hK _ ?_; rfl)
                | (apply Exists.intro; refine ⟨fun w1 hw1 => ?_, ?_⟩; · (first
                    | fail)
                   refine hK _ ?_; rfl))
          case hD => rfl
          simp only [Act.put, sia, scs, scz])
       | ((with_reducible refine Any.at_ealloc ?_); refine Any.E_lay rfl rfl rfl (fun _ => rfl) ?_; intro B; simp only [Act.put, sia, scs, scz])
       | ((with_reducible refine Any.at_estore (T := 26) ?_); refine Any.E_putp rfl rfl rfl rfl rfl rfl 1 infoM rfl (by show 6 + 1 ≤ 7; decide) (by simp [Value.oneCell']) (c' := #[.int .i64 base, .int .i64 n, .slice (some ⟨fb, fo, none⟩) fn fc, .int .u16 av, .int .u16 la, .slice ca cn cc, (.slice (some ⟨vb, 0, none⟩) mn vc)]) (splice_w _ _ _ _ _ _ _ _) ?_; simp only [Act.put, sia, scs, scz]))
     try any_goals exact undef
     refine Any.E_nil ?_
     intro w9 hE9
     replace hv : Mem w0 w9 ([(b51, #[.int .i64 base, .int .i64 n, .slice (some ⟨fb, fo, none⟩) fn fc, .int .u16 av, .int .u16 la, .slice ca cn cc, (.slice (some ⟨mbk, mok, none⟩) mn mck)]), (b12, #[.int .i64 hd, .slice (some ⟨db, 0, none⟩) kn dc, .int .i64 rm]), (b7, #[.int .i64 0, .int .i64 0, .slice none 0 0, .int .u16 0, .int .u16 0, .slice none 0 0]), (b6, #[.slice none 0 0]), (b4, #[.int .i64 base, .int .i64 n, .slice (some ⟨fb, fo, none⟩) fn fc, .int .u16 av, .int .u16 la, .slice ca cn cc]), (b3, #[(.slice (some ⟨mb, mo, none⟩) mn mc)])] ++ L) _ := hE9.memr (L1 := [(b51, #[.int .i64 base, .int .i64 n, .slice (some ⟨fb, fo, none⟩) fn fc, .int .u16 av, .int .u16 la, .slice ca cn cc, (.slice (some ⟨mbk, mok, none⟩) mn mck)]), (b12, #[.int .i64 hd, .slice (some ⟨db, 0, none⟩) kn dc, .int .i64 rm]), (b7, #[.int .i64 0, .int .i64 0, .slice none 0 0, .int .u16 0, .int .u16 0, .slice none 0 0]), (b6, #[.slice none 0 0]), (b4, #[.int .i64 base, .int .i64 n, .slice (some ⟨fb, fo, none⟩) fn fc, .int .u16 av, .int .u16 la, .slice ca cn cc]), (b3, #[(.slice (some ⟨mb, mo, none⟩) mn mc)])]) hv [1000, 1001, 1002, 1003, 1004, 1005] (by decide)
     clear hE9
     refine Any.wpOp_callv rfl rfl (Go.Proofs.enters_of Tryz.func72 (by kernel_rfl) rfl) rfl [.agg #[(.slice (some ⟨mbk, mok, none⟩) mn mck)], .int .i64 base, .int .i64 n, .int .u16 av, .int .i64 hd] rfl ?_
     refine (Offer_M hv HMK.out base n av HOK.out.sz HB.out HAV.out HHF.out).mono ?_
     rintro e w1 ⟨vb, vc, R5, rfl, hv1, hi1, hs1⟩
     replace hv := hv1
     have HI1 := Lib.hid hi1
     have HS3 := Lib.hid hs1
     clear hv1 hi1 hs1
     refine ⟨_, rfl, ?_⟩
     replace hv : Mem w0 _ ([(b51, _), (b12, _), (b7, _), (b6, _), (b4, _), (b3, _)] ++ L) _ := hv
     refine Any.wpAny_rest 23 [⟨[], none⟩, ⟨[], none⟩, ⟨[], none⟩, ⟨[], none⟩, ⟨[], none⟩, ⟨[1000], some 1000⟩] [.val, .val, .val, .val, .val, .put] (by kernel_rfl) (hv.vars.keep (List.sublist_append_left [(b51, #[.int .i64 base, .int .i64 n, .slice (some ⟨fb, fo, none⟩) fn fc, .int .u16 av, .int .u16 la, .slice ca cn cc, (.slice (some ⟨mbk, mok, none⟩) mn mck)]), (b12, #[.int .i64 hd, .slice (some ⟨db, 0, none⟩) kn dc, .int .i64 rm]), (b7, #[.int .i64 0, .int .i64 0, .slice none 0 0, .int .u16 0, .int .u16 0, .slice none 0 0]), (b6, #[.slice none 0 0]), (b4, #[.int .i64 base, .int .i64 n, .slice (some ⟨fb, fo, none⟩) fn fc, .int .u16 av, .int .u16 la, .slice ca cn cc]), (b3, #[(.slice (some ⟨mb, mo, none⟩) mn mc)])] L)) ?_
     simp only [List.length_cons, List.length_nil, Nat.zero_add, Nat.reduceAdd, Nat.reduceSub, Any.someVals, List.drop_succ_cons, List.drop_zero]
     simp only [Act.put, sia, scs, scz]
     iterate 6 apply Exists.intro
     repeat (first
       | (refine Any.E_off rfl ?_; simp only [Act.put, sia, scs, scz])
       | (apply Any.E_pureq rfl rfl rfl
          case h => intro K hK; go_big_quiet_op; (refine hK _ ?_; rfl)
          case hr => exact fun _ => rfl
          simp only [Act.put, sia, scs, scz])
       | (apply Any.E_val rfl rfl rfl rfl
          case h =>
            intro E' hA K hK
            first
              | ((with_reducible refine Any.at_qload (T := 26) ?_); refine Any.q_ldp 1000 hA (by decide) rfl rfl 1 _ Tryz.underlying26 rfl infoM (by decide) (show 6 + 1 ≤ 7 from by decide) #[(.slice (some ⟨mbk, mok, none⟩) mn mck)] rfl ?_; refine hK _ ?_; rfl)
              | ((with_reducible refine Any.at_qload (T := 3) ?_); refine Any.q_ldc 1000 hA (by decide) rfl rfl _ Tryz.underlying3 rfl (.int .i64 base) rfl ?_; refine hK _ ?_; rfl)
              | ((with_reducible refine Any.at_qload (T := 3) ?_); refine Any.q_ldc 1000 hA (by decide) rfl rfl _ Tryz.underlying3 rfl (.int .i64 n) rfl ?_; refine hK _ ?_; rfl)
              | ((with_reducible refine Any.at_qload (T := 27) ?_); refine Any.q_ldc 1000 hA (by decide) rfl rfl _ Tryz.underlying27 rfl (.int .u16 av) rfl ?_; refine hK _ ?_; rfl)
              | ((with_reducible refine Any.at_qload (T := 3) ?_); refine Any.q_ldc 1001 hA (by decide) rfl rfl _ Tryz.underlying3 rfl (.int .i64 hd) rfl ?_; refine hK _ ?_; rfl)
              | (go_big_quiet_op; first
                | (refine hK _ ?_; rfl)
                | (refine ⟨_, fun _ _ => rfl, ?_⟩; refine hK _ ?_; rfl)
                | (apply Exists.intro; refine ⟨fun w1 hw1 => ?_, ?_⟩; · (first
                    | fail)
                   refine hK _ ?_; rfl))
          case hD => rfl
          simp only [Act.put, sia, scs, scz])
       | ((with_reducible refine Any.at_ealloc ?_); refine Any.E_lay rfl rfl rfl (fun _ => rfl) ?_; intro B; simp only [Act.put, sia, scs, scz])
       | ((with_reducible refine Any.at_estore (T := 26) ?_); refine Any.E_putp rfl rfl rfl rfl rfl rfl 1 infoM rfl (by show 6 + 1 ≤ 7; decide) (by simp [Value.oneCell']) (c' := #[.int .i64 base, .int .i64 n, .slice (some ⟨fb, fo, none⟩) fn fc, .int .u16 av, .int .u16 la, .slice ca cn cc, (.slice (some ⟨vb, 0, none⟩) mn vc)]) (splice_w _ _ _ _ _ _ _ _) ?_; simp only [Act.put, sia, scs, scz]))
     try any_goals exact undef
     refine Any.E_nil ?_
     intro w9 hE9
     replace hv : Mem w0 w9 ([(b51, #[.int .i64 base, .int .i64 n, .slice (some ⟨fb, fo, none⟩) fn fc, .int .u16 av, .int .u16 la, .slice ca cn cc, (.slice (some ⟨vb, 0, none⟩) mn vc)]), (b12, #[.int .i64 hd, .slice (some ⟨db, 0, none⟩) kn dc, .int .i64 rm]), (b7, #[.int .i64 0, .int .i64 0, .slice none 0 0, .int .u16 0, .int .u16 0, .slice none 0 0]), (b6, #[.slice none 0 0]), (b4, #[.int .i64 base, .int .i64 n, .slice (some ⟨fb, fo, none⟩) fn fc, .int .u16 av, .int .u16 la, .slice ca cn cc]), (b3, #[(.slice (some ⟨mb, mo, none⟩) mn mc)])] ++ L) _ := hE9.memr0 (L1 := [(b51, #[.int .i64 base, .int .i64 n, .slice (some ⟨fb, fo, none⟩) fn fc, .int .u16 av, .int .u16 la, .slice ca cn cc, (.slice (some ⟨mbk, mok, none⟩) mn mck)]), (b12, #[.int .i64 hd, .slice (some ⟨db, 0, none⟩) kn dc, .int .i64 rm]), (b7, #[.int .i64 0, .int .i64 0, .slice none 0 0, .int .u16 0, .int .u16 0, .slice none 0 0]), (b6, #[.slice none 0 0]), (b4, #[.int .i64 base, .int .i64 n, .slice (some ⟨fb, fo, none⟩) fn fc, .int .u16 av, .int .u16 la, .slice ca cn cc]), (b3, #[(.slice (some ⟨mb, mo, none⟩) mn mc)])]) hv [1000, 1001, 1002, 1003, 1004, 1005] (by decide)
     clear hE9
     simp only [List.cons_append, List.nil_append] at hv
     have HS5 : Hid (∀ x ∈ R2, x ∈ R5) := Lib.hid (fun x hx => HS3.out x (HSUB3.out x hx))
     clear HS3 HSUB3
     go_wp2_with (first
       | ((with_reducible refine at_load (T := 27) ?_); refine wl_ldc rfl b51 3 rfl _ hv.vars.ro _ Tryz.underlying27 rfl (.int .u16 av) rfl ?_)
       | ((with_reducible refine at_store (T := 27) ?_); refine wl_stc rfl b51 3 rfl (.int .u16 av2) rfl _ hv.vars.ro hv.vars.so (by kernel_rfl) rfl (by show 3 < 7; decide) ?_; intro w2 hw2; replace hv := hv.sets (by repeat first | exact .z | apply SetM.s) hw2; clear hw2)
       | ((with_reducible refine at_load (T := 22) ?_); refine wl_ldc rfl b51 2 rfl _ hv.vars.ro _ Tryz.underlying22 rfl (.slice (some ⟨fb, fo, none⟩) fn fc) rfl ?_)
       | ((with_reducible refine at_slice (T := 22) ?_); refine wl_sliceVl rfl rfl Tryz.underlying22 infoI1 kn rfl HKF.out HS2.out ?_)
       | (go_at_call 70; (with_reducible refine (IClone_O hv (HS5.out _ (HSUB.out _ HF2.out)) HF4.out).mono ?_); rintro e w1 ⟨oa, on, oc, rfl, O, hO, hv1⟩; replace hv := hO.yield (A := []) (B := (b51, #[.int .i64 base, .int .i64 n, .slice (some ⟨fb, fo, none⟩) fn fc, .int .u16 av2, .int .u16 la, .slice ca cn cc, (.slice (some ⟨vb, 0, none⟩) mn vc)]) :: (b12, #[.int .i64 hd, .slice (some ⟨db, 0, none⟩) kn dc, .int .i64 rm]) :: (b7, #[.int .i64 0, .int .i64 0, .slice none 0 0, .int .u16 0, .int .u16 0, .slice none 0 0]) :: (b6, #[.slice none 0 0]) :: (b4, #[.int .i64 base, .int .i64 n, .slice (some ⟨fb, fo, none⟩) fn fc, .int .u16 av, .int .u16 la, .slice ca cn cc]) :: (b3, #[(.slice (some ⟨mb, mo, none⟩) mn mc)]) :: L) hv1; clear hv1 hO; simp only [List.nil_append] at hv)
       | ((with_reducible refine at_store (T := 22) ?_); refine wl_stc rfl b51 2 rfl (.slice oa on oc) rfl _ hv.vars.ro hv.vars.so (by kernel_rfl) rfl (by show 2 < 7; decide) ?_; intro w2 hw2; replace hv := hv.sets (by repeat first | exact .z | apply SetM.s) hw2; clear hw2))
     try simp only [Act.put]
     have HX3b : Hid ((3, Value.slice ca cn cn, cellsC chs) ∈ (1, Value.slice oa on oc, intsI (free.drop kn)) :: R5) := Lib.hid (Mem.s (HS5.out _ (HSUB.out _ HX3.out)))
     have HE1 : Hid (((cellsC chs).length + (encC (⟨hd, db, 0, kn, dc, rm, ds⟩ : Chn)).length) / 3 ≤ maxLen) := Lib.hid (by rw [cellsC_len]; show (chs.length * 3 + 3) / 3 ≤ _; have := HCLE.out; unfold maxLen; omega)
     have HE2 : Hid (((cellsC chs).length + (encC (⟨hd, db, 0, kn, dc, rm, ds⟩ : Chn)).length) / 3 * 40 ≤ 140737488355328) := Lib.hid (by rw [cellsC_len]; show (chs.length * 3 + 3) / 3 * 40 ≤ _; have := HCLE.out; omega)
     replace hv : Mem w0 _ ([(b51, _), (b12, _), (b7, _), (b6, _), (b4, _), (b3, _)] ++ L) _ := hv
     have HPC := Lib.hid (Any.rd_start (hv.keep (List.sublist_append_left [(b51, #[.int .i64 base, .int .i64 n, .slice oa on oc, .int .u16 av2, .int .u16 la, .slice ca cn cc, (.slice (some ⟨vb, 0, none⟩) mn vc)]), (b12, #[.int .i64 hd, .slice (some ⟨db, 0, none⟩) kn dc, .int .i64 rm]), (b7, #[.int .i64 0, .int .i64 0, .slice none 0 0, .int .u16 0, .int .u16 0, .slice none 0 0]), (b6, #[.slice none 0 0]), (b4, #[.int .i64 base, .int .i64 n, .slice (some ⟨fb, fo, none⟩) fn fc, .int .u16 av, .int .u16 la, .slice ca cn cc]), (b3, #[(.slice (some ⟨mb, mo, none⟩) mn mc)])] L)) HX3b.out)
     refine Any.wp_region_walk [⟨[], none⟩, ⟨[], none⟩, ⟨[], none⟩, ⟨[], none⟩, ⟨[], none⟩, ⟨[1000], none⟩, ⟨[], none⟩, ⟨[1001], none⟩, ⟨[], some 8⟩, ⟨[8], some 9⟩, ⟨[], none⟩, ⟨[], none⟩, ⟨[], none⟩, ⟨[1000], some 1000⟩] [.val, .val, .val, .val, .val, .val, .val, .val, .bsl 1 #[.int .i64 hd, .slice (some ⟨db, 0, none⟩) kn dc, .int .i64 rm], .own (fun v x => AppRow v 3 (cellsC chs ++ encC (⟨hd, db, 0, kn, dc, rm, ds⟩ : Chn)) x), .val, .val, .val, .put] (by kernel_rfl) (by kernel_rfl) (hv.vars.keep (List.sublist_append_left [(b51, #[.int .i64 base, .int .i64 n, .slice oa on oc, .int .u16 av2, .int .u16 la, .slice ca cn cc, (.slice (some ⟨vb, 0, none⟩) mn vc)]), (b12, #[.int .i64 hd, .slice (some ⟨db, 0, none⟩) kn dc, .int .i64 rm]), (b7, #[.int .i64 0, .int .i64 0, .slice none 0 0, .int .u16 0, .int .u16 0, .slice none 0 0]), (b6, #[.slice none 0 0]), (b4, #[.int .i64 base, .int .i64 n, .slice (some ⟨fb, fo, none⟩) fn fc, .int .u16 av, .int .u16 la, .slice ca cn cc]), (b3, #[(.slice (some ⟨mb, mo, none⟩) mn mc)])] L)) ?_
     simp only [List.length_cons, List.length_nil, Nat.zero_add, Any.someVals]
     iterate 14 apply Exists.intro
     repeat (first
       | (refine Any.E_off rfl ?_; simp only [Act.put, sia, scs, scz])
       | (apply Any.E_pureq rfl rfl rfl
          case h => intro K hK; go_big_quiet_op; (refine hK _ ?_; rfl)
          case hr => exact fun _ => rfl
          simp only [Act.put, sia, scs, scz])
       | (apply Any.E_val rfl rfl rfl rfl
          case h =>
            intro E' hA K hK
            first
              | ((with_reducible refine Any.at_qload (T := 28) ?_); refine Any.q_ldc 1000 hA (by decide) rfl rfl _ Tryz.underlying28 rfl (.slice ca cn cc) rfl ?_; refine hK _ ?_; rfl)
              | ((with_reducible refine Any.at_qload (T := 124) ?_); refine Any.q_ldv 1001 hA (by decide) rfl rfl 3 _ Tryz.underlying124 rfl infoC3 (by decide) rfl ?_; refine hK _ ?_; rfl)
              | (go_big_quiet_op; first
                | (refine hK _ ?_; rfl)
                | (refine ⟨_, fun _ _ => rfl, ?_⟩; refine hK _ ?_; rfl)
                | (apply Exists.intro; refine ⟨fun w1 hw1 => ?_, ?_⟩; · (first
                    | (go_at_call 73; exact Any.calls_VE (HCL.out _) hw1))
                   refine hK _ ?_; rfl))
          case hD => rfl
          simp only [Act.put, sia, scs, scz])
       | ((with_reducible refine Any.at_ealloc ?_); refine Any.E_lay rfl rfl rfl (fun _ => rfl) ?_; intro B; simp only [Act.put, sia, scs, scz])
       | ((with_reducible refine Any.at_ebsl ?_); refine Any.E_bsl (n := 1) (z := #[.int .i64 hd, .slice (some ⟨db, 0, none⟩) kn dc, .int .i64 rm]) (t := 124) rfl rfl rfl (fun w' => (by unfold execOp; go_simp)) ?_; intro B; simp only [Act.put, sia, scs, scz])
       | ((with_reducible refine Any.at_eapp (t := 28) ?_); refine Any.E_appfull (j := 8) (news := encC (⟨hd, db, 0, kn, dc, rm, ds⟩ : Chn)) (zs := #[.int .i64 hd, .slice (some ⟨db, 0, none⟩) kn dc, .int .i64 rm]) (m := 1) rfl rfl rfl rfl HPC.out rfl (by decide) rfl rfl rfl (by unfold maxLen; omega) (List.cons_ne_nil _ _) (.agg #[.int .i64 0, .slice none 0 0, .int .i64 0]) 40 Tryz.underlying28 infoC3z rfl (by decide) (encC_one _) HE1.out HE2.out ?_; intro v9 x9 hW9; obtain ⟨x9b, x9z⟩ := x9; obtain ⟨n9, c9, rfl, g9⟩ := id hW9; replace g9 := Lib.hid g9; replace hW9 := Lib.hid hW9; simp only [Act.put, sia, scs, scz])
       | ((with_reducible refine Any.at_estore (T := 28) ?_); refine Any.E_putc (T := 28) rfl rfl rfl rfl rfl rfl (by kernel_rfl) rfl (by simp) ?_; simp only [Act.put, sia, scs, scz]))
     try any_goals exact undef
     refine Any.E_nil ?_
     intro w9 hE9
     replace hv : Mem w0 w9 ([(b51, #[.int .i64 base, .int .i64 n, .slice oa on oc, .int .u16 av2, .int .u16 la, .slice (some ⟨x9b, 0, none⟩) n9 c9, (.slice (some ⟨vb, 0, none⟩) mn vc)]), (b12, #[.int .i64 hd, .slice (some ⟨db, 0, none⟩) kn dc, .int .i64 rm]), (b7, #[.int .i64 0, .int .i64 0, .slice none 0 0, .int .u16 0, .int .u16 0, .slice none 0 0]), (b6, #[.slice none 0 0]), (b4, #[.int .i64 base, .int .i64 n, .slice (some ⟨fb, fo, none⟩) fn fc, .int .u16 av, .int .u16 la, .slice ca cn cc]), (b3, #[(.slice (some ⟨mb, mo, none⟩) mn mc)]), (x9b, x9z)] ++ L) _ := hE9.memr hv [1000, 1001, 1002, 1003, 1004, 1005, 9] (by decide)
     clear hE9
     simp only [List.cons_append, List.nil_append] at hv
     clear HPC
     have hv1 := Mem.yield (L1 := [(b51, #[.int .i64 base, .int .i64 n, .slice oa on oc, .int .u16 av2, .int .u16 la, .slice (some ⟨x9b, 0, none⟩) n9 c9, (.slice (some ⟨vb, 0, none⟩) mn vc)]), (b12, #[.int .i64 hd, .slice (some ⟨db, 0, none⟩) kn dc, .int .i64 rm]), (b7, #[.int .i64 0, .int .i64 0, .slice none 0 0, .int .u16 0, .int .u16 0, .slice none 0 0]), (b6, #[.slice none 0 0]), (b4, #[.int .i64 base, .int .i64 n, .slice (some ⟨fb, fo, none⟩) fn fc, .int .u16 av, .int .u16 la, .slice ca cn cc]), (b3, #[(.slice (some ⟨mb, mo, none⟩) mn mc)])]) (L2 := L) hv hW9.out
     clear hv g9 hW9
     have hv := hv1
     clear hv1
     go_wp2
     refine Any.wp_region_walk [⟨[], none⟩, ⟨[], none⟩, ⟨[], none⟩, ⟨[1000], none⟩, ⟨[], none⟩, ⟨[], none⟩, ⟨[], none⟩, ⟨[1000], none⟩, ⟨[], none⟩, ⟨[1001], none⟩, ⟨[1003], some 1003⟩, ⟨[1002], some 1002⟩, ⟨[], none⟩, ⟨[], none⟩] [.val, .val, .val, .val, .val, .val, .val, .val, .val, .val, .put, .put, .val, .val] (by kernel_rfl) (by kernel_rfl) (hv.vars.keep (List.sublist_append_left [(b51, #[.int .i64 base, .int .i64 n, .slice oa on oc, .int .u16 av2, .int .u16 la, .slice (some ⟨x9b, 0, none⟩) n9 c9, (.slice (some ⟨vb, 0, none⟩) mn vc)]), (b12, #[.int .i64 hd, .slice (some ⟨db, 0, none⟩) kn dc, .int .i64 rm]), (b7, #[.int .i64 0, .int .i64 0, .slice none 0 0, .int .u16 0, .int .u16 0, .slice none 0 0]), (b6, #[.slice none 0 0]), (b4, #[.int .i64 base, .int .i64 n, .slice (some ⟨fb, fo, none⟩) fn fc, .int .u16 av, .int .u16 la, .slice ca cn cc]), (b3, #[(.slice (some ⟨mb, mo, none⟩) mn mc)])] L)) ?_
     simp only [List.length_cons, List.length_nil, Nat.zero_add, Any.someVals]
     iterate 14 apply Exists.intro
     repeat (first
       | (refine Any.E_off rfl ?_; simp only [Act.put, sia, scs, scz])
       | (apply Any.E_pureq rfl rfl rfl
          case h => intro K hK; go_big_quiet_op; (refine hK _ ?_; rfl)
          case hr => exact fun _ => rfl
          simp only [Act.put, sia, scs, scz])
       | (apply Any.E_val rfl rfl rfl rfl
          case h =>
            intro E' hA K hK
            first
              | ((with_reducible refine Any.at_qload (T := 26) ?_); refine Any.q_ldp 1000 hA (by decide) rfl rfl 1 _ Tryz.underlying26 rfl infoM (by decide) (show 6 + 1 ≤ 7 from by decide) #[(.slice (some ⟨vb, 0, none⟩) mn vc)] rfl ?_; refine hK _ ?_; rfl)
              | ((with_reducible refine Any.at_qload (T := 30) ?_); refine Any.q_ldp 1000 hA (by decide) rfl rfl 6 _ Tryz.underlying30 rfl infoQ (by decide) (show 0 + 6 ≤ 7 from by decide) #[.int .i64 base, .int .i64 n, .slice oa on oc, .int .u16 av2, .int .u16 la, .slice (some ⟨x9b, 0, none⟩) n9 c9] rfl ?_; refine hK _ ?_; rfl)
              | ((with_reducible refine Any.at_qload (T := 3) ?_); refine Any.q_ldc 1001 hA (by decide) rfl rfl _ Tryz.underlying3 rfl (.int .i64 hd) rfl ?_; refine hK _ ?_; rfl)
              | (go_big_quiet_op; first
                | (refine hK _ ?_; rfl)
                | (refine ⟨_, fun _ _ => rfl, ?_⟩; refine hK _ ?_; rfl)
                | (apply Exists.intro; refine ⟨fun w1 hw1 => ?_, ?_⟩; · (first
                    | fail)
                   refine hK _ ?_; rfl))
          case hD => rfl
          simp only [Act.put, sia, scs, scz])
       | ((with_reducible refine Any.at_ealloc ?_); refine Any.E_lay rfl rfl rfl (fun _ => rfl) ?_; intro B; simp only [Act.put, sia, scs, scz])
       | ((with_reducible refine Any.at_estore (T := 26) ?_); refine Any.E_putv (T := 26) rfl rfl rfl rfl rfl rfl 1 infoM rfl rfl (by simp [Value.oneCell']) ?_; simp only [Act.put, sia, scs, scz])
       | ((with_reducible refine Any.at_estore (T := 30) ?_); refine Any.E_putv (T := 30) rfl rfl rfl rfl rfl rfl 6 infoQ rfl rfl (by simp [Value.oneCell']) ?_; simp only [Act.put, sia, scs, scz]))
     try any_goals exact undef
     refine Any.E_nil ?_
     intro w9 hE9
     replace hv : Mem w0 w9 ([(b51, #[.int .i64 base, .int .i64 n, .slice oa on oc, .int .u16 av2, .int .u16 la, .slice (some ⟨x9b, 0, none⟩) n9 c9, (.slice (some ⟨vb, 0, none⟩) mn vc)]), (b12, #[.int .i64 hd, .slice (some ⟨db, 0, none⟩) kn dc, .int .i64 rm]), (b7, #[.int .i64 base, .int .i64 n, .slice oa on oc, .int .u16 av2, .int .u16 la, .slice (some ⟨x9b, 0, none⟩) n9 c9]), (b6, #[(.slice (some ⟨vb, 0, none⟩) mn vc)]), (b4, #[.int .i64 base, .int .i64 n, .slice (some ⟨fb, fo, none⟩) fn fc, .int .u16 av, .int .u16 la, .slice ca cn cc]), (b3, #[(.slice (some ⟨mb, mo, none⟩) mn mc)])] ++ L) _ := hE9.memr hv [1000, 1001, 1002, 1003, 1004, 1005] (by decide)
     clear hE9
     simp only [List.cons_append, List.nil_append] at hv
     go_wp2
     try simp only [Exit.inBlock, Exit.then]
     refine ret_cctt (v := .agg #[(.slice (some ⟨vb, 0, none⟩) mn vc)]) (v' := .agg #[.int .i64 base, .int .i64 n, .slice oa on oc, .int .u16 av2, .int .u16 la, .slice (some ⟨x9b, 0, none⟩) n9 c9]) (v1 := .int .i64 hd) (v2 := .int .i64 0) rfl rfl rfl (read_row _ b6 26 _ (hv.vars.ro (b := b6)) 1 _ Tryz.underlying26 rfl infoM (by decide) rfl) (read_row _ b7 30 _ (hv.vars.ro (b := b7)) 6 _ Tryz.underlying30 rfl infoQ (by decide) rfl) rfl rfl rfl ?_
     refine ⟨vb, vc, .slice oa on oc, .slice (some ⟨x9b, 0, none⟩) n9 c9, (⟨hd, db, 0, kn, dc, rm, ds⟩ : Chn), _, rfl, hv.drop.drop.drop.drop.drop.drop, ?_, ⟨Mem.s Mem.z, ?_, ?_⟩, rfl, rfl, HRM.out.symm, fun x hx => Mem.s (Mem.s (HS5.out _ (HSUB.out _ (HSUBR.out x hx))))⟩
     · have e : addM M base n av free l = offerM (layM M base ds l kn) base n av hd := by unfold addM; rw [HKN.out, HDSE.out, HHDE.out]
       rw [e]
       exact HI1.out.mono (fun x hx => Mem.s (Mem.s hx))
     · rw [cellsC_snoc]; exact Mem.z
     · intro c hc
       rcases List.mem_append.1 hc with hc | hc
       · exact Mem.s (Mem.s (HS5.out _ (HSUB.out _ (HQ.out.ds c hc))))
       · rw [List.mem_singleton.1 hc]
         exact Mem.s (Mem.s (HS5.out _ HDV.out))
end Go.Proofs.YtjmibgomkgkhnaaGreat
end

section
/-
 A driver hands parts over that are too many: Add says so.
-/
namespace Go.Proofs.YtjmibgomkgkhnaaGreat
open Go.Proofs.Qu Go.Proofs.Nm Go.RowKit Go.Proofs
end Go.Proofs.YtjmibgomkgkhnaaGreat
end
