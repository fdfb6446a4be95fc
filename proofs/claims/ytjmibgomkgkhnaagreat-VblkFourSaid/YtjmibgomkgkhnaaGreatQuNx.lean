import Derived.Test.YtjmibgomkgkhnaaGreatQuRg
import Derived.WalkMore
import Derived.Laws.MakeOwn
set_option linter.unusedSimpArgs false
set_option linter.unusedVariables false
set_option maxRecDepth 100000
set_option maxHeartbeats 16000000
section
/-
 A queue's device side: parts, what is given back.
-/
namespace Go
open Go.RowKit
section
variable {P : Program} {fn : Func} {R : Ending → World → Prop} {a : Act} {w : World}
theorem ret_cct {p p' t1 : Tmp} {ty ty' : TypeId} {ad ad' : Addr} {v v' v1 : Value} (h : fn.results = #[.cell p ty, .cell p' ty', .tmp t1]) (hp : a.tmps.getD p undef = .pointer (some ad)) (hp2 : a.tmps.getD p' undef = .pointer (some ad')) (hl : (loadVar ty ad).run P w = .ok v w) (hl2 : (loadVar ty' ad').run P w = .ok v' w)
   (h1 : a.tmps.getD t1 undef = v1) (hd : a.defers = []) (hR : R (.returned (.tuple #[v, v', v1])) w) : bodyPost P fn R .ret a w :=
 bodyPost_ret (v := .tuple #[v, v', v1]) (by have q1 : a.tmps[p]?.getD undef = .pointer (some ad) := by simpa using hp
                                             have q2 : a.tmps[p']?.getD undef = .pointer (some ad') := by simpa using hp2
                                             have q3 : a.tmps[t1]?.getD undef = v1 := by simpa using h1
                                             simp [results, h, q1, q2, asAddr, hl, hl2, q3]) hd hR
theorem ret_cctt {p p' t1 t2 : Tmp} {ty ty' : TypeId} {ad ad' : Addr} {v v' v1 v2 : Value} (h : fn.results = #[.cell p ty, .cell p' ty', .tmp t1, .tmp t2]) (hp : a.tmps.getD p undef = .pointer (some ad)) (hp2 : a.tmps.getD p' undef = .pointer (some ad')) (hl : (loadVar ty ad).run P w = .ok v w) (hl2 : (loadVar ty' ad').run P w = .ok v' w)
   (h1 : a.tmps.getD t1 undef = v1) (h2 : a.tmps.getD t2 undef = v2) (hd : a.defers = []) (hR : R (.returned (.tuple #[v, v', v1, v2])) w) : bodyPost P fn R .ret a w :=
 bodyPost_ret (v := .tuple #[v, v', v1, v2]) (by have q1 : a.tmps[p]?.getD undef = .pointer (some ad) := by simpa using hp
                                                 have q2 : a.tmps[p']?.getD undef = .pointer (some ad') := by simpa using hp2
                                                 have q3 : a.tmps[t1]?.getD undef = v1 := by simpa using h1
                                                 have q4 : a.tmps[t2]?.getD undef = v2 := by simpa using h2
                                                 simp [results, h, q1, q2, asAddr, hl, hl2, q3, q4]) hd hR
theorem ret_cttt {p t1 t2 t3 : Tmp} {ty : TypeId} {ad : Addr} {v v1 v2 v3 : Value} (h : fn.results = #[.cell p ty, .tmp t1, .tmp t2, .tmp t3]) (hp : a.tmps.getD p undef = .pointer (some ad)) (hl : (loadVar ty ad).run P w = .ok v w)
   (h1 : a.tmps.getD t1 undef = v1) (h2 : a.tmps.getD t2 undef = v2) (h3 : a.tmps.getD t3 undef = v3) (hd : a.defers = []) (hR : R (.returned (.tuple #[v, v1, v2, v3])) w) : bodyPost P fn R .ret a w :=
 bodyPost_ret (v := .tuple #[v, v1, v2, v3]) (by have q1 : a.tmps[p]?.getD undef = .pointer (some ad) := by simpa using hp
                                                 have q3 : a.tmps[t1]?.getD undef = v1 := by simpa using h1
                                                 have q4 : a.tmps[t2]?.getD undef = v2 := by simpa using h2
                                                 have q5 : a.tmps[t3]?.getD undef = v3 := by simpa using h3
                                                 simp [results, h, q1, asAddr, hl, q3, q4, q5]) hd hR
end
end Go
namespace Go.Proofs.YtjmibgomkgkhnaaGreat
open Go.Proofs.Qu Go.Proofs.Nm Go.RowKit Go.Proofs
theorem infoB3 : (Tryz.prog.info? 91).map (·.size) = some 3 := by kernel_rfl
theorem infoS4 : (Tryz.prog.info? 38).map (·.size) = some 4 := by kernel_rfl
theorem lies_w {mb mo mn mc : Nat} {M : List Nat} (hm : OkM mn M) (p ln : Nat) (wr : Bool) (h1 : 0 < ln) (h : p + ln ≤ mn) (w : World) (hr : Rd w 1 (.slice (some ⟨mb, mo, none⟩) mn mc) (cellsB M)) : Calls Tryz.prog 69 #[(.agg #[(.slice (some ⟨mb, mo, none⟩) mn mc)]), .agg #[.int .i64 p, .int .i64 ln, .bool wr]] w fun e w' => e = .returned (.bool true) ∧ New w w' := by
 have hv0 := (Mem.nil w).old hr
 have hv : Mem w w [] [(1, (.slice (some ⟨mb, mo, none⟩) mn mc), cellsB M)] := hv0
 have HM : Hid (InM [(1, (.slice (some ⟨mb, mo, none⟩) mn mc), cellsB M)] mb mo mn mc M) := Lib.hid ⟨Mem.z, hm.len, hm.pos, hm.most, hm.good⟩
 clear hv0 hr
 have H1 := Lib.hid h1
 have HH := Lib.hid h
 have y1 : decide ((ln : Int) < 1) = false := decide_eq_false (by omega)
 have z1 : decide (ln < 1) = false := decide_eq_false (by omega)
 clear h1 h hm
 go_enter Tryz.func69, Tryz.ntmps69
 go_wp2_with (first
   | ((with_reducible refine at_box (T := 26) (dst := some 2) ?_); refine wl_newb rfl #[(.slice (some ⟨mb, mo, none⟩) mn mc)] 26 (fun _ => rfl) ?_; intro b2 w2 hm2; replace hv := hv.madeAt hm2; clear hm2)
   | ((with_reducible refine at_box (T := 91) (dst := some 3) ?_); refine wl_newb rfl #[.int .i64 p, .int .i64 ln, .bool wr] 91 (fun _ => rfl) ?_; intro b3 w2 hm2; replace hv := hv.madeAt hm2; clear hm2)
   | ((with_reducible refine at_load (T := 26) ?_); refine wl_ldv rfl b2 rfl _ hv.vars.ro 1 _ Tryz.underlying26 rfl infoM (by decide) rfl ?_)
   | ((with_reducible refine at_load (T := 3) ?_); refine wl_ldc rfl b3 0 rfl _ hv.vars.ro _ Tryz.underlying3 rfl (.int .i64 p) rfl ?_)
   | ((with_reducible refine at_load (T := 3) ?_); refine wl_ldc rfl b3 1 rfl _ hv.vars.ro _ Tryz.underlying3 rfl (.int .i64 ln) rfl ?_)
   | (go_at_call 27; (with_reducible refine (Get_ok hv HM.out p ln H1.out HH.out).mono ?_); rintro e w1 ⟨vb, vc, R1, rfl, hv1, hd1, hs1⟩; replace hv := hv1; clear hv1 hd1 hs1))
 go_ret
 exact ⟨rfl, hv.below⟩
theorem built_used (a b : Nat) : Tryz.prog.built 142 [(0, .int .u32 a), (1, .int .u32 b)] = some #[.int .u32 a, .int .u32 b] := by kernel_rfl
theorem Give_M {w0 w : World} {L : List (Nat × Array Value)} {R : List (Nat × Value × List Value)} {mb mo mn mc : Nat} {M : List Nat} (hv : Mem w0 w L R) (hm : InM R mb mo mn mc M) (base n sn us hd ln : Nat) (hn : okN n) (hb : base + sizeN n ≤ mn) (hu : us < 65536) (h1 : hd ≤ 2147483647) (h2 : ln ≤ 2147483647) :
   Calls Tryz.prog 31 #[(.agg #[(.slice (some ⟨mb, mo, none⟩) mn mc)]), .agg #[.int .i64 base, .int .i64 n, .int .u16 sn, .int .u16 us], .int .i64 hd, .int .i64 ln] w fun e w' => ∃ b c R', e = .returned (.tuple #[.agg #[.slice (some ⟨b, 0, none⟩) mn c], .agg #[.int .i64 base, .int .i64 n, .int .u16 sn, .int .u16 ((us + 1) % 65536 : Nat)], .int .i64 0]) ∧ Mem w0 w' L R' ∧ InM R' b 0 mn c (returnM M base n us hd ln) ∧ ∀ x ∈ R, x ∈ R' := by
 have HM := Lib.hid hm
 have HN := Lib.hid hn
 have HB := Lib.hid hb
 have HU := Lib.hid hu
 have HI1 : Hid (hd < 4294967296) := Lib.hid (by omega)
 have HI2 : Hid (ln < 4294967296) := Lib.hid (by omega)
 have y1 : decide ((hd : Int) < 0) = false := decide_eq_false (by omega)
 have y2 : decide ((2147483647 : Int) < (hd : Int)) = false := decide_eq_false (by omega)
 have z2 : decide (2147483647 < hd) = false := decide_eq_false (by omega)
 have y3 : decide ((ln : Int) < 0) = false := decide_eq_false (by omega)
 have y4 : decide ((2147483647 : Int) < (ln : Int)) = false := decide_eq_false (by omega)
 have z4 : decide (2147483647 < ln) = false := decide_eq_false (by omega)
 have q1 : IntKind.u32.wrap (hd : Int) = (hd : Int) := wrap32 (by omega)
 have q2 : IntKind.u32.wrap (ln : Int) = (ln : Int) := wrap32 (by omega)
 obtain ⟨us2, hus2⟩ : ∃ j, (us + 1) % 65536 = j := ⟨_, rfl⟩
 have q3 : IntKind.u16.wrap ((us : Int) + 1) = (us2 : Int) := by rw [inc16, hus2]
 rw [hus2]
 clear hn hb hu h1 h2 hus2 hm
 go_enter Tryz.func31, Tryz.ntmps31
 go_wp2_with (first
   | ((with_reducible refine at_box (T := 26) (dst := some 4) ?_); refine wl_newb rfl #[(.slice (some ⟨mb, mo, none⟩) mn mc)] 26 (fun _ => rfl) ?_; intro b4 w2 hm2; replace hv := hv.madeAt hm2; clear hm2)
   | ((with_reducible refine at_box (T := 38) (dst := some 5) ?_); refine wl_newb rfl #[.int .i64 base, .int .i64 n, .int .u16 sn, .int .u16 us] 38 (fun _ => rfl) ?_; intro b5 w2 hm2; replace hv := hv.madeAt hm2; clear hm2)
   | ((with_reducible refine at_alloc (T := 26) (dst := some 8) ?_); refine wl_newb rfl #[.slice none 0 0] 26 (fun _ => rfl) ?_; intro b8 w2 hm2; replace hv := hv.madeAt hm2; clear hm2)
   | ((with_reducible refine at_alloc (T := 38) (dst := some 9) ?_); refine wl_newb rfl #[.int .i64 0, .int .i64 0, .int .u16 0, .int .u16 0] 38 (fun _ => rfl) ?_; intro b9 w2 hm2; replace hv := hv.madeAt hm2; clear hm2)
   | ((with_reducible refine at_load (T := 26) ?_); refine wl_ldv rfl b4 rfl _ hv.vars.ro 1 _ Tryz.underlying26 rfl infoM (by decide) rfl ?_)
   | ((with_reducible refine at_load (T := 3) ?_); refine wl_ldc rfl b5 0 rfl _ hv.vars.ro _ Tryz.underlying3 rfl (.int .i64 base) rfl ?_)
   | ((with_reducible refine at_load (T := 3) ?_); refine wl_ldc rfl b5 1 rfl _ hv.vars.ro _ Tryz.underlying3 rfl (.int .i64 n) rfl ?_)
   | ((with_reducible refine at_load (T := 27) ?_); refine wl_ldc rfl b5 3 rfl _ hv.vars.ro _ Tryz.underlying27 rfl (.int .u16 us) rfl ?_)
   | ((with_reducible refine at_build ?_); refine wl_build rfl [(0, .int .u32 hd), (1, .int .u32 ln)] rfl (built_used _ _) ?_)
   | (go_at_call 60; (with_reducible refine (Return_M hv HM.out base n us HN.out HB.out HU.out HI1.out HI2.out).mono ?_); rintro e w1 ⟨vb, vc, R1, rfl, hv1, hi1, hs1⟩; replace hv := hv1; have HI := Lib.hid hi1; have HS := Lib.hid hs1; clear hv1 hi1 hs1)
   | ((with_reducible refine at_store (T := 26) ?_); refine wl_stv rfl b4 rfl _ rfl _ hv.vars.ro hv.vars.so 1 infoM rfl rfl (by simp [Value.oneCell']) ?_; intro w2 hw2; replace hv := hv.sets (by repeat first | exact .z | apply SetM.s) hw2; clear hw2)
   | ((with_reducible refine at_store (T := 27) ?_); refine wl_stc rfl b5 3 rfl (.int .u16 us2) rfl _ hv.vars.ro hv.vars.so (by kernel_rfl) rfl (by show 3 < 4; decide) ?_; intro w2 hw2; replace hv := hv.sets (by repeat first | exact .z | apply SetM.s) hw2; clear hw2))
 replace hv : Mem w0 _ ([(b9, _), (b8, _), (b5, _), (b4, _)] ++ L) _ := hv
 refine Any.wp_region_walk [⟨[1003], none⟩, ⟨[1002], none⟩, ⟨[], none⟩, ⟨[1001], some 1001⟩, ⟨[1000], some 1000⟩, ⟨[], none⟩] [.val, .val, .val, .put, .put, .val] (by kernel_rfl) (by kernel_rfl) (hv.vars.keep (List.sublist_append_left [(b9, #[.int .i64 0, .int .i64 0, .int .u16 0, .int .u16 0]), (b8, #[.slice none 0 0]), (b5, #[.int .i64 base, .int .i64 n, .int .u16 sn, .int .u16 us2]), (b4, #[(.slice (some ⟨vb, 0, none⟩) mn vc)])] L)) ?_
 simp only [List.length_cons, List.length_nil, Nat.zero_add, Any.someVals]
 iterate 6 apply Exists.intro
 repeat (first
   | (refine Any.E_off rfl ?_; simp only [Act.put, sia, scs, scz])
   | (apply Any.E_pureq rfl rfl rfl
      case h => intro K hK; go_big_quiet_op; (refine hK _ ?_; rfl)
      case hr => exact fun _ => rfl
      simp only [Act.put, sia, scs, scz])
   | (apply Any.E_val rfl rfl rfl rfl
      case h =>
        intro E' hA K hK
        first
          | ((with_reducible refine Any.at_qload (T := 26) ?_); refine Any.q_ldv 1003 hA (by decide) rfl rfl 1 _ Tryz.underlying26 rfl infoM (by decide) rfl ?_; refine hK _ ?_; rfl)
          | ((with_reducible refine Any.at_qload (T := 38) ?_); refine Any.q_ldv 1002 hA (by decide) rfl rfl 4 _ Tryz.underlying38 rfl infoS4 (by decide) rfl ?_; refine hK _ ?_; rfl)
          | (go_big_quiet_op; first
            | (refine hK _ ?_; rfl)
            | (refine ⟨_, fun _ _ => rfl, ?_⟩; refine hK _ ?_; rfl)
            | (apply Exists.intro; refine ⟨fun w1 hw1 => ?_, ?_⟩; · (first
                | fail)
               refine hK _ ?_; rfl))
      case hD => rfl
      simp only [Act.put, sia, scs, scz])
   | ((with_reducible refine Any.at_ealloc ?_); refine Any.E_lay rfl rfl rfl (fun _ => rfl) ?_; intro B; simp only [Act.put, sia, scs, scz])
   | ((with_reducible refine Any.at_estore (T := 26) ?_); refine Any.E_putv (T := 26) rfl rfl rfl rfl rfl rfl 1 infoM rfl rfl (by simp [Value.oneCell']) ?_; simp only [Act.put, sia, scs, scz])
   | ((with_reducible refine Any.at_estore (T := 38) ?_); refine Any.E_putv (T := 38) rfl rfl rfl rfl rfl rfl 4 infoS4 rfl rfl (by simp [Value.oneCell']) ?_; simp only [Act.put, sia, scs, scz]))
 try any_goals exact undef
 refine Any.E_nil ?_
 intro w9 hE9
 replace hv : Mem w0 w9 ([(b9, #[.int .i64 base, .int .i64 n, .int .u16 sn, .int .u16 us2]), (b8, #[(.slice (some ⟨vb, 0, none⟩) mn vc)]), (b5, #[.int .i64 base, .int .i64 n, .int .u16 sn, .int .u16 us2]), (b4, #[(.slice (some ⟨vb, 0, none⟩) mn vc)])] ++ L) _ := hE9.memr hv [1000, 1001, 1002, 1003] (by decide)
 clear hE9
 simp only [List.cons_append, List.nil_append] at hv
 go_wp2
 try simp only [Exit.inBlock, Exit.then]
 refine ret_cct (v := .agg #[(.slice (some ⟨vb, 0, none⟩) mn vc)]) (v' := .agg #[.int .i64 base, .int .i64 n, .int .u16 sn, .int .u16 us2]) (v1 := .int .i64 0) rfl rfl rfl (read_row _ b8 26 _ (hv.vars.ro (b := b8)) 1 _ Tryz.underlying26 rfl infoM (by decide) rfl) (read_row _ b9 38 _ (hv.vars.ro (b := b9)) 4 _ Tryz.underlying38 rfl infoS4 (by decide) rfl) rfl rfl ?_
 exact ⟨vb, vc, R1, rfl, hv.drop.drop.drop.drop, HI.out, HS.out⟩
theorem built_buf (a l : Nat) (wr : Bool) : Tryz.prog.built 91 [(0, .int .i64 a), (1, .int .i64 l), (2, .bool wr)] = some #[.int .i64 a, .int .i64 l, .bool wr] := by kernel_rfl
theorem part_w {mb mo mn mc : Nat} {M : List Nat} (hm : OkM mn M) (base n i sn us : Nat) (hn : okN n) (hb : base + sizeN n ≤ mn) (hi : i < n) {a l f x : Nat} (h1 : getN M (base + 16 * i) 8 = a) (h2 : getN M (base + 16 * i + 8) 4 = l) (h3 : getN M (base + 16 * i + 8 + 4) 2 = f) (h4 : getN M (base + 16 * i + 8 + 4 + 2) 2 = x)
   (hl : 0 < l) (hal : a + l ≤ mn) {g : Int} (hg : bits .and .u16 (f : Int) 2 = g) {wr : Bool} (hw : (g != 0) = wr) (w : World) (hr : Rd w 1 (.slice (some ⟨mb, mo, none⟩) mn mc) (cellsB M)) :
   Calls Tryz.prog 59 #[(.agg #[(.slice (some ⟨mb, mo, none⟩) mn mc)]), .agg #[.int .i64 base, .int .i64 n, .int .u16 sn, .int .u16 us], .int .i64 i] w fun e w' => e = .returned (.tuple #[.agg #[.int .i64 a, .int .i64 l, .bool wr], .agg #[.int .u64 a, .int .u32 l, .int .u16 f, .int .u16 x], .bool true]) ∧ New w w' := by
 have hv0 := (Mem.nil w).old hr
 have hv : Mem w w [] [(1, (.slice (some ⟨mb, mo, none⟩) mn mc), cellsB M)] := hv0
 have HM : Hid (InM [(1, (.slice (some ⟨mb, mo, none⟩) mn mc), cellsB M)] mb mo mn mc M) := Lib.hid ⟨Mem.z, hm.len, hm.pos, hm.most, hm.good⟩
 clear hv0 hr
 have HN := Lib.hid hn
 have HB := Lib.hid hb
 have HI := Lib.hid hi
 have H1 := Lib.hid h1
 have H2 := Lib.hid h2
 have H3 := Lib.hid h3
 have H4 := Lib.hid h4
 have hm8 := hm.most
 have HLI : Hid (∀ w1, Rd w1 1 (.slice (some ⟨mb, mo, none⟩) mn mc) (cellsB M) → Calls Tryz.prog 69 #[(.agg #[(.slice (some ⟨mb, mo, none⟩) mn mc)]), .agg #[.int .i64 a, .int .i64 l, .bool wr]] w1 fun e w' => e = .returned (.bool true) ∧ New w1 w') := Lib.hid (fun w1 hr => lies_w hm a l wr hl hal w1 hr)
 have y1 : decide ((8192 : Int) < (a : Int)) = false := decide_eq_false (by omega)
 have z1 : decide (8192 < a) = false := decide_eq_false (by omega)
 have q1 : IntKind.i64.wrap (a : Int) = (a : Int) := IntWalk.i64_in _ (by omega)
 have q2 : IntKind.i64.wrap (l : Int) = (l : Int) := IntWalk.i64_in _ (by omega)
 clear hn hb hi h1 h2 h3 h4 hl hal hm8 hm
 go_enter Tryz.func59, Tryz.ntmps59
 go_wp2_with (first
   | ((with_reducible refine at_box (T := 26) (dst := some 3) ?_); refine wl_newb rfl #[(.slice (some ⟨mb, mo, none⟩) mn mc)] 26 (fun _ => rfl) ?_; intro b3 w2 hm2; replace hv := hv.madeAt hm2; clear hm2)
   | ((with_reducible refine at_box (T := 38) (dst := some 4) ?_); refine wl_newb rfl #[.int .i64 base, .int .i64 n, .int .u16 sn, .int .u16 us] 38 (fun _ => rfl) ?_; intro b4 w2 hm2; replace hv := hv.madeAt hm2; clear hm2)
   | ((with_reducible refine at_alloc (T := 91) (dst := some 6) ?_); refine wl_newb rfl #[.int .i64 0, .int .i64 0, .bool false] 91 (fun _ => rfl) ?_; intro b6 w2 hm2; replace hv := hv.madeAt hm2; clear hm2)
   | ((with_reducible refine at_alloc (T := 137) (dst := some 7) ?_); refine wl_newb rfl #[.int .u64 0, .int .u32 0, .int .u16 0, .int .u16 0] 137 (fun _ => rfl) ?_; intro b7 w2 hm2; replace hv := hv.madeAt hm2; clear hm2)
   | ((with_reducible refine at_load (T := 26) ?_); refine wl_ldv rfl b3 rfl _ hv.vars.ro 1 _ Tryz.underlying26 rfl infoM (by decide) rfl ?_)
   | ((with_reducible refine at_load (T := 3) ?_); refine wl_ldc rfl b4 0 rfl _ hv.vars.ro _ Tryz.underlying3 rfl (.int .i64 base) rfl ?_)
   | ((with_reducible refine at_load (T := 3) ?_); refine wl_ldc rfl b4 1 rfl _ hv.vars.ro _ Tryz.underlying3 rfl (.int .i64 n) rfl ?_)
   | (go_at_call 96; (with_reducible refine (Desc_w HM.out.ok base n i HN.out HB.out HI.out H1.out H2.out H3.out H4.out _ (hv.rd HM.out.rd)).mono ?_); rintro e w1 ⟨rfl, hn1⟩; replace hv := hv.new hn1; clear hn1)
   | ((with_reducible refine at_alloc (T := 137) (dst := some 9) ?_); refine wl_newb rfl #[.int .u64 0, .int .u32 0, .int .u16 0, .int .u16 0] 137 (fun _ => rfl) ?_; intro b9 w2 hm2; replace hv := hv.madeAt hm2; clear hm2)
   | ((with_reducible refine at_store (T := 137) ?_); refine wl_stv rfl b9 rfl _ rfl _ hv.vars.ro hv.vars.so 4 infoD rfl rfl (by simp [Value.oneCell']) ?_; intro w2 hw2; replace hv := hv.sets (by repeat first | exact .z | apply SetM.s) hw2; clear hw2)
   | ((with_reducible refine at_load (T := 114) ?_); refine wl_ldc rfl b9 0 rfl _ hv.vars.ro _ Tryz.underlying114 rfl (.int .u64 a) rfl ?_)
   | ((with_reducible refine at_load (T := 135) ?_); refine wl_ldc rfl b9 1 rfl _ hv.vars.ro _ Tryz.underlying135 rfl (.int .u32 l) rfl ?_)
   | ((with_reducible refine at_load (T := 27) ?_); refine wl_ldc rfl b9 2 rfl _ hv.vars.ro _ Tryz.underlying27 rfl (.int .u16 f) rfl ?_)
   | ((with_reducible refine at_build ?_); refine wl_build rfl [(0, .int .i64 a), (1, .int .i64 l), (2, .bool wr)] rfl (built_buf _ _ _) ?_)
   | ((with_reducible refine at_alloc (T := 91) (dst := some 11) ?_); refine wl_newb rfl #[.int .i64 0, .int .i64 0, .bool false] 91 (fun _ => rfl) ?_; intro b11 w2 hm2; replace hv := hv.madeAt hm2; clear hm2)
   | ((with_reducible refine at_store (T := 91) ?_); refine wl_stv rfl b11 rfl _ rfl _ hv.vars.ro hv.vars.so 3 infoB3 rfl rfl (by simp [Value.oneCell']) ?_; intro w2 hw2; replace hv := hv.sets (by repeat first | exact .z | apply SetM.s) hw2; clear hw2))
 have HPM := Lib.hid (Any.rd_start hv HM.out.rd)
 refine Any.wp_region_walk [⟨[1000], none⟩, ⟨[1001], none⟩, ⟨[1005], none⟩, ⟨[1000], none⟩, ⟨[], none⟩, ⟨[1003], some 1003⟩, ⟨[1002], some 1002⟩, ⟨[], none⟩] [.val, .val, .val, .val, .val, .put, .put, .val] (by kernel_rfl) (by kernel_rfl) hv.vars ?_
 simp only [List.length_cons, List.length_nil, Nat.zero_add, Any.someVals]
 iterate 8 apply Exists.intro
 repeat (first
   | (refine Any.E_off rfl ?_; simp only [Act.put, sia, scs, scz])
   | (apply Any.E_pureq rfl rfl rfl
      case h => intro K hK; go_big_quiet_op; (refine hK _ ?_; rfl)
      case hr => exact fun _ => rfl
      simp only [Act.put, sia, scs, scz])
   | (apply Any.E_val rfl rfl rfl rfl
      case h =>
        intro E' hA K hK
        first
          | ((with_reducible refine Any.at_qload (T := 91) ?_); refine Any.q_ldv 1000 hA (by decide) rfl rfl 3 _ Tryz.underlying91 rfl infoB3 (by decide) rfl ?_; refine hK _ ?_; rfl)
          | ((with_reducible refine Any.at_qload (T := 137) ?_); refine Any.q_ldv 1001 hA (by decide) rfl rfl 4 _ Tryz.underlying137 rfl infoD (by decide) rfl ?_; refine hK _ ?_; rfl)
          | ((with_reducible refine Any.at_qload (T := 26) ?_); refine Any.q_ldv 1005 hA (by decide) rfl rfl 1 _ Tryz.underlying26 rfl infoM (by decide) rfl ?_; refine hK _ ?_; rfl)
          | (go_big_quiet_op; first
            | (refine hK _ ?_; rfl)
            | (refine ⟨_, fun _ _ => rfl, ?_⟩; refine hK _ ?_; rfl)
            | (apply Exists.intro; refine ⟨fun w1 hw1 => ?_, ?_⟩; · (first
                | (go_at_call 69; exact Any.calls_VE (HLI.out _ (hw1.rdold HPM.out.1 HPM.out.2)) hw1))
               refine hK _ ?_; rfl))
      case hD => rfl
      simp only [Act.put, sia, scs, scz])
   | ((with_reducible refine Any.at_ealloc ?_); refine Any.E_lay rfl rfl rfl (fun _ => rfl) ?_; intro B; simp only [Act.put, sia, scs, scz])
   | ((with_reducible refine Any.at_estore (T := 91) ?_); refine Any.E_putv (T := 91) rfl rfl rfl rfl rfl rfl 3 infoB3 rfl rfl (by simp [Value.oneCell']) ?_; simp only [Act.put, sia, scs, scz])
   | ((with_reducible refine Any.at_estore (T := 137) ?_); refine Any.E_putv (T := 137) rfl rfl rfl rfl rfl rfl 4 infoD rfl rfl (by simp [Value.oneCell']) ?_; simp only [Act.put, sia, scs, scz]))
 try any_goals exact undef
 refine Any.E_nil ?_
 intro w9 hE9
 replace hv : Mem w w9 [(b11, #[.int .i64 a, .int .i64 l, .bool wr]), (b9, #[.int .u64 a, .int .u32 l, .int .u16 f, .int .u16 x]), (b7, #[.int .u64 a, .int .u32 l, .int .u16 f, .int .u16 x]), (b6, #[.int .i64 a, .int .i64 l, .bool wr]), (b4, #[.int .i64 base, .int .i64 n, .int .u16 sn, .int .u16 us]), (b3, #[(.slice (some ⟨mb, mo, none⟩) mn mc)])] _ := hE9.mem hv [1000, 1001, 1002, 1003, 1004, 1005] (by decide)
 clear hE9
 go_wp2
 try simp only [Exit.inBlock, Exit.then]
 exact ret_cct (v := .agg #[.int .i64 a, .int .i64 l, .bool wr]) (v' := .agg #[.int .u64 a, .int .u32 l, .int .u16 f, .int .u16 x]) (v1 := .bool true) rfl rfl rfl (read_row _ b6 91 _ (hv.vars.ro (b := b6)) 3 _ Tryz.underlying91 rfl infoB3 (by decide) rfl) (read_row _ b7 137 _ (hv.vars.ro (b := b7)) 4 _ Tryz.underlying137 rfl infoD (by decide) rfl) rfl rfl ⟨rfl, hv.below⟩
end Go.Proofs.YtjmibgomkgkhnaaGreat
end

section
/-
 A queue's device side: what was handed over.
-/
namespace Go.Proofs.Qu
open Go Go.RowKit Go.Proofs.Nm
abbrev Pt := Nat × Nat × Bool
def encP (p : Pt) : List Value := [.int .i64 (p.1 : Nat), .int .i64 (p.2.1 : Nat), .bool p.2.2]
def cellsPt (l : List Pt) : List Value := l.flatMap encP
theorem cellsPt_len (l : List Pt) : (cellsPt l).length = l.length * 3 := len_flat (en := encP) (fun _ => rfl) l
theorem cellsPt_snoc (l : List Pt) (p : Pt) : cellsPt (l ++ [p]) = cellsPt l ++ encP p := by unfold cellsPt; simp
def DescAt (M : List Nat) (base i a l f x : Nat) : Prop := getN M (base + 16 * i) 8 = a ∧ getN M (base + 16 * i + 8) 4 = l ∧ getN M (base + 16 * i + 8 + 4) 2 = f ∧ getN M (base + 16 * i + 8 + 4 + 2) 2 = x
def ChainAt (mn : Nat) (M : List Nat) (base n : Nat) : Nat → List Pt → Prop
 | _, [] => False
 | i, p :: r => i < n ∧ ∃ f x, DescAt M base i p.1 p.2.1 f x ∧ 0 < p.2.1 ∧ p.1 + p.2.1 ≤ mn ∧ (bits .and .u16 (f : Int) 2 != 0) = p.2.2 ∧ (bits .and .u16 (f : Int) 1 == 0) = r.isEmpty ∧ (r ≠ [] → ChainAt mn M base n x r)
theorem encP_one (p : Pt) : ∀ x ∈ encP p, x.oneCell' = true := fun x hx => by
 unfold encP at hx
 simp at hx
 rcases hx with rfl | rfl | rfl <;> rfl
theorem mem5 {w0 w : World} {a b c d e : Nat × Array Value} {O L : List (Nat × Array Value)} {R : List (Nat × Value × List Value)} (h : Mem w0 w (a :: b :: c :: d :: e :: (O ++ L)) R) : Mem w0 w ([a, b, c, d, e] ++ O ++ L) R := by simpa using h
theorem mem5' {w0 w : World} {a b c d e : Nat × Array Value} {O L : List (Nat × Array Value)} {R : List (Nat × Value × List Value)} (h : Mem w0 w ([a, b, c, d, e] ++ O ++ L) R) : Mem w0 w (a :: b :: c :: d :: e :: (O ++ L)) R := by simpa using h
end Go.Proofs.Qu
namespace Go.Proofs.YtjmibgomkgkhnaaGreat
open Go.Proofs.Qu Go.Proofs.Nm Go.RowKit Go.Proofs
theorem infoB3z : (Tryz.prog.info? 91).map (fun i => (i.zero, i.size, i.bytes)) = some (some (.agg #[.int .i64 0, .int .i64 0, .bool false]), 3, 24) := by kernel_rfl
theorem Next_M {w0 w : World} {L : List (Nat × Array Value)} {R : List (Nat × Value × List Value)} {mb mo mn mc : Nat} {M : List Nat} (hv : Mem w0 w L R) (hm : InM R mb mo mn mc M) (base n sn us : Nat) (hn : okN n) (hb : base + sizeN n ≤ mn) (hsn : sn < 65536) {av : Nat} (hav : getN M (base + (16 * n + 2)) 2 = av) (hne : av ≠ sn) {h0 : Nat} (hh : getN M (base + (16 * n + (4 + 2 * (sn % n)))) 2 = h0) (L0 : List Pt) (hc : ChainAt mn M base n h0 L0) (hlen : L0.length ≤ n) :
   Calls Tryz.prog 29 #[(.agg #[(.slice (some ⟨mb, mo, none⟩) mn mc)]), .agg #[.int .i64 base, .int .i64 n, .int .u16 sn, .int .u16 us]] w fun e w' => ∃ v R', e = .returned (.tuple #[.agg #[.int .i64 base, .int .i64 n, .int .u16 ((sn + 1) % 65536 : Nat), .int .u16 us], .int .i64 h0, v, .int .i64 0]) ∧ Mem w0 w' L R' ∧ (3, v, cellsPt L0) ∈ R' ∧ ∀ x ∈ R, x ∈ R' := by
 have HM := Lib.hid hm
 have HN := Lib.hid hn
 have HB := Lib.hid hb
 have HSN := Lib.hid hsn
 have HAV := Lib.hid hav
 have HH0 := Lib.hid hh
 have HC := Lib.hid hc
 have HLN := Lib.hid hlen
 have HL0 : Hid (0 < L0.length) := Lib.hid (by
   cases L0 with
   | nil => exact hc.elim
   | cons p r => exact Nat.succ_pos _)
 have y1 : ((av : Int) == (sn : Int)) = false := by rw [beq_eq_false_iff_ne]; omega
 obtain ⟨sn1, hs1⟩ : ∃ j, (sn + 1) % 65536 = j := ⟨_, rfl⟩
 have q3 : IntKind.u16.wrap ((sn : Int) + 1) = (sn1 : Int) := by rw [inc16, hs1]
 have hn16 : (n : Int) ≤ 16 := by have := hn.le; omega
 rw [hs1]
 clear hn hb hsn hav hne hh hc hlen hs1 hm
 go_enter Tryz.func29, Tryz.ntmps29
 go_wp2_with (first
   | ((with_reducible refine at_box (T := 26) (dst := some 2) ?_); refine wl_newb rfl #[(.slice (some ⟨mb, mo, none⟩) mn mc)] 26 (fun _ => rfl) ?_; intro b2 w2 hm2; replace hv := hv.madeAt hm2; clear hm2)
   | ((with_reducible refine at_box (T := 38) (dst := some 3) ?_); refine wl_newb rfl #[.int .i64 base, .int .i64 n, .int .u16 sn, .int .u16 us] 38 (fun _ => rfl) ?_; intro b3 w2 hm2; replace hv := hv.madeAt hm2; clear hm2)
   | ((with_reducible refine at_alloc (T := 38) (dst := some 4) ?_); refine wl_newb rfl #[.int .i64 0, .int .i64 0, .int .u16 0, .int .u16 0] 38 (fun _ => rfl) ?_; intro b4 w2 hm2; replace hv := hv.madeAt hm2; clear hm2)
   | ((with_reducible refine at_load (T := 26) ?_); refine wl_ldv rfl b2 rfl _ hv.vars.ro 1 _ Tryz.underlying26 rfl infoM (by decide) rfl ?_)
   | ((with_reducible refine at_load (T := 3) ?_); refine wl_ldc rfl b3 0 rfl _ hv.vars.ro _ Tryz.underlying3 rfl (.int .i64 base) rfl ?_)
   | ((with_reducible refine at_load (T := 3) ?_); refine wl_ldc rfl b3 1 rfl _ hv.vars.ro _ Tryz.underlying3 rfl (.int .i64 n) rfl ?_)
   | ((with_reducible refine at_load (T := 27) ?_); refine wl_ldc rfl b3 2 rfl _ hv.vars.ro _ Tryz.underlying27 rfl (.int .u16 sn) rfl ?_)
   | (go_at_call 57; (with_reducible refine (Avail_w HM.out.ok base n HN.out HB.out HAV.out _ (hv.rd HM.out.rd)).mono ?_); rintro e w1 ⟨rfl, hn1⟩; replace hv := hv.new hn1; clear hn1)
   | (go_at_call 58; (with_reducible refine (AvailAt_w HM.out.ok base n sn HN.out HB.out HSN.out HH0.out _ (hv.rd HM.out.rd)).mono ?_); rintro e w1 ⟨rfl, hn1⟩; replace hv := hv.new hn1; clear hn1)
   | ((with_reducible refine at_store (T := 27) ?_); refine wl_stc rfl b3 2 rfl (.int .u16 sn1) rfl _ hv.vars.ro hv.vars.so (by kernel_rfl) rfl (by show 2 < 4; decide) ?_; intro w2 hw2; replace hv := hv.sets (by repeat first | exact .z | apply SetM.s) hw2; clear hw2))
 go_step3
 go_wp2_with (first
   | ((with_reducible refine at_load (T := 26) ?_); refine wl_ldv rfl b2 rfl _ hv.vars.ro 1 _ Tryz.underlying26 rfl infoM (by decide) rfl ?_)
   | ((with_reducible refine at_load (T := 3) ?_); refine wl_ldc rfl b3 0 rfl _ hv.vars.ro _ Tryz.underlying3 rfl (.int .i64 base) rfl ?_)
   | ((with_reducible refine at_load (T := 3) ?_); refine wl_ldc rfl b3 1 rfl _ hv.vars.ro _ Tryz.underlying3 rfl (.int .i64 n) rfl ?_)
   | ((with_reducible refine at_load (T := 27) ?_); refine wl_ldc rfl b3 2 rfl _ hv.vars.ro _ Tryz.underlying27 rfl (.int .u16 sn) rfl ?_)
   | (go_at_call 57; (with_reducible refine (Avail_w HM.out.ok base n HN.out HB.out HAV.out _ (hv.rd HM.out.rd)).mono ?_); rintro e w1 ⟨rfl, hn1⟩; replace hv := hv.new hn1; clear hn1)
   | (go_at_call 58; (with_reducible refine (AvailAt_w HM.out.ok base n sn HN.out HB.out HSN.out HH0.out _ (hv.rd HM.out.rd)).mono ?_); rintro e w1 ⟨rfl, hn1⟩; replace hv := hv.new hn1; clear hn1)
   | ((with_reducible refine at_store (T := 27) ?_); refine wl_stc rfl b3 2 rfl (.int .u16 sn1) rfl _ hv.vars.ro hv.vars.so (by kernel_rfl) rfl (by show 2 < 4; decide) ?_; intro w2 hw2; replace hv := hv.sets (by repeat first | exact .z | apply SetM.s) hw2; clear hw2))
 simp only [List.setIfInBounds_toArray, List.set_cons_zero, List.set_cons_succ] at hv
 go_step3
 go_wp2_with (first
   | ((with_reducible refine at_load (T := 3) ?_); refine wl_ldc rfl b3 1 rfl _ hv.vars.ro _ Tryz.underlying3 rfl (.int .i64 n) rfl ?_))
 go_loopw [12, 13, 55] (fun ov av_ kv wr => ∃ (k i : Nat) (O : List (Nat × Array Value)), k < L0.length ∧ kv = .int .i64 k ∧ av_ = .int .i64 i ∧ Mem w0 wr ((b4, #[.int .i64 0, .int .i64 0, .int .u16 0, .int .u16 0]) :: (b3, #[.int .i64 base, .int .i64 n, .int .u16 sn1, .int .u16 us]) :: (b2, #[(.slice (some ⟨mb, mo, none⟩) mn mc)]) :: (O ++ L)) R ∧ Hid (OwnL 3 ov (cellsPt (L0.take k)) O) ∧ Hid (ChainAt mn M base n i (L0.drop k))) (fun _ _ kv _ => n - (intOf kv).toNat)
 case atStart => exact ⟨0, h0, [], HL0.out, rfl, rfl, hv, Lib.hid (OwnL.nil 3), Lib.hid (by rw [List.drop_zero]; exact HC.out)⟩
 case round =>
   clear hv
   obtain ⟨k, i, O, hk, rfl, rfl, hv, HO, HCH⟩ := hrel
   obtain ⟨oa, on, oc, rfl, hon⟩ := id HO.out.slice
   clear hon
   obtain ⟨⟨a, l, wr_⟩, hp⟩ : ∃ p, L0[k] = p := ⟨_, rfl⟩
   have hdr : L0.drop k = (a, l, wr_) :: L0.drop (k + 1) := by rw [List.drop_eq_getElem_cons hk, hp]
   have hch := HCH.out
   rw [hdr] at hch
   obtain ⟨hin, f, x, hd, hl1, hal, hw2, hw1, hnx⟩ := hch
   have HK := Lib.hid hk
   have HI := Lib.hid hin
   have HDA := Lib.hid hd
   have HL1 := Lib.hid hl1
   have HAL := Lib.hid hal
   have HNX := Lib.hid hnx
   have HTK : Hid (L0.take (k + 1) = L0.take k ++ [(a, l, wr_)]) := Lib.hid (by rw [List.take_succ_eq_append_getElem hk, hp])
   have hkn : (k : Int) < (n : Int) := by have := HLN.out; omega
   simp only at hw2 hd hl1 hal HDA HL1 HAL
   have HW2 := Lib.hid hw2
   have D1 : Hid (getN M (base + 16 * i) 8 = a) := Lib.hid hd.1
   have D2 : Hid (getN M (base + 16 * i + 8) 4 = l) := Lib.hid hd.2.1
   have D3 : Hid (getN M (base + 16 * i + 8 + 4) 2 = f) := Lib.hid hd.2.2.1
   have D4 : Hid (getN M (base + 16 * i + 8 + 4 + 2) 2 = x) := Lib.hid hd.2.2.2
   have hk2 : k < n := by have := HLN.out; omega
   have HP1 : Hid (((cellsPt (L0.take k)).length + (encP (a, l, wr_)).length) / 3 ≤ maxLen) := Lib.hid (by rw [cellsPt_len, List.length_take]; show (_ + 3) / 3 ≤ _; have := HN.out.le; unfold maxLen; omega)
   have HP2 : Hid (((cellsPt (L0.take k)).length + (encP (a, l, wr_)).length) / 3 * 24 ≤ 140737488355328) := Lib.hid (by rw [cellsPt_len, List.length_take]; show (_ + 3) / 3 * 24 ≤ _; have := HN.out.le; omega)
   have HKN := Lib.hid hk2
   have hkb : (k : Int) ≤ 100 := by omega
   have qx : IntKind.i64.wrap (x : Int) = (x : Int) := IntWalk.i64_in _ (by have := getN_lt' HM.out.good (base + 16 * i + 8 + 4 + 2) (k := 2) (by decide); rw [D4.out] at this; omega)
   cases hr : L0.drop (k + 1) with
   | nil =>
     rw [hr] at hw1
     have y9 : (bits .and .u16 (f : Int) 1 == 0) = true := hw1
     have HALL : Hid (L0.take (k + 1) = L0) := Lib.hid (by have h9 := List.take_append_drop (k + 1) L0; rw [hr, List.append_nil] at h9; exact h9)
     clear hw1 hw2 hd hl1 hal hin hdr hp hnx HNX hr hk hk2
     go_wp2_with (first
       | ((with_reducible refine at_load (T := 26) ?_); refine wl_ldv rfl b2 rfl _ hv.vars.ro 1 _ Tryz.underlying26 rfl infoM (by decide) rfl ?_)
       | ((with_reducible refine at_load (T := 38) ?_); refine wl_ldv rfl b3 rfl _ hv.vars.ro 4 _ Tryz.underlying38 rfl infoS4 (by decide) rfl ?_)
       | (go_at_call 59; (with_reducible refine (part_w HM.out.ok base n i sn1 us HN.out HB.out HI.out D1.out D2.out D3.out D4.out HL1.out HAL.out rfl HW2.out _ (hv.rd HM.out.rd)).mono ?_); rintro e w1 ⟨rfl, hn1⟩; replace hv := hv.new hn1; clear hn1)
       | ((with_reducible refine at_alloc (T := 91) (dst := some 14) ?_); refine wl_newb rfl #[.int .i64 0, .int .i64 0, .bool false] 91 (fun _ => rfl) ?_; intro b14 w2 hm2; replace hv := hv.madeAt hm2; clear hm2)
       | ((with_reducible refine at_alloc (T := 137) (dst := some 15) ?_); refine wl_newb rfl #[.int .u64 0, .int .u32 0, .int .u16 0, .int .u16 0] 137 (fun _ => rfl) ?_; intro b15 w2 hm2; replace hv := hv.madeAt hm2; clear hm2)
       | ((with_reducible refine at_store (T := 91) ?_); refine wl_stv rfl b14 rfl _ rfl _ hv.vars.ro hv.vars.so 3 infoB3 rfl rfl (by simp [Value.oneCell']) ?_; intro w2 hw2; replace hv := hv.sets (by repeat first | exact .z | apply SetM.s) hw2; clear hw2)
       | ((with_reducible refine at_store (T := 137) ?_); refine wl_stv rfl b15 rfl _ rfl _ hv.vars.ro hv.vars.so 4 infoD rfl rfl (by simp [Value.oneCell']) ?_; intro w2 hw2; replace hv := hv.sets (by repeat first | exact .z | apply SetM.s) hw2; clear hw2)
       | ((with_reducible refine at_load (T := 91) ?_); refine wl_ldv rfl b14 rfl _ hv.vars.ro 3 _ Tryz.underlying91 rfl infoB3 (by decide) rfl ?_)
       | ((with_reducible refine at_append (t := 87) ?_); replace hv := (mem5 hv).bsl' (k := 3) (n := 1) (c := encP (a, l, wr_)) ⟨rfl, made_alloc _ #[.int .i64 a, .int .i64 l, .bool wr_] 91⟩ rfl rfl (by unfold maxLen; omega); refine wl_appO (A := [_, _, _, _, _]) (B := L) rfl rfl HO.out hv (.agg #[.int .i64 0, .int .i64 0, .bool false]) 24 Tryz.underlying87 infoB3z rfl (by decide) rfl (hv.rd Mem.z) (encP_one _) HP1.out HP2.out ?_; intro v2 w7 O2 hO2 hv1; replace hv := mem5' hv1.dropR; clear hv1; rw [← cellsPt_snoc, ← HTK.out] at hO2; have hq2 := hO2.slice; obtain ⟨ua, un, uc, rfl, hq3⟩ := hq2; clear hq3; replace hO2 := Lib.hid hO2)
       | ((with_reducible refine at_load (T := 27) ?_); refine wl_ldc rfl b15 2 rfl _ hv.vars.ro _ Tryz.underlying27 rfl (.int .u16 f) rfl ?_)
       | ((with_reducible refine at_load (T := 27) ?_); refine wl_ldc rfl b15 3 rfl _ hv.vars.ro _ Tryz.underlying27 rfl (.int .u16 x) rfl ?_)
       | ((with_reducible refine at_store (T := 38) ?_); refine wl_stv rfl b4 rfl _ rfl _ hv.vars.ro hv.vars.so 4 infoS4 rfl rfl (by simp [Value.oneCell']) ?_; intro w2 hw2; replace hv := hv.sets (by repeat first | exact .z | apply SetM.s) hw2; clear hw2))
     try rw [Exit.noGoto_ret]
     try simp only [Exit.inBlock, Exit.then]
     refine ret_cttt (v := .agg #[.int .i64 base, .int .i64 n, .int .u16 sn1, .int .u16 us]) (v1 := .int .i64 h0) (v2 := .slice ua un uc) (v3 := .int .i64 0) rfl rfl (read_row _ b4 38 _ (hv.vars.ro (b := b4)) 4 _ Tryz.underlying38 rfl infoS4 (by decide) rfl) rfl rfl rfl rfl ?_
     have hy := hO2.out.yield (A := [_, _, _, _, _]) (B := L) (mem5 hv)
     rw [HALL.out] at hy
     simp only [List.cons_append, List.nil_append] at hy
     exact ⟨.slice ua un uc, _, rfl, hy.drop.drop.drop.drop.drop, Mem.z, fun x hx => Mem.s hx⟩
   | cons p2 r2 =>
     rw [hr] at hw1 HNX
     have y9 : (bits .and .u16 (f : Int) 1 == 0) = false := hw1
     have HN2 : Hid (ChainAt mn M base n x (L0.drop (k + 1))) := Lib.hid (by rw [hr]; exact HNX.out (List.cons_ne_nil _ _))
     have HK1 : Hid (k + 1 < L0.length) := Lib.hid (by have h9 := congrArg List.length hr; rw [List.length_drop, List.length_cons] at h9; omega)
     clear hw1 hw2 hd hl1 hal hin hdr hp hnx HNX hr hk hk2
     go_wp2_with (first
       | ((with_reducible refine at_load (T := 26) ?_); refine wl_ldv rfl b2 rfl _ hv.vars.ro 1 _ Tryz.underlying26 rfl infoM (by decide) rfl ?_)
       | ((with_reducible refine at_load (T := 38) ?_); refine wl_ldv rfl b3 rfl _ hv.vars.ro 4 _ Tryz.underlying38 rfl infoS4 (by decide) rfl ?_)
       | (go_at_call 59; (with_reducible refine (part_w HM.out.ok base n i sn1 us HN.out HB.out HI.out D1.out D2.out D3.out D4.out HL1.out HAL.out rfl HW2.out _ (hv.rd HM.out.rd)).mono ?_); rintro e w1 ⟨rfl, hn1⟩; replace hv := hv.new hn1; clear hn1)
       | ((with_reducible refine at_alloc (T := 91) (dst := some 14) ?_); refine wl_newb rfl #[.int .i64 0, .int .i64 0, .bool false] 91 (fun _ => rfl) ?_; intro b14 w2 hm2; replace hv := hv.madeAt hm2; clear hm2)
       | ((with_reducible refine at_alloc (T := 137) (dst := some 15) ?_); refine wl_newb rfl #[.int .u64 0, .int .u32 0, .int .u16 0, .int .u16 0] 137 (fun _ => rfl) ?_; intro b15 w2 hm2; replace hv := hv.madeAt hm2; clear hm2)
       | ((with_reducible refine at_store (T := 91) ?_); refine wl_stv rfl b14 rfl _ rfl _ hv.vars.ro hv.vars.so 3 infoB3 rfl rfl (by simp [Value.oneCell']) ?_; intro w2 hw2; replace hv := hv.sets (by repeat first | exact .z | apply SetM.s) hw2; clear hw2)
       | ((with_reducible refine at_store (T := 137) ?_); refine wl_stv rfl b15 rfl _ rfl _ hv.vars.ro hv.vars.so 4 infoD rfl rfl (by simp [Value.oneCell']) ?_; intro w2 hw2; replace hv := hv.sets (by repeat first | exact .z | apply SetM.s) hw2; clear hw2)
       | ((with_reducible refine at_load (T := 91) ?_); refine wl_ldv rfl b14 rfl _ hv.vars.ro 3 _ Tryz.underlying91 rfl infoB3 (by decide) rfl ?_)
       | ((with_reducible refine at_append (t := 87) ?_); replace hv := (mem5 hv).bsl' (k := 3) (n := 1) (c := encP (a, l, wr_)) ⟨rfl, made_alloc _ #[.int .i64 a, .int .i64 l, .bool wr_] 91⟩ rfl rfl (by unfold maxLen; omega); refine wl_appO (A := [_, _, _, _, _]) (B := L) rfl rfl HO.out hv (.agg #[.int .i64 0, .int .i64 0, .bool false]) 24 Tryz.underlying87 infoB3z rfl (by decide) rfl (hv.rd Mem.z) (encP_one _) HP1.out HP2.out ?_; intro v2 w7 O2 hO2 hv1; replace hv := mem5' hv1.dropR; clear hv1; rw [← cellsPt_snoc, ← HTK.out] at hO2; have hq2 := hO2.slice; obtain ⟨ua, un, uc, rfl, hq3⟩ := hq2; clear hq3; replace hO2 := Lib.hid hO2)
       | ((with_reducible refine at_load (T := 27) ?_); refine wl_ldc rfl b15 2 rfl _ hv.vars.ro _ Tryz.underlying27 rfl (.int .u16 f) rfl ?_)
       | ((with_reducible refine at_load (T := 27) ?_); refine wl_ldc rfl b15 3 rfl _ hv.vars.ro _ Tryz.underlying27 rfl (.int .u16 x) rfl ?_)
       | ((with_reducible refine at_store (T := 38) ?_); refine wl_stv rfl b4 rfl _ rfl _ hv.vars.ro hv.vars.so 4 infoS4 rfl rfl (by simp [Value.oneCell']) ?_; intro w2 hw2; replace hv := hv.sets (by repeat first | exact .z | apply SetM.s) hw2; clear hw2))
     have hkn := HKN.out
     go_roundw
     case rel => exact ⟨k + 1, x, O2, HK1.out, by go_num, rfl, hv.drop.drop, hO2, HN2⟩
     case measure => simp [intOf]; omega
end Go.Proofs.YtjmibgomkgkhnaaGreat
end

section
/-
 Parts alike, numbers alike: the reference says so.
-/
namespace Go.Proofs.Qu
open Go Go.RowKit Go.Proofs.Nm
theorem part_flat {k : Nat} {α : Type} {en : α → List Value} (hen : ∀ x, (en x).length = k) : ∀ (l : List α) (i : Nat) (h : i < l.length), ((l.flatMap en).drop (i * k)).take k = en l[i] := by
 intro l
 induction l with
 | nil => intro i h; exact (Nat.not_lt_zero _ h).elim
 | cons x r ih =>
   intro i h
   cases i with
   | zero => rw [Nat.zero_mul, List.drop_zero, List.flatMap_cons, List.take_append_of_le_length (by rw [hen]; exact Nat.le_refl _), List.take_of_length_le (by rw [hen]; exact Nat.le_refl _)]; rfl
   | succ i =>
     have e : (i + 1) * k = (en x).length + i * k := by rw [hen, Nat.add_mul, Nat.one_mul, Nat.add_comm]
     rw [List.flatMap_cons, e, List.drop_append]
     rw [List.getElem_cons_succ]
     rw [List.drop_eq_nil_of_le (Nat.le_add_right _ _), List.nil_append, Nat.add_sub_cancel_left]
     exact ih i (by simpa using h)
theorem len_rdPt {w : World} {a : Option Addr} {n c : Nat} {l : List Pt} (h : Rd w 3 (.slice a n c) (cellsPt l)) : l.length = n := by
 obtain ⟨_, _, _, e, g, _⟩ := h
 cases e
 rw [cellsPt_len] at g; omega
end Go.Proofs.Qu
namespace Go.Proofs.YtjmibgomkgkhnaaGreat
open Go.Proofs.Qu Go.Proofs.Nm Go.RowKit Go.Proofs
theorem run_equalIn_boolT (w : World) (d : Nat) (b : Bool) : (Op.equalIn (d + 1) 4 (.bool b) (.bool b)).run Tryz.prog w = .ok true w := by
 simp [Op.equalIn, run_underlying Tryz.underlying4]
end Go.Proofs.YtjmibgomkgkhnaaGreat
end

section
/-
 A new queue.
-/
namespace Go.Proofs.Qu
open Go Go.RowKit Go.Proofs.Nm
def zerosR (n : Nat) : Array Value := madeCells (Value.int .u8 0).cells (n * 1)
theorem zerosR_list (n : Nat) : (zerosR n).toList = cellsB (List.replicate n 0) := by
 unfold zerosR
 apply List.ext_getElem?
 intro i
 unfold madeCells cellsB
 simp only [Value.cells, Array.toList_map, Array.toList_range, List.getElem?_map]
 by_cases h : i < n * 1
 · rw [List.getElem?_range h, List.getElem?_replicate, if_pos (by omega)]
   simp [Nat.mod_one]
 · rw [List.getElem?_eq_none (by simp; omega), List.getElem?_replicate, if_neg (by omega)]
   rfl
theorem zerosR_size (n : Nat) : (zerosR n).size = n := by
 have := congrArg List.length (zerosR_list n)
 rw [Array.length_toList, cellsB_len, List.length_replicate] at this
 exact this
def intsI (l : List Nat) : List Value := l.map fun n => Value.int .i64 (n : Nat)
theorem intsI_len (l : List Nat) : (intsI l).length = l.length := by unfold intsI; rw [List.length_map]
theorem intsI_snoc (l : List Nat) (x : Nat) : intsI (l ++ [x]) = intsI l ++ [.int .i64 x] := by unfold intsI; simp
theorem intsI_one (l : List Nat) : ∀ x ∈ intsI l, x.oneCell' = true := fun x hx => by
 unfold intsI at hx
 obtain ⟨_, _, rfl⟩ := List.mem_map.1 hx
 rfl
theorem zeros_row (B n : Nat) (h : n ≤ 100000) : AppRow (.slice (some ⟨B, 0, none⟩) n n) 1 (cellsB (List.replicate n 0)) (B, zerosR n) := by
 refine ⟨n, n, rfl, by rw [cellsB_len, List.length_replicate, Nat.mul_one], Nat.le_refl _, by unfold maxLen; omega, by rw [Nat.mul_one]; exact zerosR_size n, ?_⟩
 show (zerosR n).toList.take _ = _
 rw [zerosR_list, List.take_of_length_le (by rw [cellsB_len, List.length_replicate]; omega)]
theorem int_one (x : Nat) : ∀ y ∈ [Value.int .i64 x], y.oneCell' = true := fun y hy => by rw [List.mem_singleton.1 hy]; rfl
theorem mem4o {w0 w : World} {a b c d : Nat × Array Value} {O L : List (Nat × Array Value)} {R : List (Nat × Value × List Value)} (h : Mem w0 w (a :: b :: c :: d :: (O ++ L)) R) : Mem w0 w ([a, b, c, d] ++ O ++ L) R := by simpa using h
theorem mem4o' {w0 w : World} {a b c d : Nat × Array Value} {O L : List (Nat × Array Value)} {R : List (Nat × Value × List Value)} (h : Mem w0 w ([a, b, c, d] ++ O ++ L) R) : Mem w0 w (a :: b :: c :: d :: (O ++ L)) R := by simpa using h
theorem zeros_good (n : Nat) : goodB (List.replicate n 0) := fun x hx => by rw [(List.mem_replicate.1 hx).2]; decide
end Go.Proofs.Qu
namespace Go
namespace Any
section
variable {P : Program} {ops : Array Oper} {β : Base} {S : Nat → Stat} {D : Nat → Kind} {Q : Act → Env → Prop} {k : Nat} {rest : List Oper} {a : Act} {E : Env}
variable {dst : Option Tmp} {ty T : TypeId} {pos : String} {after : Array Edge} {g : Option (Nat × Bool)} {x y : Operand}
theorem run_mk_op {w w' : World} {u v r : Value} (h : (Instr.makeSlice T u v).run P w = .ok r w') (hx : a.eval x = u) (hy : a.eval y = v) : (execOp a.eval (⟨dst, .makeSlice T x y, ty, pos, after, g⟩ : Oper)).run P w = .ok (.value r) w' := by
 simp [execOp, hx, hy, h, Result.andThen]
theorem at_emk (h : wpE P ops β S D Q k (⟨dst, .makeSlice T x y, ty, pos, after, g⟩ :: rest) a E) : wpE P ops β S D Q k (⟨dst, .makeSlice T x y, ty, pos, after, g⟩ :: rest) a E := h
end
end Any
end Go
namespace Go.Proofs.YtjmibgomkgkhnaaGreat
open Go.Proofs.Qu Go.Proofs.Nm Go.RowKit Go.Proofs
theorem run_mkz (w : World) (n : Nat) (hn : n ≤ 100000) : (Instr.makeSlice 24 (.int .i64 n) (.int .i64 n)).run Tryz.prog w = .ok (.slice (some ⟨w.heap.size, 0, none⟩) n n) (w.alloc (.cells (zerosR n) 5)) := by
 obtain ⟨i, hi, hz, hsz, hby⟩ := info_parts infoU8z
 have h := run_makeSlice (P := Tryz.prog) (w := w) 24 5 i (.int .u8 0) Tryz.underlying24 hi hz .i64 .i64 (n : Nat) (n : Nat) (by omega) (by omega) (by rw [hsz]; simp; omega) (by rw [hby]; omega) (by omega)
 rw [hsz] at h
 simp only [Int.toNat_natCast] at h
 exact h
theorem built_q (base n : Nat) : Tryz.prog.built 30 [(0, .int .i64 base), (1, .int .i64 n)] = some #[.int .i64 base, .int .i64 n, .slice none 0 0, .int .u16 0, .int .u16 0, .slice none 0 0] := by kernel_rfl
theorem infoQ : (Tryz.prog.info? 30).map (·.size) = some 6 := by kernel_rfl
theorem New_M {w0 w : World} {L : List (Nat × Array Value)} {R : List (Nat × Value × List Value)} {mb mo mn mc : Nat} {M : List Nat} (hv : Mem w0 w L R) (hm : InM R mb mo mn mc M) (base n : Nat) (hn : okN n) (hb : base + sizeN n ≤ mn) :
   Calls Tryz.prog 26 #[(.agg #[(.slice (some ⟨mb, mo, none⟩) mn mc)]), .int .i64 base, .int .i64 n] w fun e w' => ∃ b c fv R', e = .returned (.tuple #[.agg #[.slice (some ⟨b, 0, none⟩) mn c], .agg #[.int .i64 base, .int .i64 n, fv, .int .u16 0, .int .u16 0, .slice none 0 0], .int .i64 0]) ∧ Mem w0 w' L R' ∧ InM R' b 0 mn c (putB M base (List.replicate (sizeN n) 0)) ∧ (1, fv, intsI (List.range n)) ∈ R' ∧ ∀ x ∈ R, x ∈ R' := by
 have HM := Lib.hid hm
 have HN := Lib.hid hn
 have HB := Lib.hid hb
 have HM8 : Hid (mn ≤ 8192) := Lib.hid hm.most
 have hsz := hn.size
 have hle := hn.le
 obtain ⟨sz, hs⟩ : ∃ sz, sizeN n = sz := ⟨_, rfl⟩
 have HSI : Hid (∀ w, Calls Tryz.prog 54 #[.int .i64 n] w fun e w' => e = .returned (.int .i64 sz) ∧ New w w') := Lib.hid (fun w => by have := Size_ok n hn w; rw [hs] at this; exact this)
 have HSZ : Hid (sz ≤ 100000) := Lib.hid (by omega)
 have HS0 : Hid (0 < sz) := Lib.hid (by omega)
 have HBS : Hid (base + sz ≤ mn) := Lib.hid (by omega)
 have hn16 : (n : Int) ≤ 16 := by omega
 rw [hs]
 clear hn hb hsz hle hs hm
 go_enter Tryz.func26, Tryz.ntmps26
 go_wp2_with (first
   | ((with_reducible refine at_box (T := 26) (dst := some 3) ?_); refine wl_newb rfl #[(.slice (some ⟨mb, mo, none⟩) mn mc)] 26 (fun _ => rfl) ?_; intro b3 w2 hm2; replace hv := hv.madeAt hm2; clear hm2)
   | ((with_reducible refine at_alloc (T := 26) (dst := some 6) ?_); refine wl_newb rfl #[.slice none 0 0] 26 (fun _ => rfl) ?_; intro b6 w2 hm2; replace hv := hv.madeAt hm2; clear hm2)
   | ((with_reducible refine at_alloc (T := 30) (dst := some 7) ?_); refine wl_newb rfl #[.int .i64 0, .int .i64 0, .slice none 0 0, .int .u16 0, .int .u16 0, .slice none 0 0] 30 (fun _ => rfl) ?_; intro b7 w2 hm2; replace hv := hv.madeAt hm2; clear hm2)
   | ((with_reducible refine at_load (T := 26) ?_); refine wl_ldv rfl b3 rfl _ hv.vars.ro 1 _ Tryz.underlying26 rfl infoM (by decide) rfl ?_)
   | (go_at_call 53; (with_reducible refine (RingCheck_ok _ _ _ _ _ _ HN.out HB.out HM8.out _).mono ?_); rintro e w1 ⟨rfl, hn1⟩; replace hv := hv.new hn1; clear hn1))
 replace hv : Mem w0 _ ([(b7, _), (b6, _), (b3, _)] ++ L) _ := hv
 refine Any.wp_region_cut 5 [⟨[1002], none⟩, ⟨[], none⟩, ⟨[], none⟩, ⟨[], none⟩, ⟨[], some 6⟩, ⟨[], none⟩, ⟨[], none⟩, ⟨[], none⟩, ⟨[], none⟩, ⟨[], none⟩] [.val, .val, .val, .val, .bsl sz (zerosR sz)] (by kernel_rfl) (by kernel_rfl) (hv.vars.keep (List.sublist_append_left [(b7, #[.int .i64 0, .int .i64 0, .slice none 0 0, .int .u16 0, .int .u16 0, .slice none 0 0]), (b6, #[.slice none 0 0]), (b3, #[(.slice (some ⟨mb, mo, none⟩) mn mc)])] L)) ?_
 simp only [Any.someVals, List.take_succ_cons, List.take_zero]
 iterate 5 apply Exists.intro
 repeat (first
   | (refine Any.E_off rfl ?_; simp only [Act.put, sia, scs, scz])
   | (apply Any.E_pureq rfl rfl rfl
      case h => intro K hK; go_big_quiet_op; (refine hK _ ?_; rfl)
      case hr => exact fun _ => rfl
      simp only [Act.put, sia, scs, scz])
   | (apply Any.E_val rfl rfl rfl rfl
      case h =>
        intro E' hA K hK
        first
          | ((with_reducible refine Any.at_qload (T := 26) ?_); refine Any.q_ldv 1002 hA (by decide) rfl rfl 1 _ Tryz.underlying26 rfl infoM (by decide) rfl ?_; refine hK _ ?_; rfl)
          | (go_big_quiet_op; first
            | (refine hK _ ?_; rfl)
            | (refine ⟨_, fun _ _ => rfl, ?_⟩; refine hK _ ?_; rfl)
            | (apply Exists.intro; refine ⟨fun w1 hw1 => ?_, ?_⟩; · (first
                | (go_at_call 54; exact Any.calls_VE (HSI.out _) hw1))
               refine hK _ ?_; rfl))
      case hD => rfl
      simp only [Act.put, sia, scs, scz])
   | ((with_reducible refine Any.at_ealloc ?_); refine Any.E_lay rfl rfl rfl (fun _ => rfl) ?_; intro B; simp only [Act.put, sia, scs, scz])
   | ((with_reducible refine Any.at_emk ?_); refine Any.E_bsl (n := sz) (z := zerosR sz) (t := 5) rfl rfl rfl (fun w' => Any.run_mk_op (run_mkz w' sz HSZ.out) rfl rfl) ?_; intro B; simp only [Act.put, sia, scs, scz])
   | ((with_reducible refine Any.at_estore (T := 26) ?_); refine Any.E_putv (T := 26) rfl rfl rfl rfl rfl rfl 1 infoM rfl rfl (by simp [Value.oneCell']) ?_; simp only [Act.put, sia, scs, scz]))
 try any_goals exact undef
 refine Any.E_nil ?_
 intro w9 hE9
 replace hv : Mem w0 w9 ([(B, zerosR sz), (b7, #[.int .i64 0, .int .i64 0, .slice none 0 0, .int .u16 0, .int .u16 0, .slice none 0 0]), (b6, #[.slice none 0 0]), (b3, #[(.slice (some ⟨mb, mo, none⟩) mn mc)])] ++ L) _ := hE9.memr (L1 := [(b7, #[.int .i64 0, .int .i64 0, .slice none 0 0, .int .u16 0, .int .u16 0, .slice none 0 0]), (b6, #[.slice none 0 0]), (b3, #[(.slice (some ⟨mb, mo, none⟩) mn mc)])]) hv [6, 1000, 1001, 1002] (by decide)
 clear hE9
 have hv2 := Mem.yield (L1 := []) hv (zeros_row B sz HSZ.out)
 replace hv := hv2
 clear hv2
 simp only [List.nil_append] at hv
 refine Any.wpOp_callv rfl rfl (Go.Proofs.enters_of Tryz.func30 (by kernel_rfl) rfl) rfl [(.agg #[(.slice (some ⟨mb, mo, none⟩) mn mc)]), .int .i64 base, .slice (some ⟨B, 0, none⟩) sz sz] rfl ?_
 refine (Put_ok hv (HM.out.mono fun x hx => Mem.s hx) base Mem.z (zeros_good sz) HS0.out HBS.out).mono ?_
 rintro e w1 ⟨vb, vc, R1, rfl, hv1, hi1, hs1⟩
 replace hv := hv1
 have HI1 := Lib.hid hi1
 have HS1 := Lib.hid (fun x hx => hs1 x (Mem.s hx))
 clear hv1 hi1 hs1
 refine ⟨_, rfl, ?_⟩
 replace hv : Mem w0 _ ([(b7, _), (b6, _), (b3, _)] ++ L) _ := hv
 refine Any.wpAny_rest 6 [⟨[], none⟩, ⟨[], none⟩, ⟨[], none⟩, ⟨[1002], some 1002⟩] [.val, .val, .val, .put] (by kernel_rfl) (hv.vars.keep (List.sublist_append_left [(b7, #[.int .i64 0, .int .i64 0, .slice none 0 0, .int .u16 0, .int .u16 0, .slice none 0 0]), (b6, #[.slice none 0 0]), (b3, #[(.slice (some ⟨mb, mo, none⟩) mn mc)])] L)) ?_
 simp only [List.length_cons, List.length_nil, Nat.zero_add, Nat.reduceAdd, Nat.reduceSub, Any.someVals, List.drop_succ_cons, List.drop_zero]
 simp only [Act.put, sia, scs, scz]
 iterate 4 apply Exists.intro
 repeat (first
   | (refine Any.E_off rfl ?_; simp only [Act.put, sia, scs, scz])
   | (apply Any.E_pureq rfl rfl rfl
      case h => intro K hK; go_big_quiet_op; (refine hK _ ?_; rfl)
      case hr => exact fun _ => rfl
      simp only [Act.put, sia, scs, scz])
   | (apply Any.E_val rfl rfl rfl rfl
      case h =>
        intro E' hA K hK
        first
          | ((with_reducible refine Any.at_qload (T := 26) ?_); refine Any.q_ldv 1002 hA (by decide) rfl rfl 1 _ Tryz.underlying26 rfl infoM (by decide) rfl ?_; refine hK _ ?_; rfl)
          | (go_big_quiet_op; first
            | (refine hK _ ?_; rfl)
            | (refine ⟨_, fun _ _ => rfl, ?_⟩; refine hK _ ?_; rfl)
            | (apply Exists.intro; refine ⟨fun w1 hw1 => ?_, ?_⟩; · (first
                | (go_at_call 54; exact Any.calls_VE (HSI.out _) hw1))
               refine hK _ ?_; rfl))
      case hD => rfl
      simp only [Act.put, sia, scs, scz])
   | ((with_reducible refine Any.at_ealloc ?_); refine Any.E_lay rfl rfl rfl (fun _ => rfl) ?_; intro B; simp only [Act.put, sia, scs, scz])
   | ((with_reducible refine Any.at_emk ?_); refine Any.E_bsl (n := sz) (z := zerosR sz) (t := 5) rfl rfl rfl (fun w' => Any.run_mk_op (run_mkz w' sz HSZ.out) rfl rfl) ?_; intro B; simp only [Act.put, sia, scs, scz])
   | ((with_reducible refine Any.at_estore (T := 26) ?_); refine Any.E_putv (T := 26) rfl rfl rfl rfl rfl rfl 1 infoM rfl rfl (by simp [Value.oneCell']) ?_; simp only [Act.put, sia, scs, scz]))
 try any_goals exact undef
 refine Any.E_nil ?_
 intro w9 hE9
 replace hv : Mem w0 w9 ([(b7, #[.int .i64 0, .int .i64 0, .slice none 0 0, .int .u16 0, .int .u16 0, .slice none 0 0]), (b6, #[.slice none 0 0]), (b3, #[(.slice (some ⟨vb, 0, none⟩) mn vc)])] ++ L) _ := hE9.memr0 (L1 := [(b7, #[.int .i64 0, .int .i64 0, .slice none 0 0, .int .u16 0, .int .u16 0, .slice none 0 0]), (b6, #[.slice none 0 0]), (b3, #[(.slice (some ⟨mb, mo, none⟩) mn mc)])]) hv [1000, 1001, 1002] (by decide)
 clear hE9
 simp only [List.cons_append, List.nil_append] at hv
 go_wp2_with (first
   | ((with_reducible refine at_build ?_); refine wl_build rfl [(0, .int .i64 base), (1, .int .i64 n)] rfl (built_q _ _) ?_)
   | ((with_reducible refine at_alloc (T := 30) (dst := some 9) ?_); refine wl_newb rfl #[.int .i64 0, .int .i64 0, .slice none 0 0, .int .u16 0, .int .u16 0, .slice none 0 0] 30 (fun _ => rfl) ?_; intro b9 w2 hm2; replace hv := hv.madeAt hm2; clear hm2)
   | ((with_reducible refine at_store (T := 30) ?_); refine wl_stv rfl b9 rfl _ rfl _ hv.vars.ro hv.vars.so 6 infoQ rfl rfl (by simp [Value.oneCell']) ?_; intro w2 hw2; replace hv := hv.sets (by repeat first | exact .z | apply SetM.s) hw2; clear hw2))
 go_loopw [31] (fun kv wr => ∃ (k : Nat) (fv : Value) (O : List (Nat × Array Value)), k ≤ n ∧ kv = .int .i64 k ∧ Mem w0 wr ((b9, #[.int .i64 base, .int .i64 n, fv, .int .u16 0, .int .u16 0, .slice none 0 0]) :: (b7, #[.int .i64 0, .int .i64 0, .slice none 0 0, .int .u16 0, .int .u16 0, .slice none 0 0]) :: (b6, #[.slice none 0 0]) :: (b3, #[(.slice (some ⟨vb, 0, none⟩) mn vc)]) :: (O ++ L)) R1 ∧ Hid (OwnL 1 fv (intsI (List.range k)) O)) (fun kv _ => n - (intOf kv).toNat)
 case atStart => exact ⟨0, .slice none 0 0, [], Nat.zero_le _, rfl, hv, Lib.hid (OwnL.nil 1)⟩
 case round =>
   clear hv
   obtain ⟨k, fv, O, hk0, rfl, hv, HO⟩ := hrel
   obtain ⟨fa, fn, fc, rfl, hq⟩ := id HO.out.slice
   clear hq
   by_cases hk : k < n
   · have hki : (k : Int) < (n : Int) := by omega
     have hkb : (k : Int) ≤ 16 := by omega
     have HKN := Lib.hid hk
     have HP1 : Hid (((intsI (List.range k)).length + [Value.int .i64 k].length) / 1 ≤ maxLen) := Lib.hid (by rw [intsI_len, List.length_range, Nat.div_one]; show k + 1 ≤ _; unfold maxLen; omega)
     have HP2 : Hid (((intsI (List.range k)).length + [Value.int .i64 k].length) / 1 * 8 ≤ 140737488355328) := Lib.hid (by rw [intsI_len, List.length_range, Nat.div_one]; show (k + 1) * 8 ≤ _; omega)
     clear hk0 hk
     go_wp2_with (first
       | ((with_reducible refine at_load (T := 22) ?_); refine wl_ldc rfl b9 2 rfl _ hv.vars.ro _ Tryz.underlying22 rfl (.slice fa fn fc) rfl ?_)
       | ((with_reducible refine at_append (t := 22) ?_); replace hv := (mem4o hv).bsl' (k := 1) (n := 1) (c := [.int .i64 k]) ⟨rfl, made_alloc _ #[.int .i64 k] 3⟩ rfl rfl (by unfold maxLen; omega); refine wl_appO (A := [_, _, _, _]) (B := L) rfl rfl HO.out hv (.int .i64 0) 8 Tryz.underlying22 infoIz rfl (by decide) rfl (hv.rd Mem.z) (int_one _) HP1.out HP2.out ?_; intro v2 w7 O2 hO2 hv1; replace hv := mem4o' hv1.dropR; clear hv1; rw [← intsI_snoc, ← List.range_succ] at hO2; have hq2 := hO2.slice; obtain ⟨ua, un, uc, rfl, hq3⟩ := hq2; clear hq3; replace hO2 := Lib.hid hO2)
       | ((with_reducible refine at_store (T := 22) ?_); refine wl_stc rfl b9 2 rfl (.slice ua un uc) rfl _ hv.vars.ro hv.vars.so (by kernel_rfl) rfl (by show 2 < 6; decide) ?_; intro w2 hw2; replace hv := hv.sets (by repeat first | exact .z | apply SetM.s) hw2; clear hw2))
     have hkn := HKN.out
     go_roundw
     case rel => exact ⟨k + 1, .slice ua un uc, O2, by omega, by go_num, hv, hO2⟩
     case measure => simp [intOf]; omega
   · have hki : ¬ (k : Int) < (n : Int) := by omega
     obtain rfl : k = n := by omega
     clear hk hk0
     go_wp2
     replace hv : Mem w0 _ ([(b9, _), (b7, _), (b6, _), (b3, _)] ++ (O ++ L)) _ := hv
     refine Any.wp_region_walk [⟨[1003], none⟩, ⟨[1000], none⟩, ⟨[1002], some 1002⟩, ⟨[1001], some 1001⟩, ⟨[], none⟩] [.val, .val, .put, .put, .val] (by kernel_rfl) (by kernel_rfl) (hv.vars.keep (List.sublist_append_left [(b9, #[.int .i64 base, .int .i64 k, (.slice fa fn fc), .int .u16 0, .int .u16 0, .slice none 0 0]), (b7, #[.int .i64 0, .int .i64 0, .slice none 0 0, .int .u16 0, .int .u16 0, .slice none 0 0]), (b6, #[.slice none 0 0]), (b3, #[(.slice (some ⟨vb, 0, none⟩) mn vc)])] (O ++ L))) ?_
     simp only [List.length_cons, List.length_nil, Nat.zero_add, Any.someVals]
     iterate 5 apply Exists.intro
     repeat (first
       | (refine Any.E_off rfl ?_; simp only [Act.put, sia, scs, scz])
       | (apply Any.E_pureq rfl rfl rfl
          case h => intro K hK; go_big_quiet_op; (refine hK _ ?_; rfl)
          case hr => exact fun _ => rfl
          simp only [Act.put, sia, scs, scz])
       | (apply Any.E_val rfl rfl rfl rfl
          case h =>
            intro E' hA K hK
            first
              | ((with_reducible refine Any.at_qload (T := 26) ?_); refine Any.q_ldv 1003 hA (by decide) rfl rfl 1 _ Tryz.underlying26 rfl infoM (by decide) rfl ?_; refine hK _ ?_; rfl)
              | ((with_reducible refine Any.at_qload (T := 30) ?_); refine Any.q_ldv 1000 hA (by decide) rfl rfl 6 _ Tryz.underlying30 rfl infoQ (by decide) rfl ?_; refine hK _ ?_; rfl)
              | (go_big_quiet_op; first
                | (refine hK _ ?_; rfl)
                | (refine ⟨_, fun _ _ => rfl, ?_⟩; refine hK _ ?_; rfl)
                | (apply Exists.intro; refine ⟨fun w1 hw1 => ?_, ?_⟩; · (first
                    | fail)
                   refine hK _ ?_; rfl))
          case hD => rfl
          simp only [Act.put, sia, scs, scz])
       | ((with_reducible refine Any.at_ealloc ?_); refine Any.E_lay rfl rfl rfl (fun _ => rfl) ?_; intro B; simp only [Act.put, sia, scs, scz])
       | ((with_reducible refine Any.at_estore (T := 26) ?_); refine Any.E_putv (T := 26) rfl rfl rfl rfl rfl rfl 1 infoM rfl rfl (by simp [Value.oneCell']) ?_; simp only [Act.put, sia, scs, scz])
       | ((with_reducible refine Any.at_estore (T := 30) ?_); refine Any.E_putv (T := 30) rfl rfl rfl rfl rfl rfl 6 infoQ rfl rfl (by simp [Value.oneCell']) ?_; simp only [Act.put, sia, scs, scz]))
     try any_goals exact undef
     refine Any.E_nil ?_
     intro w9 hE9
     replace hv : Mem w0 w9 ([(b9, #[.int .i64 base, .int .i64 k, (.slice fa fn fc), .int .u16 0, .int .u16 0, .slice none 0 0]), (b7, #[.int .i64 base, .int .i64 k, (.slice fa fn fc), .int .u16 0, .int .u16 0, .slice none 0 0]), (b6, #[(.slice (some ⟨vb, 0, none⟩) mn vc)]), (b3, #[(.slice (some ⟨vb, 0, none⟩) mn vc)])] ++ (O ++ L)) _ := hE9.memr hv [1000, 1001, 1002, 1003] (by decide)
     clear hE9
     simp only [List.cons_append, List.nil_append] at hv
     go_wp2
     try simp only [Exit.inBlock, Exit.then]
     refine ret_cct (v := .agg #[(.slice (some ⟨vb, 0, none⟩) mn vc)]) (v' := .agg #[.int .i64 base, .int .i64 k, (.slice fa fn fc), .int .u16 0, .int .u16 0, .slice none 0 0]) (v1 := .int .i64 0) rfl rfl rfl (read_row _ b6 26 _ (hv.vars.ro (b := b6)) 1 _ Tryz.underlying26 rfl infoM (by decide) rfl) (read_row _ b7 30 _ (hv.vars.ro (b := b7)) 6 _ Tryz.underlying30 rfl infoQ (by decide) rfl) rfl rfl ?_
     have hy := HO.out.yield (A := [_, _, _, _]) (B := L) (mem4o hv)
     simp only [List.cons_append, List.nil_append] at hy
     exact ⟨vb, vc, .slice fa fn fc, _, rfl, hy.drop.drop.drop.drop, HI1.out.mono (fun x hx => Mem.s hx), Mem.z, fun x hx => Mem.s (HS1.out x hx)⟩
end Go.Proofs.YtjmibgomkgkhnaaGreat
end
