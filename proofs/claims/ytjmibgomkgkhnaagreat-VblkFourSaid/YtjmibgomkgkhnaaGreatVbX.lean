import Derived.Test.YtjmibgomkgkhnaaGreatVb7
import Derived.Test.YtjmibgomkgkhnaaGreatVbA
set_option linter.unusedSimpArgs false
set_option linter.unusedVariables false
set_option maxRecDepth 100000
set_option maxHeartbeats 16000000
section
/-
 A disk's driver (layer 9): that all be flushed is asked for.
-/
namespace Go.Proofs.Qu
open Go Go.RowKit Go.Proofs.Nm
def askF (M : List Nat) (p kind s : Nat) : List Nat := putB (titleM M p kind s) (p + 272) [255]
end Go.Proofs.Qu
namespace Go.Proofs.YtjmibgomkgkhnaaGreat
open Go.Proofs.Qu Go.Proofs.Nm Go.RowKit Go.Proofs
theorem fl1_w (bw p : Nat) (w : World) : Calls Tryz.prog 74 #[.pointer (some ⟨bw, 0, none⟩), .int .i64 p] w fun e w' => e = .returned (.tuple #[.slice none 0 0, .int .i64 0]) ∧ New w w' := by
 have hv := Mem.nil w
 go_enter Tryz.func74, Tryz.ntmps74
 go_wp2
 go_ret2
 exact ⟨rfl, hv.below⟩
theorem ConcatB_2 {w0 w : World} {L : List (Nat × Array Value)} {R : List (Nat × Value × List Value)} (hv : Mem w0 w L R) (a1 b1 a3 b3 : Nat) (c1 c3 : Bool) {i1 j1 i3 j3 : Int} (e1 : i1 = (a1 : Nat)) (e2 : j1 = (b1 : Nat)) (e3 : i3 = (a3 : Nat)) (e4 : j3 = (b3 : Nat)) :
   Calls Tryz.prog 77 #[.slice (some ⟨w.heap.size + 1 + 1, 0, none⟩) 3 3] (((w.alloc (.cells #[.int .i64 i1, .int .i64 j1, .bool c1] 91)).alloc (.cells #[.int .i64 i3, .int .i64 j3, .bool c3] 91)).alloc (.cells #[.slice (some ⟨w.heap.size, 0, none⟩) 1 1, .slice none 0 0, .slice (some ⟨w.heap.size + 1, 0, none⟩) 1 1] 87)) fun e w' => ∃ gb gc R', e = .returned (.slice (some ⟨gb, 0, none⟩) 2 gc) ∧ Mem w0 w' L R' ∧ (3, .slice (some ⟨gb, 0, none⟩) 2 gc, cellsPt [(a1, b1, c1), (a3, b3, c3)]) ∈ R' ∧ ∀ x ∈ R, x ∈ R' := by
 subst e1 e2 e3 e4
 have hv1 := hv.bsl' (k := 3) (n := 1) (b := w.heap.size) (c := cellsPt [(a1, b1, c1)]) ⟨rfl, made_alloc _ #[.int .i64 a1, .int .i64 b1, .bool c1] 91⟩ rfl rfl (by unfold maxLen; omega)
 have hv2 := hv1.bsl' (k := 3) (n := 1) (b := w.heap.size + 1) (c := cellsPt [(a3, b3, c3)]) ⟨(alloc_sz _ _).symm, made_alloc _ #[.int .i64 a3, .int .i64 b3, .bool c3] 91⟩ rfl rfl (by unfold maxLen; omega)
 have hv3 := hv2.bsl' (k := 1) (n := 3) (b := w.heap.size + 1 + 1) (c := [.slice (some ⟨w.heap.size, 0, none⟩) 1 1, .slice none 0 0, .slice (some ⟨w.heap.size + 1, 0, none⟩) 1 1]) ⟨by rw [alloc_sz, alloc_sz], made_alloc _ #[.slice (some ⟨w.heap.size, 0, none⟩) 1 1, .slice none 0 0, .slice (some ⟨w.heap.size + 1, 0, none⟩) 1 1] 87⟩ rfl rfl (by unfold maxLen; omega)
 have hv4 := hv3.fresh (Below.refl _ _) (FR.nil _ _ 3)
 refine (ConcatB_M (m := 3) (n := 2) (l := [(a1, b1, c1), (a3, b3, c3)]) hv4 [(.slice (some ⟨w.heap.size, 0, none⟩) 1 1, [(a1, b1, c1)]), (.slice none 0 0, []), (.slice (some ⟨w.heap.size + 1, 0, none⟩) 1 1, [(a3, b3, c3)])] (Mem.s Mem.z) (fun q hq => ?_) (by decide) rfl rfl (by decide) (by decide)).mono ?_
 · rcases List.mem_cons.1 hq with rfl | hq
   · exact Mem.s (Mem.s (Mem.s Mem.z))
   · rcases List.mem_cons.1 hq with rfl | hq
     · exact Mem.z
     · rw [List.mem_singleton.1 hq]; exact Mem.s (Mem.s Mem.z)
 · rintro e w' ⟨gb4, gc4, R4, rfl, hv4, hg4, hs4⟩
   exact ⟨gb4, gc4, R4, rfl, hv4, hg4, fun x hx => hs4 x (Mem.s (Mem.s (Mem.s (Mem.s hx))))⟩
theorem askF_1 {w0 w : World} {L : List (Nat × Array Value)} {R : List (Nat × Value × List Value)} (hv : Mem w0 w L R) {av la fn fc cn cc : Nat} {fa ca : Option Addr} {free : List Nat} {chs : List Chn} {b0 b1 b2 b3 f0 f1 f2 f3 : Bool} {h0 h1 h2 h3 s0 s1 s2 s3 : Nat} {A0 mb mc nf1 nc1 av1 hd kind s_ p ps : Nat} {M : List Nat} (hm : InM R mb 0 1700 mc M) (hq : BlkQ R (.slice fa fn fc) (.slice ca cn cc) free chs [(b0, h0, f0, (s0 : Int)), (b1, h1, f1, (s1 : Int)), (b2, h2, f2, (s2 : Int)), (b3, h3, f3, (s3 : Int))]) (hA : A0 = 500) (hp : A0 + 288 = p) (hps : p + 272 = ps) (hix : idxF (fun r : Rq => !r.1) [(b0, h0, f0, (s0 : Int)), (b1, h1, f1, (s1 : Int)), (b2, h2, f2, (s2 : Int)), (b3, h3, f3, (s3 : Int))] = 1) (hk : kind = 4) (hs : s_ < 256) (hav : av < 65535) (hav1 : av + 1 = av1) (g0 : fn = nf1 + 2) (g1 : cn + 1 = nc1) (hh : free.getD 0 0 = hd) :
   Calls Tryz.prog 41 #[.agg #[.slice (some ⟨mb, 0, none⟩) 1700 mc], .agg #[.int .i64 0, .int .i64 16, .slice fa fn fc, .int .u16 av, .int .u16 la, .slice ca cn cc, .int .i64 (A0 : Nat), .bool b0, .int .i64 h0, .bool f0, .int .i64 s0, .bool b1, .int .i64 h1, .bool f1, .int .i64 s1, .bool b2, .int .i64 h2, .bool f2, .int .i64 s2, .bool b3, .int .i64 h3, .bool f3, .int .i64 s3], .int .i64 kind, .int .i64 s_, .func (.func 74) #[] #[]] w fun e w' => ∃ vb5 vc5 fa5 fc5 ca5 cc5 c5 R5, e = .returned (.tuple #[.agg #[.slice (some ⟨vb5, 0, none⟩) 1700 vc5], .agg #[.int .i64 0, .int .i64 16, .slice fa5 nf1 fc5, .int .u16 av1, .int .u16 la, .slice ca5 nc1 cc5, .int .i64 (A0 : Nat), .bool b0, .int .i64 h0, .bool f0, .int .i64 s0, .bool true, .int .i64 hd, .bool true, .int .i64 s_, .bool b2, .int .i64 h2, .bool f2, .int .i64 s2, .bool b3, .int .i64 h3, .bool f3, .int .i64 s3], .int .i64 1, .int .i64 0]) ∧ Mem w0 w' L R5 ∧ InM R5 vb5 0 1700 vc5 (addM (askF M p kind s_) 0 16 av free [(p, 16, false), (ps, 1, true)]) ∧ InQ R5 (.slice fa5 nf1 fc5) (.slice ca5 nc1 cc5) (free.drop 2) (chs ++ [c5]) ∧ OkQ 16 (free.drop 2) (chs ++ [c5]) ∧ c5.h = hd ∧ c5.ds = free.take 2 ∧ c5.rm = 1 ∧ ∀ x ∈ R, x ∈ R5 := by
 have HM := Lib.hid hm
 have HQ := Lib.hid hq
 have HIX := Lib.hid hix
 have H4 : Hid (([(b0, h0, f0, (s0 : Int)), (b1, h1, f1, (s1 : Int)), (b2, h2, f2, (s2 : Int)), (b3, h3, f3, (s3 : Int))] : List Rq).length ≤ 100000) := Lib.hid (by show 4 ≤ 100000; decide)
 have HSC : Hid (∀ i, i < 4 * 4 → (#[.int .i64 0, .int .i64 16, .slice fa fn fc, .int .u16 av, .int .u16 la, .slice ca cn cc, .int .i64 (A0 : Nat), .bool b0, .int .i64 h0, .bool f0, .int .i64 s0, .bool b1, .int .i64 h1, .bool f1, .int .i64 s1, .bool b2, .int .i64 h2, .bool f2, .int .i64 s2, .bool b3, .int .i64 h3, .bool f3, .int .i64 s3] : Array Value)[7 + i]? = (cellsR [(b0, h0, f0, (s0 : Int)), (b1, h1, f1, (s1 : Int)), (b2, h2, f2, (s2 : Int)), (b3, h3, f3, (s3 : Int))])[i]?) := Lib.hid (fun i hi => by
   rcases (show i = 0 ∨ i = 1 ∨ i = 2 ∨ i = 3 ∨ i = 4 ∨ i = 5 ∨ i = 6 ∨ i = 7 ∨ i = 8 ∨ i = 9 ∨ i = 10 ∨ i = 11 ∨ i = 12 ∨ i = 13 ∨ i = 14 ∨ i = 15 from by omega) with rfl | rfl | rfl | rfl | rfl | rfl | rfl | rfl | rfl | rfl | rfl | rfl | rfl | rfl | rfl | rfl <;> rfl)
 have HK : Hid (kind < 1000) := Lib.hid (by omega)
 have HS : Hid (s_ < 1000) := Lib.hid (by omega)
 have HP16 : Hid (p + 16 ≤ 1700) := Lib.hid (by omega)
 have HPS : Hid (ps + 1 ≤ 1700) := Lib.hid (by omega)
 have HPSE := Lib.hid hps
 have HN1 : Hid (0 < 1) := Lib.hid (by decide)
 have HG5 : Hid (goodB [255]) := Lib.hid (by intro x hx; simp at hx; omega)
 have HAV := Lib.hid hav
 have HA1 := Lib.hid hav1
 have H0 : Hid (fn = nf1 + [(p, 16, false), (ps, 1, true)].length) := Lib.hid g0
 have H1 := Lib.hid g1
 have HH := Lib.hid hh
 have HL3 : Hid (0 < [(p, 16, false), (ps, 1, true)].length) := Lib.hid (by show 0 < 2; decide)
 have HLI : Hid (∀ q ∈ [(p, 16, false), (ps, 1, true)], 0 < q.2.1 ∧ q.1 + q.2.1 ≤ 1700) := Lib.hid (fun q hq => by
   rcases List.mem_cons.1 hq with rfl | hq
   · show 0 < 16 ∧ p + 16 ≤ 1700; omega
   · rw [List.mem_singleton.1 hq]; show 0 < 1 ∧ ps + 1 ≤ 1700; omega)
 have HEN : Hid (Enters Tryz.prog 74) := Lib.hid (Go.Proofs.enters_of Tryz.func74 (by kernel_rfl) rfl)
 have y1 : ((kind : Int) == 4) = true := by rw [hk]; decide
 have q1 : IntKind.i64.wrap ((A0 : Int) + 288) = (p : Int) := by rw [IntWalk.i64_in _ (by omega)]; omega
 have q2 : IntKind.i64.wrap ((p : Int) + 272) = (ps : Int) := by rw [IntWalk.i64_in _ (by omega)]; omega

 clear hm hq hA hp hps hix hk hs hav hav1 g0 g1 hh

 go_enter Tryz.func41, Tryz.ntmps41
 go_wp2_with (first
   | ((with_reducible refine at_box (T := 26) (dst := some 5) ?_); refine wl_newb rfl #[.slice (some ⟨mb, 0, none⟩) 1700 mc] 26 (fun _ => rfl) ?_; intro b_5 w2 hm2; replace hv := hv.madeAt hm2; clear hm2)
   | ((with_reducible refine at_box (T := 58) (dst := some 6) ?_); refine wl_newb rfl #[.int .i64 0, .int .i64 16, .slice fa fn fc, .int .u16 av, .int .u16 la, .slice ca cn cc, .int .i64 (A0 : Nat), .bool b0, .int .i64 h0, .bool f0, .int .i64 s0, .bool b1, .int .i64 h1, .bool f1, .int .i64 s1, .bool b2, .int .i64 h2, .bool f2, .int .i64 s2, .bool b3, .int .i64 h3, .bool f3, .int .i64 s3] 58 (fun _ => rfl) ?_; intro b_6 w2 hm2; replace hv := hv.madeAt hm2; clear hm2)
   | ((with_reducible refine at_alloc (T := 26) (dst := some 10) ?_); refine wl_newb rfl #[.slice none 0 0] 26 (fun _ => rfl) ?_; intro b_10 w2 hm2; replace hv := hv.madeAt hm2; clear hm2)
   | ((with_reducible refine at_alloc (T := 58) (dst := some 11) ?_); refine wl_newb rfl #[.int .i64 0, .int .i64 0, .slice none 0 0, .int .u16 0, .int .u16 0, .slice none 0 0, .int .i64 0, .bool false, .int .i64 0, .bool false, .int .i64 0, .bool false, .int .i64 0, .bool false, .int .i64 0, .bool false, .int .i64 0, .bool false, .int .i64 0, .bool false, .int .i64 0, .bool false, .int .i64 0] 58 (fun _ => rfl) ?_; intro b_11 w2 hm2; replace hv := hv.madeAt hm2; clear hm2)
   | (go_at_call 45; have HRD := rd_partK (o := 7) (n := 4) (k := 4) (l := cellsR [(b0, h0, f0, (s0 : Int)), (b1, h1, f1, (s1 : Int)), (b2, h2, f2, (s2 : Int)), (b3, h3, f3, (s3 : Int))]) (hv.vars.ro (b := b_6)) (hv.vars.so (b := b_6)) rfl HSC.out (by unfold maxLen; omega); (refine (IndexR_any H4.out (f := 75) (cap := #[]) (fun r => !r.1) (Go.Proofs.enters_of Tryz.func75 (by kernel_rfl) rfl) _ HRD (fun c hc w1 _ => free_any c.1 c.2.1 c.2.2.1 c.2.2.2 w1)).mono ?_); rw [HIX.out]; rintro e w1 ⟨rfl, hn1⟩; replace hv := hv.new hn1; clear hn1 HRD)
   | ((with_reducible refine at_load (T := 58) ?_); refine wl_ldv rfl b_6 rfl _ hv.vars.ro 23 _ Tryz.underlying58 rfl infoBk23 (by decide) rfl ?_)
   | ((with_reducible refine at_load (T := 26) ?_); refine wl_ldv rfl b_5 rfl _ hv.vars.ro 1 _ Tryz.underlying26 rfl infoM (by decide) rfl ?_)
   | ((with_reducible refine at_build (T := 160) ?_); refine wl_build rfl _ rfl (built_wkb _) ?_)
   | ((with_reducible refine at_box (T := 160) (dst := some 34) ?_); refine wl_newb rfl #[.int .i64 0, .int .i64 16, .slice fa fn fc, .int .u16 av, .int .u16 la, .slice ca cn cc, .int .i64 (A0 : Nat), .bool b0, .int .i64 h0, .bool f0, .int .i64 s0, .bool b1, .int .i64 h1, .bool f1, .int .i64 s1, .bool b2, .int .i64 h2, .bool f2, .int .i64 s2, .bool b3, .int .i64 h3, .bool f3, .int .i64 s3, .slice (some ⟨mb, 0, none⟩) 1700 mc] 160 (fun _ => rfl) ?_; intro b_34 w2 hm2; replace hv := hv.madeAt hm2; clear hm2)
   | ((with_reducible refine at_load (T := 3) ?_); refine wl_ldc rfl b_6 6 rfl _ hv.vars.ro _ Tryz.underlying3 rfl (.int .i64 (A0 : Nat)) rfl ?_)
   | (go_at_call 76; (with_reducible refine (title_w hv HM.out p kind s_ HK.out HS.out HP16.out).mono ?_); rintro e w1 ⟨vb, vc, R1, rfl, hv1, hm1, hs1⟩; replace hv := hv1; have HM1 := Lib.hid hm1; have HS1 := Lib.hid hs1; clear hv1 hm1 hs1)
   | ((with_reducible refine at_call ?_); refine wl_callv (cap := #[]) rfl HEN.out rfl [.pointer (some ⟨b_34, 0, none⟩), .int .i64 p] rfl (fl1_w b_34 p _) ?_; rintro e w1 ⟨rfl, hn1⟩; refine ⟨_, rfl, ?_⟩; replace hv := hv.new hn1; clear hn1)
   | (go_at_call 43; have hv1 := hv.bsl' (k := 1) (n := 1) (c := cellsB [255]) ⟨rfl, made_alloc _ #[.int .u8 255] 5⟩ rfl rfl (by unfold maxLen; omega); replace hv := hv1; clear hv1; (with_reducible refine (put_w hv (HM1.out.mono fun x hx => Mem.s hx) ps Mem.z HG5.out HN1.out HPS.out).mono ?_); rintro e w1 ⟨vb3, vc3, R3, rfl, hv1, hm1, hs1⟩; replace hv := hv1; have HM3 := Lib.hid hm1; have HS3 : Hid (∀ x ∈ R, x ∈ R3) := Lib.hid (fun x hx => hs1 x (Mem.s (HS1.out x hx))); clear hv1 hm1 hs1)
   | ((with_reducible refine at_bld2 (T := 91) ?_); refine wl_build rfl _ rfl (built_b2 _ _) ?_)
   | ((with_reducible refine at_bld3 (T := 91) ?_); refine wl_build rfl _ rfl (built_b3 _ _) ?_)
   | (go_at_call 77; (refine (ConcatB_2 hv p 16 ps 1 false true rfl rfl rfl rfl).mono ?_); rintro e w1 ⟨gb4, gc4, R4, rfl, hv1, hg1, hs1⟩; replace hv := hv1; have HG4 := Lib.hid hg1; have HS4 : Hid (∀ x ∈ R3, x ∈ R4) := Lib.hid hs1; clear hv1 hg1 hs1))
 have HMA : Hid (InM R4 vb3 0 1700 vc3 (askF M p kind s_)) := Lib.hid (by
   have := HM3.out.mono HS4.out
   unfold askF
   rw [HPSE.out]; exact this)
 have HQA : Hid (InQ R4 (.slice fa fn fc) (.slice ca cn cc) free chs) := Lib.hid (HQ.out.q.mono fun x hx => HS4.out x (HS3.out x hx))
 have HSO : Hid (∃ v R', AddBW R4 av av1 la nf1 nc1 hd (askF M p kind s_) free chs [(p, 16, false), (ps, 1, true)] v R') := Lib.hid (Bny.some_of (Add_B hv (fun x hx => hx) HMA.out HQA.out HQ.out.ok HAV.out HA1.out [(p, 16, false), (ps, 1, true)] HL3.out H0.out H1.out HH.out HLI.out HG4.out))
 replace hv : Mem w0 _ ([(b_34, _), (b_11, _), (b_10, _), (b_6, _), (b_5, _)] ++ L) R4 := hv
 try simp only [Act.put]
 refine Bny.wp_region_walk _ _ [⟨[], none⟩, ⟨[], none⟩, ⟨[], none⟩, ⟨[1000], none⟩, ⟨[], none⟩, ⟨[], none⟩, ⟨[], none⟩, ⟨[], none⟩, ⟨[1000], none⟩, ⟨[], none⟩, ⟨[], some 10⟩, ⟨[], none⟩, ⟨[], none⟩, ⟨[], none⟩, ⟨[], none⟩, ⟨[], none⟩, ⟨[], some 16⟩, ⟨[], some 17⟩, ⟨[16], some 16⟩, ⟨[17], some 17⟩, ⟨[], none⟩, ⟨[], none⟩] [.val, .val, .val, .val, .val, .val, .val, .val, .val, .val, .mem (AddBW R4 av av1 la nf1 nc1 hd (askF M p kind s_) free chs [(p, 16, false), (ps, 1, true)]), .pure, .pure, .pure, .pure, .pure, .lay #[.slice none 0 0], .lay #[.int .i64 0, .int .i64 0, .slice none 0 0, .int .u16 0, .int .u16 0, .slice none 0 0], .put, .put, .pure, .pure] (by kernel_rfl) (by kernel_rfl) hv ?_
 simp only [List.length_cons, List.length_nil, Nat.zero_add, Any.someVals]
 iterate 22 apply Exists.intro
 repeat (first
   | (refine Bny.E_off rfl ?_; simp only [Act.put, sia, scs, scz])
   | ((with_reducible refine Bny.at_ealloc ?_); refine Bny.E_lay (t := 26) rfl rfl rfl (fun _ => rfl) ?_; intro b_21; simp only [Act.put, sia, scs, scz])
   | ((with_reducible refine Bny.at_ealloc ?_); refine Bny.E_lay (t := 30) rfl rfl rfl (fun _ => rfl) ?_; intro b_22; simp only [Act.put, sia, scs, scz])
   | ((with_reducible refine Bny.at_estore (T := 26) ?_); refine Bny.E_putv (T := 26) rfl rfl rfl rfl rfl rfl 1 infoM rfl rfl (by simp [Value.oneCell']) ?_; simp only [Act.put, sia, scs, scz])
   | ((with_reducible refine Bny.at_estore (T := 30) ?_); refine Bny.E_putv (T := 30) rfl rfl rfl rfl rfl rfl 6 infoQ rfl rfl (by simp [Value.oneCell']) ?_; simp only [Act.put, sia, scs, scz])
   | ((with_reducible refine Bny.at_ecallf (f := 38) ?_); refine Bny.E_callmem rfl rfl rfl (Go.Proofs.enters_of Tryz.func38 (by kernel_rfl) rfl) rfl [.agg #[.slice (some ⟨vb3, 0, none⟩) 1700 vc3], .agg #[.int .i64 0, .int .i64 16, .slice fa fn fc, .int .u16 av, .int .u16 la, .slice ca cn cc], .slice (some ⟨gb4, 0, none⟩) 2 gc4] rfl HSO.out R4 (fun x hx => .inl hx) (fun w0 w L R' hm hs => Add_B hm hs HMA.out HQA.out HQ.out.ok HAV.out HA1.out [(p, 16, false), (ps, 1, true)] HL3.out H0.out H1.out HH.out HLI.out (hs _ HG4.out)) ?_; rintro v R5 ⟨vb5, vc5, fc5, cc5, fa5, ca5, c5, rfl, hm5, hq5, ho5, k1, k2, k3, hs5⟩; have HM5 := Lib.hid hm5; have HQ5 := Lib.hid hq5; have HO5 := Lib.hid ho5; have K1 := Lib.hid k1; have K2 := Lib.hid k2; have K3 := Lib.hid k3; have HS5 := Lib.hid hs5; clear hm5 hq5 ho5 k1 k2 k3 hs5; simp only [Act.put, sia, scs, scz])
   | (apply Bny.E_pureq rfl rfl rfl
      case h => intro K hK; go_big_quiet_op; (refine hK _ ?_; rfl)
      case hr => exact fun _ => rfl
      simp only [Act.put, sia, scs, scz])
   | (apply Bny.E_val rfl rfl rfl rfl
      case h =>
        intro E' hA K hK
        first
          | ((with_reducible refine Bny.at_qload (T := 26) ?_); refine Bny.q_ldp 1000 (o := 23) hA (by decide) rfl rfl 1 _ Tryz.underlying26 rfl infoM (by decide) (by show 23 + 1 ≤ 24; decide) #[.slice (some ⟨vb3, 0, none⟩) 1700 vc3] rfl ?_; refine hK _ ?_; rfl)
          | ((with_reducible refine Bny.at_qload (T := 30) ?_); refine Bny.q_ldp 1000 (o := 0) hA (by decide) rfl rfl 6 _ Tryz.underlying30 rfl infoQ (by decide) (by show 0 + 6 ≤ 24; decide) #[.int .i64 0, .int .i64 16, .slice fa fn fc, .int .u16 av, .int .u16 la, .slice ca cn cc] rfl ?_; refine hK _ ?_; rfl)
          | (go_big_quiet_op; first
            | (refine hK _ ?_; rfl)
            | (refine ⟨_, fun _ _ => rfl, ?_⟩; refine hK _ ?_; rfl)
            | (apply Exists.intro; refine ⟨fun w1 hw1 => ?_, ?_⟩; · (first
                | fail)
               refine hK _ ?_; rfl))
      case hD => rfl
      simp only [Act.put, sia, scs, scz]))
 try any_goals exact undef
 refine Bny.E_nil ?_
 intro w9 hE9
 replace hv : Mem w0 w9 ([(b_21, #[.slice (some ⟨vb5, 0, none⟩) 1700 vc5]), (b_22, #[.int .i64 0, .int .i64 16, .slice fa5 nf1 fc5, .int .u16 av1, .int .u16 la, .slice ca5 nc1 cc5]), (b_34, #[.int .i64 0, .int .i64 16, .slice fa fn fc, .int .u16 av, .int .u16 la, .slice ca cn cc, .int .i64 (A0 : Nat), .bool b0, .int .i64 h0, .bool f0, .int .i64 s0, .bool b1, .int .i64 h1, .bool f1, .int .i64 s1, .bool b2, .int .i64 h2, .bool f2, .int .i64 s2, .bool b3, .int .i64 h3, .bool f3, .int .i64 s3, .slice (some ⟨vb3, 0, none⟩) 1700 vc3]), (b_11, #[.int .i64 0, .int .i64 0, .slice none 0 0, .int .u16 0, .int .u16 0, .slice none 0 0, .int .i64 0, .bool false, .int .i64 0, .bool false, .int .i64 0, .bool false, .int .i64 0, .bool false, .int .i64 0, .bool false, .int .i64 0, .bool false, .int .i64 0, .bool false, .int .i64 0, .bool false, .int .i64 0]), (b_10, #[.slice none 0 0]), (b_6, #[.int .i64 0, .int .i64 16, .slice fa fn fc, .int .u16 av, .int .u16 la, .slice ca cn cc, .int .i64 (A0 : Nat), .bool b0, .int .i64 h0, .bool f0, .int .i64 s0, .bool b1, .int .i64 h1, .bool f1, .int .i64 s1, .bool b2, .int .i64 h2, .bool f2, .int .i64 s2, .bool b3, .int .i64 h3, .bool f3, .int .i64 s3]), (b_5, #[.slice (some ⟨mb, 0, none⟩) 1700 mc])] ++ L) R5 := hE9.mem1 [16, 17, 1000, 1001, 1002, 1003, 1004] (by decide) 10 rfl
 clear hE9
 simp only [List.cons_append, List.nil_append] at hv
 go_wp2_with (first
   | ((with_reducible refine at_load (T := 30) ?_); refine wl_ldv rfl b_22 rfl _ hv.vars.ro 6 _ Tryz.underlying30 rfl infoQ (by decide) rfl ?_)
   | ((with_reducible refine at_store (T := 30) ?_); refine wl_stp rfl b_34 0 rfl _ rfl _ hv.vars.ro hv.vars.so 6 infoQ rfl (by show 0 + 6 ≤ 24; decide) (by simp [Value.oneCell']) #[.int .i64 0, .int .i64 16, .slice fa5 nf1 fc5, .int .u16 av1, .int .u16 la, .slice ca5 nc1 cc5, .int .i64 (A0 : Nat), .bool b0, .int .i64 h0, .bool f0, .int .i64 s0, .bool b1, .int .i64 h1, .bool f1, .int .i64 s1, .bool b2, .int .i64 h2, .bool f2, .int .i64 s2, .bool b3, .int .i64 h3, .bool f3, .int .i64 s3, .slice (some ⟨vb3, 0, none⟩) 1700 vc3] (splice_24_0_6 _ _ _ _ _ _ _ _ _ _ _ _ _ _ _ _ _ _ _ _ _ _ _ _ _ _ _ _ _ _) ?_; intro w2 hw2; replace hv := hv.sets (by repeat first | exact .z | apply SetM.s) hw2; clear hw2)
   | ((with_reducible refine at_build (T := 55) ?_); refine wl_build rfl _ rfl (built_rq _ _ _) ?_)
   | ((with_reducible refine at_store (T := 55) ?_); refine wl_stp rfl b_34 11 rfl _ rfl _ hv.vars.ro hv.vars.so 4 infoRq4 rfl (by show 11 + 4 ≤ 24; decide) (by simp [Value.oneCell']) #[.int .i64 0, .int .i64 16, .slice fa5 nf1 fc5, .int .u16 av1, .int .u16 la, .slice ca5 nc1 cc5, .int .i64 (A0 : Nat), .bool b0, .int .i64 h0, .bool f0, .int .i64 s0, .bool true, .int .i64 hd, .bool true, .int .i64 s_, .bool b2, .int .i64 h2, .bool f2, .int .i64 s2, .bool b3, .int .i64 h3, .bool f3, .int .i64 s3, .slice (some ⟨vb3, 0, none⟩) 1700 vc3] (splice_24_11_4 _ _ _ _ _ _ _ _ _ _ _ _ _ _ _ _ _ _ _ _ _ _ _ _ _ _ _ _) ?_; intro w2 hw2; replace hv := hv.sets (by repeat first | exact .z | apply SetM.s) hw2; clear hw2))
 replace hv : Mem w0 _ ([(b_21, _), (b_22, _), (b_34, _), (b_11, _), (b_10, _), (b_6, _), (b_5, _)] ++ L) R5 := hv
 try simp only [Act.put]
 refine Bny.wp_region_walk _ _ [⟨[1000], none⟩, ⟨[], none⟩, ⟨[], none⟩, ⟨[], none⟩, ⟨[1002], none⟩, ⟨[], none⟩, ⟨[1004], some 1004⟩, ⟨[1003], some 1003⟩, ⟨[], none⟩, ⟨[], none⟩] [.val, .val, .val, .val, .val, .val, .put, .put, .val, .val] (by kernel_rfl) (by kernel_rfl) hv ?_
 simp only [List.length_cons, List.length_nil, Nat.zero_add, Any.someVals]
 iterate 10 apply Exists.intro
 repeat (first
   | (refine Bny.E_off rfl ?_; simp only [Act.put, sia, scs, scz])
   | ((with_reducible refine Bny.at_estore (T := 26) ?_); refine Bny.E_putv (T := 26) rfl rfl rfl rfl rfl rfl 1 infoM rfl rfl (by simp [Value.oneCell']) ?_; simp only [Act.put, sia, scs, scz])
   | ((with_reducible refine Bny.at_estore (T := 58) ?_); refine Bny.E_putv (T := 58) rfl rfl rfl rfl rfl rfl 23 infoBk23 rfl rfl (by simp [Value.oneCell']) ?_; simp only [Act.put, sia, scs, scz])
   | (apply Bny.E_pureq rfl rfl rfl
      case h => intro K hK; go_big_quiet_op; (refine hK _ ?_; rfl)
      case hr => exact fun _ => rfl
      simp only [Act.put, sia, scs, scz])
   | (apply Bny.E_val rfl rfl rfl rfl
      case h =>
        intro E' hA K hK
        first
          | ((with_reducible refine Bny.at_qload (T := 26) ?_); refine Bny.q_ldv 1000 hA (by decide) rfl rfl 1 _ Tryz.underlying26 rfl infoM (by decide) rfl ?_; refine hK _ ?_; rfl)
          | ((with_reducible refine Bny.at_qload (T := 58) ?_); refine Bny.q_ldp 1002 (o := 0) hA (by decide) rfl rfl 23 _ Tryz.underlying58 rfl infoBk23 (by decide) (by show 0 + 23 ≤ 24; decide) #[.int .i64 0, .int .i64 16, .slice fa5 nf1 fc5, .int .u16 av1, .int .u16 la, .slice ca5 nc1 cc5, .int .i64 (A0 : Nat), .bool b0, .int .i64 h0, .bool f0, .int .i64 s0, .bool true, .int .i64 hd, .bool true, .int .i64 s_, .bool b2, .int .i64 h2, .bool f2, .int .i64 s2, .bool b3, .int .i64 h3, .bool f3, .int .i64 s3] (ext24 _ _ _ _ _ _ _ _ _ _ _ _ _ _ _ _ _ _ _ _ _ _ _ _) ?_; refine hK _ ?_; rfl)
          | (go_big_quiet_op; first
            | (refine hK _ ?_; rfl)
            | (refine ⟨_, fun _ _ => rfl, ?_⟩; refine hK _ ?_; rfl)
            | (apply Exists.intro; refine ⟨fun w1 hw1 => ?_, ?_⟩; · (first
                | fail)
               refine hK _ ?_; rfl))
      case hD => rfl
      simp only [Act.put, sia, scs, scz]))
 try any_goals exact undef
 refine Bny.E_nil ?_
 intro w9 hE9
 replace hv : Mem w0 w9 ([(b_21, #[.slice (some ⟨vb5, 0, none⟩) 1700 vc5]), (b_22, #[.int .i64 0, .int .i64 16, .slice fa5 nf1 fc5, .int .u16 av1, .int .u16 la, .slice ca5 nc1 cc5]), (b_34, #[.int .i64 0, .int .i64 16, .slice fa5 nf1 fc5, .int .u16 av1, .int .u16 la, .slice ca5 nc1 cc5, .int .i64 (A0 : Nat), .bool b0, .int .i64 h0, .bool f0, .int .i64 s0, .bool true, .int .i64 hd, .bool true, .int .i64 s_, .bool b2, .int .i64 h2, .bool f2, .int .i64 s2, .bool b3, .int .i64 h3, .bool f3, .int .i64 s3, .slice (some ⟨vb3, 0, none⟩) 1700 vc3]), (b_11, #[.int .i64 0, .int .i64 16, .slice fa5 nf1 fc5, .int .u16 av1, .int .u16 la, .slice ca5 nc1 cc5, .int .i64 (A0 : Nat), .bool b0, .int .i64 h0, .bool f0, .int .i64 s0, .bool true, .int .i64 hd, .bool true, .int .i64 s_, .bool b2, .int .i64 h2, .bool f2, .int .i64 s2, .bool b3, .int .i64 h3, .bool f3, .int .i64 s3]), (b_10, #[.slice (some ⟨vb5, 0, none⟩) 1700 vc5]), (b_6, #[.int .i64 0, .int .i64 16, .slice fa fn fc, .int .u16 av, .int .u16 la, .slice ca cn cc, .int .i64 (A0 : Nat), .bool b0, .int .i64 h0, .bool f0, .int .i64 s0, .bool b1, .int .i64 h1, .bool f1, .int .i64 s1, .bool b2, .int .i64 h2, .bool f2, .int .i64 s2, .bool b3, .int .i64 h3, .bool f3, .int .i64 s3]), (b_5, #[.slice (some ⟨mb, 0, none⟩) 1700 mc])] ++ L) R5 := hE9.mem0 [1000, 1001, 1002, 1003, 1004, 1005, 1006] (by decide)
 clear hE9
 simp only [List.cons_append, List.nil_append] at hv
 go_wp2
 try simp only [Exit.inBlock, Exit.then]
 refine ret_cctt (v := .agg #[.slice (some ⟨vb5, 0, none⟩) 1700 vc5]) (v' := .agg #[.int .i64 0, .int .i64 16, .slice fa5 nf1 fc5, .int .u16 av1, .int .u16 la, .slice ca5 nc1 cc5, .int .i64 (A0 : Nat), .bool b0, .int .i64 h0, .bool f0, .int .i64 s0, .bool true, .int .i64 hd, .bool true, .int .i64 s_, .bool b2, .int .i64 h2, .bool f2, .int .i64 s2, .bool b3, .int .i64 h3, .bool f3, .int .i64 s3]) (v1 := .int .i64 1) (v2 := .int .i64 0) rfl rfl rfl (read_row _ b_10 26 _ (hv.vars.ro (b := b_10)) 1 _ Tryz.underlying26 rfl infoM (by decide) rfl) (read_row _ b_11 58 _ (hv.vars.ro (b := b_11)) 23 _ Tryz.underlying58 rfl infoBk23 (by decide) rfl) rfl rfl rfl ?_
 exact ⟨vb5, vc5, fa5, fc5, ca5, cc5, c5, R5, rfl, hv.keep (by exact List.sublist_append_right [_, _, _, _, _, _, _] L), HM5.out, HQ5.out, HO5.out, K1.out, K2.out, K3.out, fun x hx => HS5.out x (HS4.out x (HS3.out x hx))⟩
end Go.Proofs.YtjmibgomkgkhnaaGreat
end

section
/-
 A disk's driver (layer 9): a request is asked for at the third and the fourth place.
-/
namespace Go.Proofs.YtjmibgomkgkhnaaGreat
open Go.Proofs.Qu Go.Proofs.Nm Go.RowKit Go.Proofs
theorem askW_2 {w0 w : World} {L : List (Nat × Array Value)} {R : List (Nat × Value × List Value)} (hv : Mem w0 w L R) {av la fn fc cn cc : Nat} {fa ca : Option Addr} {free : List Nat} {chs : List Chn} {b0 b1 b2 b3 f0 f1 f2 f3 : Bool} {h0 h1 h2 h3 s0 s1 s2 s3 : Nat} {A0 mb mc nf1 nc1 av1 hd b7 db do_ dc kind s_ p pd ps : Nat} {M D : List Nat} (hm : InM R mb 0 1700 mc M) (hq : BlkQ R (.slice fa fn fc) (.slice ca cn cc) free chs [(b0, h0, f0, (s0 : Int)), (b1, h1, f1, (s1 : Int)), (b2, h2, f2, (s2 : Int)), (b3, h3, f3, (s3 : Int))]) (hA : A0 = 500) (hp : A0 + 576 = p) (hpd : p + 16 = pd) (hps : p + 272 = ps) (hix : idxF (fun r : Rq => !r.1) [(b0, h0, f0, (s0 : Int)), (b1, h1, f1, (s1 : Int)), (b2, h2, f2, (s2 : Int)), (b3, h3, f3, (s3 : Int))] = 2) (hk : kind = 1) (hs : s_ < 256) (hav : av < 65535) (hav1 : av + 1 = av1) (g0 : fn = nf1 + 3) (g1 : cn + 1 = nc1) (hh : free.getD 0 0 = hd)
   (h7 : (b7, #[.slice (some ⟨db, do_, none⟩) 256 dc]) ∈ L) (hdr : (1, .slice (some ⟨db, do_, none⟩) 256 dc, cellsB D) ∈ R) (hg : goodB D) :
   Calls Tryz.prog 41 #[.agg #[.slice (some ⟨mb, 0, none⟩) 1700 mc], .agg #[.int .i64 0, .int .i64 16, .slice fa fn fc, .int .u16 av, .int .u16 la, .slice ca cn cc, .int .i64 (A0 : Nat), .bool b0, .int .i64 h0, .bool f0, .int .i64 s0, .bool b1, .int .i64 h1, .bool f1, .int .i64 s1, .bool b2, .int .i64 h2, .bool f2, .int .i64 s2, .bool b3, .int .i64 h3, .bool f3, .int .i64 s3], .int .i64 kind, .int .i64 s_, .func (.func 42) #[] #[.pointer (some ⟨b7, 0, none⟩)]] w fun e w' => ∃ vb5 vc5 fa5 fc5 ca5 cc5 c5 R5, e = .returned (.tuple #[.agg #[.slice (some ⟨vb5, 0, none⟩) 1700 vc5], .agg #[.int .i64 0, .int .i64 16, .slice fa5 nf1 fc5, .int .u16 av1, .int .u16 la, .slice ca5 nc1 cc5, .int .i64 (A0 : Nat), .bool b0, .int .i64 h0, .bool f0, .int .i64 s0, .bool b1, .int .i64 h1, .bool f1, .int .i64 s1, .bool true, .int .i64 hd, .bool false, .int .i64 s_, .bool b3, .int .i64 h3, .bool f3, .int .i64 s3], .int .i64 2, .int .i64 0]) ∧ Mem w0 w' L R5 ∧ InM R5 vb5 0 1700 vc5 (addM (askM M p kind s_ D) 0 16 av free [(p, 16, false), (pd, 256, false), (ps, 1, true)]) ∧ InQ R5 (.slice fa5 nf1 fc5) (.slice ca5 nc1 cc5) (free.drop 3) (chs ++ [c5]) ∧ OkQ 16 (free.drop 3) (chs ++ [c5]) ∧ c5.h = hd ∧ c5.ds = free.take 3 ∧ c5.rm = 1 ∧ ∀ x ∈ R, x ∈ R5 := by
 have HM := Lib.hid hm
 have HQ := Lib.hid hq
 have HIX := Lib.hid hix
 have H4 : Hid (([(b0, h0, f0, (s0 : Int)), (b1, h1, f1, (s1 : Int)), (b2, h2, f2, (s2 : Int)), (b3, h3, f3, (s3 : Int))] : List Rq).length ≤ 100000) := Lib.hid (by show 4 ≤ 100000; decide)
 have HSC : Hid (∀ i, i < 4 * 4 → (#[.int .i64 0, .int .i64 16, .slice fa fn fc, .int .u16 av, .int .u16 la, .slice ca cn cc, .int .i64 (A0 : Nat), .bool b0, .int .i64 h0, .bool f0, .int .i64 s0, .bool b1, .int .i64 h1, .bool f1, .int .i64 s1, .bool b2, .int .i64 h2, .bool f2, .int .i64 s2, .bool b3, .int .i64 h3, .bool f3, .int .i64 s3] : Array Value)[7 + i]? = (cellsR [(b0, h0, f0, (s0 : Int)), (b1, h1, f1, (s1 : Int)), (b2, h2, f2, (s2 : Int)), (b3, h3, f3, (s3 : Int))])[i]?) := Lib.hid (fun i hi => by
   rcases (show i = 0 ∨ i = 1 ∨ i = 2 ∨ i = 3 ∨ i = 4 ∨ i = 5 ∨ i = 6 ∨ i = 7 ∨ i = 8 ∨ i = 9 ∨ i = 10 ∨ i = 11 ∨ i = 12 ∨ i = 13 ∨ i = 14 ∨ i = 15 from by omega) with rfl | rfl | rfl | rfl | rfl | rfl | rfl | rfl | rfl | rfl | rfl | rfl | rfl | rfl | rfl | rfl <;> rfl)
 have HK : Hid (kind < 1000) := Lib.hid (by omega)
 have HS : Hid (s_ < 1000) := Lib.hid (by omega)
 have HP16 : Hid (p + 16 ≤ 1700) := Lib.hid (by omega)
 have HPD := Lib.hid hpd
 have HPE : Hid (pd + 256 ≤ 1700) := Lib.hid (by omega)
 have HPS : Hid (ps + 1 ≤ 1700) := Lib.hid (by omega)
 have HPSE := Lib.hid hps
 have HN1 : Hid (0 < 1) := Lib.hid (by decide)
 have HG5 : Hid (goodB [255]) := Lib.hid (by intro x hx; simp at hx; omega)
 have HB7 := Lib.hid h7
 have HDR := Lib.hid hdr
 have HG := Lib.hid hg
 have HAV := Lib.hid hav
 have HA1 := Lib.hid hav1
 have H0 : Hid (fn = nf1 + [(p, 16, false), (pd, 256, false), (ps, 1, true)].length) := Lib.hid g0
 have H1 := Lib.hid g1
 have HH := Lib.hid hh
 have HL3 : Hid (0 < [(p, 16, false), (pd, 256, false), (ps, 1, true)].length) := Lib.hid (by show 0 < 3; decide)
 have HLI : Hid (∀ q ∈ [(p, 16, false), (pd, 256, false), (ps, 1, true)], 0 < q.2.1 ∧ q.1 + q.2.1 ≤ 1700) := Lib.hid (fun q hq => by
   rcases List.mem_cons.1 hq with rfl | hq
   · show 0 < 16 ∧ p + 16 ≤ 1700; omega
   · rcases List.mem_cons.1 hq with rfl | hq
     · show 0 < 256 ∧ pd + 256 ≤ 1700; omega
     · rw [List.mem_singleton.1 hq]; show 0 < 1 ∧ ps + 1 ≤ 1700; omega)
 have HEN : Hid (Enters Tryz.prog 42) := Lib.hid (Go.Proofs.enters_of Tryz.func42 (by kernel_rfl) rfl)
 have y1 : ((kind : Int) == 4) = false := by rw [hk]; decide
 have q1 : IntKind.i64.wrap ((A0 : Int) + 576) = (p : Int) := by rw [IntWalk.i64_in _ (by omega)]; omega
 have q2 : IntKind.i64.wrap ((p : Int) + 272) = (ps : Int) := by rw [IntWalk.i64_in _ (by omega)]; omega

 clear hm hq hA hp hpd hps hix hk hs hav hav1 g0 g1 hh h7 hdr hg

 go_enter Tryz.func41, Tryz.ntmps41
 go_wp2_with (first
   | ((with_reducible refine at_box (T := 26) (dst := some 5) ?_); refine wl_newb rfl #[.slice (some ⟨mb, 0, none⟩) 1700 mc] 26 (fun _ => rfl) ?_; intro b_5 w2 hm2; replace hv := hv.madeAt hm2; clear hm2)
   | ((with_reducible refine at_box (T := 58) (dst := some 6) ?_); refine wl_newb rfl #[.int .i64 0, .int .i64 16, .slice fa fn fc, .int .u16 av, .int .u16 la, .slice ca cn cc, .int .i64 (A0 : Nat), .bool b0, .int .i64 h0, .bool f0, .int .i64 s0, .bool b1, .int .i64 h1, .bool f1, .int .i64 s1, .bool b2, .int .i64 h2, .bool f2, .int .i64 s2, .bool b3, .int .i64 h3, .bool f3, .int .i64 s3] 58 (fun _ => rfl) ?_; intro b_6 w2 hm2; replace hv := hv.madeAt hm2; clear hm2)
   | ((with_reducible refine at_alloc (T := 26) (dst := some 10) ?_); refine wl_newb rfl #[.slice none 0 0] 26 (fun _ => rfl) ?_; intro b_10 w2 hm2; replace hv := hv.madeAt hm2; clear hm2)
   | ((with_reducible refine at_alloc (T := 58) (dst := some 11) ?_); refine wl_newb rfl #[.int .i64 0, .int .i64 0, .slice none 0 0, .int .u16 0, .int .u16 0, .slice none 0 0, .int .i64 0, .bool false, .int .i64 0, .bool false, .int .i64 0, .bool false, .int .i64 0, .bool false, .int .i64 0, .bool false, .int .i64 0, .bool false, .int .i64 0, .bool false, .int .i64 0, .bool false, .int .i64 0] 58 (fun _ => rfl) ?_; intro b_11 w2 hm2; replace hv := hv.madeAt hm2; clear hm2)
   | (go_at_call 45; have HRD := rd_partK (o := 7) (n := 4) (k := 4) (l := cellsR [(b0, h0, f0, (s0 : Int)), (b1, h1, f1, (s1 : Int)), (b2, h2, f2, (s2 : Int)), (b3, h3, f3, (s3 : Int))]) (hv.vars.ro (b := b_6)) (hv.vars.so (b := b_6)) rfl HSC.out (by unfold maxLen; omega); (refine (IndexR_any H4.out (f := 75) (cap := #[]) (fun r => !r.1) (Go.Proofs.enters_of Tryz.func75 (by kernel_rfl) rfl) _ HRD (fun c hc w1 _ => free_any c.1 c.2.1 c.2.2.1 c.2.2.2 w1)).mono ?_); rw [HIX.out]; rintro e w1 ⟨rfl, hn1⟩; replace hv := hv.new hn1; clear hn1 HRD)
   | ((with_reducible refine at_load (T := 58) ?_); refine wl_ldv rfl b_6 rfl _ hv.vars.ro 23 _ Tryz.underlying58 rfl infoBk23 (by decide) rfl ?_)
   | ((with_reducible refine at_load (T := 26) ?_); refine wl_ldv rfl b_5 rfl _ hv.vars.ro 1 _ Tryz.underlying26 rfl infoM (by decide) rfl ?_)
   | ((with_reducible refine at_build (T := 160) ?_); refine wl_build rfl _ rfl (built_wkb _) ?_)
   | ((with_reducible refine at_box (T := 160) (dst := some 34) ?_); refine wl_newb rfl #[.int .i64 0, .int .i64 16, .slice fa fn fc, .int .u16 av, .int .u16 la, .slice ca cn cc, .int .i64 (A0 : Nat), .bool b0, .int .i64 h0, .bool f0, .int .i64 s0, .bool b1, .int .i64 h1, .bool f1, .int .i64 s1, .bool b2, .int .i64 h2, .bool f2, .int .i64 s2, .bool b3, .int .i64 h3, .bool f3, .int .i64 s3, .slice (some ⟨mb, 0, none⟩) 1700 mc] 160 (fun _ => rfl) ?_; intro b_34 w2 hm2; replace hv := hv.madeAt hm2; clear hm2)
   | ((with_reducible refine at_load (T := 3) ?_); refine wl_ldc rfl b_6 6 rfl _ hv.vars.ro _ Tryz.underlying3 rfl (.int .i64 (A0 : Nat)) rfl ?_)
   | (go_at_call 76; (with_reducible refine (title_w hv HM.out p kind s_ HK.out HS.out HP16.out).mono ?_); rintro e w1 ⟨vb, vc, R1, rfl, hv1, hm1, hs1⟩; replace hv := hv1; have HM1 := Lib.hid hm1; have HS1 := Lib.hid hs1; clear hv1 hm1 hs1)
   | ((with_reducible refine at_call ?_); refine wl_callv rfl HEN.out rfl [.pointer (some ⟨b_34, 0, none⟩), .int .i64 p] rfl (wr1_w (D := D) hv HM1.out (List.mem_cons_of_mem _ (List.mem_cons_of_mem _ (List.mem_cons_of_mem _ (List.mem_cons_of_mem _ HB7.out)))) (HS1.out _ HDR.out) HG.out HPD.out HPE.out) ?_; rintro e w1 ⟨gb, vb2, vc2, R2, rfl, hv1, hm1, hg1, hs1⟩; refine ⟨_, rfl, ?_⟩; replace hv := hv1; have HM2 := Lib.hid hm1; have HG2 := Lib.hid hg1; have HS2 := Lib.hid hs1; clear hv1 hm1 hg1 hs1)
   | (go_at_call 43; have hv1 := hv.bsl' (k := 1) (n := 1) (c := cellsB [255]) ⟨rfl, made_alloc _ #[.int .u8 255] 5⟩ rfl rfl (by unfold maxLen; omega); replace hv := hv1; clear hv1; (with_reducible refine (put_w hv (HM2.out.mono fun x hx => Mem.s hx) ps Mem.z HG5.out HN1.out HPS.out).mono ?_); rintro e w1 ⟨vb3, vc3, R3, rfl, hv1, hm1, hs1⟩; replace hv := hv1; have HM3 := Lib.hid hm1; have HG3 := Lib.hid (hs1 _ (Mem.s HG2.out)); have HS3 : Hid (∀ x ∈ R, x ∈ R3) := Lib.hid (fun x hx => hs1 x (Mem.s (HS2.out x (HS1.out x hx)))); clear hv1 hm1 hs1)
   | ((with_reducible refine at_bld2 (T := 91) ?_); refine wl_build rfl _ rfl (built_b2 _ _) ?_)
   | ((with_reducible refine at_bld3 (T := 91) ?_); refine wl_build rfl _ rfl (built_b3 _ _) ?_)
   | (go_at_call 77; (refine (ConcatB_3 hv p 16 pd 256 ps 1 false false true HG3.out rfl rfl rfl rfl).mono ?_); rintro e w1 ⟨gb4, gc4, R4, rfl, hv1, hg1, hs1⟩; replace hv := hv1; have HG4 := Lib.hid hg1; have HS4 : Hid (∀ x ∈ R3, x ∈ R4) := Lib.hid hs1; clear hv1 hg1 hs1))
 have HMA : Hid (InM R4 vb3 0 1700 vc3 (askM M p kind s_ D)) := Lib.hid (by
   have := HM3.out.mono HS4.out
   unfold askM
   rw [HPD.out, HPSE.out]; exact this)
 have HQA : Hid (InQ R4 (.slice fa fn fc) (.slice ca cn cc) free chs) := Lib.hid (HQ.out.q.mono fun x hx => HS4.out x (HS3.out x hx))
 have HSO : Hid (∃ v R', AddBW R4 av av1 la nf1 nc1 hd (askM M p kind s_ D) free chs [(p, 16, false), (pd, 256, false), (ps, 1, true)] v R') := Lib.hid (Bny.some_of (Add_B hv (fun x hx => hx) HMA.out HQA.out HQ.out.ok HAV.out HA1.out [(p, 16, false), (pd, 256, false), (ps, 1, true)] HL3.out H0.out H1.out HH.out HLI.out HG4.out))
 replace hv : Mem w0 _ ([(b_34, _), (b_11, _), (b_10, _), (b_6, _), (b_5, _)] ++ L) R4 := hv
 try simp only [Act.put]
 refine Bny.wp_region_walk _ _ [⟨[], none⟩, ⟨[], none⟩, ⟨[], none⟩, ⟨[1000], none⟩, ⟨[], none⟩, ⟨[], none⟩, ⟨[], none⟩, ⟨[], none⟩, ⟨[1000], none⟩, ⟨[], none⟩, ⟨[], some 10⟩, ⟨[], none⟩, ⟨[], none⟩, ⟨[], none⟩, ⟨[], none⟩, ⟨[], none⟩, ⟨[], some 16⟩, ⟨[], some 17⟩, ⟨[16], some 16⟩, ⟨[17], some 17⟩, ⟨[], none⟩, ⟨[], none⟩] [.val, .val, .val, .val, .val, .val, .val, .val, .val, .val, .mem (AddBW R4 av av1 la nf1 nc1 hd (askM M p kind s_ D) free chs [(p, 16, false), (pd, 256, false), (ps, 1, true)]), .pure, .pure, .pure, .pure, .pure, .lay #[.slice none 0 0], .lay #[.int .i64 0, .int .i64 0, .slice none 0 0, .int .u16 0, .int .u16 0, .slice none 0 0], .put, .put, .pure, .pure] (by kernel_rfl) (by kernel_rfl) hv ?_
 simp only [List.length_cons, List.length_nil, Nat.zero_add, Any.someVals]
 iterate 22 apply Exists.intro
 repeat (first
   | (refine Bny.E_off rfl ?_; simp only [Act.put, sia, scs, scz])
   | ((with_reducible refine Bny.at_ealloc ?_); refine Bny.E_lay (t := 26) rfl rfl rfl (fun _ => rfl) ?_; intro b_21; simp only [Act.put, sia, scs, scz])
   | ((with_reducible refine Bny.at_ealloc ?_); refine Bny.E_lay (t := 30) rfl rfl rfl (fun _ => rfl) ?_; intro b_22; simp only [Act.put, sia, scs, scz])
   | ((with_reducible refine Bny.at_estore (T := 26) ?_); refine Bny.E_putv (T := 26) rfl rfl rfl rfl rfl rfl 1 infoM rfl rfl (by simp [Value.oneCell']) ?_; simp only [Act.put, sia, scs, scz])
   | ((with_reducible refine Bny.at_estore (T := 30) ?_); refine Bny.E_putv (T := 30) rfl rfl rfl rfl rfl rfl 6 infoQ rfl rfl (by simp [Value.oneCell']) ?_; simp only [Act.put, sia, scs, scz])
   | ((with_reducible refine Bny.at_ecallf (f := 38) ?_); refine Bny.E_callmem rfl rfl rfl (Go.Proofs.enters_of Tryz.func38 (by kernel_rfl) rfl) rfl [.agg #[.slice (some ⟨vb3, 0, none⟩) 1700 vc3], .agg #[.int .i64 0, .int .i64 16, .slice fa fn fc, .int .u16 av, .int .u16 la, .slice ca cn cc], .slice (some ⟨gb4, 0, none⟩) 3 gc4] rfl HSO.out R4 (fun x hx => .inl hx) (fun w0 w L R' hm hs => Add_B hm hs HMA.out HQA.out HQ.out.ok HAV.out HA1.out [(p, 16, false), (pd, 256, false), (ps, 1, true)] HL3.out H0.out H1.out HH.out HLI.out (hs _ HG4.out)) ?_; rintro v R5 ⟨vb5, vc5, fc5, cc5, fa5, ca5, c5, rfl, hm5, hq5, ho5, k1, k2, k3, hs5⟩; have HM5 := Lib.hid hm5; have HQ5 := Lib.hid hq5; have HO5 := Lib.hid ho5; have K1 := Lib.hid k1; have K2 := Lib.hid k2; have K3 := Lib.hid k3; have HS5 := Lib.hid hs5; clear hm5 hq5 ho5 k1 k2 k3 hs5; simp only [Act.put, sia, scs, scz])
   | (apply Bny.E_pureq rfl rfl rfl
      case h => intro K hK; go_big_quiet_op; (refine hK _ ?_; rfl)
      case hr => exact fun _ => rfl
      simp only [Act.put, sia, scs, scz])
   | (apply Bny.E_val rfl rfl rfl rfl
      case h =>
        intro E' hA K hK
        first
          | ((with_reducible refine Bny.at_qload (T := 26) ?_); refine Bny.q_ldp 1000 (o := 23) hA (by decide) rfl rfl 1 _ Tryz.underlying26 rfl infoM (by decide) (by show 23 + 1 ≤ 24; decide) #[.slice (some ⟨vb3, 0, none⟩) 1700 vc3] rfl ?_; refine hK _ ?_; rfl)
          | ((with_reducible refine Bny.at_qload (T := 30) ?_); refine Bny.q_ldp 1000 (o := 0) hA (by decide) rfl rfl 6 _ Tryz.underlying30 rfl infoQ (by decide) (by show 0 + 6 ≤ 24; decide) #[.int .i64 0, .int .i64 16, .slice fa fn fc, .int .u16 av, .int .u16 la, .slice ca cn cc] rfl ?_; refine hK _ ?_; rfl)
          | (go_big_quiet_op; first
            | (refine hK _ ?_; rfl)
            | (refine ⟨_, fun _ _ => rfl, ?_⟩; refine hK _ ?_; rfl)
            | (apply Exists.intro; refine ⟨fun w1 hw1 => ?_, ?_⟩; · (first
                | fail)
               refine hK _ ?_; rfl))
      case hD => rfl
      simp only [Act.put, sia, scs, scz]))
 try any_goals exact undef
 refine Bny.E_nil ?_
 intro w9 hE9
 replace hv : Mem w0 w9 ([(b_21, #[.slice (some ⟨vb5, 0, none⟩) 1700 vc5]), (b_22, #[.int .i64 0, .int .i64 16, .slice fa5 nf1 fc5, .int .u16 av1, .int .u16 la, .slice ca5 nc1 cc5]), (b_34, #[.int .i64 0, .int .i64 16, .slice fa fn fc, .int .u16 av, .int .u16 la, .slice ca cn cc, .int .i64 (A0 : Nat), .bool b0, .int .i64 h0, .bool f0, .int .i64 s0, .bool b1, .int .i64 h1, .bool f1, .int .i64 s1, .bool b2, .int .i64 h2, .bool f2, .int .i64 s2, .bool b3, .int .i64 h3, .bool f3, .int .i64 s3, .slice (some ⟨vb3, 0, none⟩) 1700 vc3]), (b_11, #[.int .i64 0, .int .i64 0, .slice none 0 0, .int .u16 0, .int .u16 0, .slice none 0 0, .int .i64 0, .bool false, .int .i64 0, .bool false, .int .i64 0, .bool false, .int .i64 0, .bool false, .int .i64 0, .bool false, .int .i64 0, .bool false, .int .i64 0, .bool false, .int .i64 0, .bool false, .int .i64 0]), (b_10, #[.slice none 0 0]), (b_6, #[.int .i64 0, .int .i64 16, .slice fa fn fc, .int .u16 av, .int .u16 la, .slice ca cn cc, .int .i64 (A0 : Nat), .bool b0, .int .i64 h0, .bool f0, .int .i64 s0, .bool b1, .int .i64 h1, .bool f1, .int .i64 s1, .bool b2, .int .i64 h2, .bool f2, .int .i64 s2, .bool b3, .int .i64 h3, .bool f3, .int .i64 s3]), (b_5, #[.slice (some ⟨mb, 0, none⟩) 1700 mc])] ++ L) R5 := hE9.mem1 [16, 17, 1000, 1001, 1002, 1003, 1004] (by decide) 10 rfl
 clear hE9
 simp only [List.cons_append, List.nil_append] at hv
 go_wp2_with (first
   | ((with_reducible refine at_load (T := 30) ?_); refine wl_ldv rfl b_22 rfl _ hv.vars.ro 6 _ Tryz.underlying30 rfl infoQ (by decide) rfl ?_)
   | ((with_reducible refine at_store (T := 30) ?_); refine wl_stp rfl b_34 0 rfl _ rfl _ hv.vars.ro hv.vars.so 6 infoQ rfl (by show 0 + 6 ≤ 24; decide) (by simp [Value.oneCell']) #[.int .i64 0, .int .i64 16, .slice fa5 nf1 fc5, .int .u16 av1, .int .u16 la, .slice ca5 nc1 cc5, .int .i64 (A0 : Nat), .bool b0, .int .i64 h0, .bool f0, .int .i64 s0, .bool b1, .int .i64 h1, .bool f1, .int .i64 s1, .bool b2, .int .i64 h2, .bool f2, .int .i64 s2, .bool b3, .int .i64 h3, .bool f3, .int .i64 s3, .slice (some ⟨vb3, 0, none⟩) 1700 vc3] (splice_24_0_6 _ _ _ _ _ _ _ _ _ _ _ _ _ _ _ _ _ _ _ _ _ _ _ _ _ _ _ _ _ _) ?_; intro w2 hw2; replace hv := hv.sets (by repeat first | exact .z | apply SetM.s) hw2; clear hw2)
   | ((with_reducible refine at_build (T := 55) ?_); refine wl_build rfl _ rfl (built_rq _ _ _) ?_)
   | ((with_reducible refine at_store (T := 55) ?_); refine wl_stp rfl b_34 15 rfl _ rfl _ hv.vars.ro hv.vars.so 4 infoRq4 rfl (by show 15 + 4 ≤ 24; decide) (by simp [Value.oneCell']) #[.int .i64 0, .int .i64 16, .slice fa5 nf1 fc5, .int .u16 av1, .int .u16 la, .slice ca5 nc1 cc5, .int .i64 (A0 : Nat), .bool b0, .int .i64 h0, .bool f0, .int .i64 s0, .bool b1, .int .i64 h1, .bool f1, .int .i64 s1, .bool true, .int .i64 hd, .bool false, .int .i64 s_, .bool b3, .int .i64 h3, .bool f3, .int .i64 s3, .slice (some ⟨vb3, 0, none⟩) 1700 vc3] (splice_24_15_4 _ _ _ _ _ _ _ _ _ _ _ _ _ _ _ _ _ _ _ _ _ _ _ _ _ _ _ _) ?_; intro w2 hw2; replace hv := hv.sets (by repeat first | exact .z | apply SetM.s) hw2; clear hw2))
 replace hv : Mem w0 _ ([(b_21, _), (b_22, _), (b_34, _), (b_11, _), (b_10, _), (b_6, _), (b_5, _)] ++ L) R5 := hv
 try simp only [Act.put]
 refine Bny.wp_region_walk _ _ [⟨[1000], none⟩, ⟨[], none⟩, ⟨[], none⟩, ⟨[], none⟩, ⟨[1002], none⟩, ⟨[], none⟩, ⟨[1004], some 1004⟩, ⟨[1003], some 1003⟩, ⟨[], none⟩, ⟨[], none⟩] [.val, .val, .val, .val, .val, .val, .put, .put, .val, .val] (by kernel_rfl) (by kernel_rfl) hv ?_
 simp only [List.length_cons, List.length_nil, Nat.zero_add, Any.someVals]
 iterate 10 apply Exists.intro
 repeat (first
   | (refine Bny.E_off rfl ?_; simp only [Act.put, sia, scs, scz])
   | ((with_reducible refine Bny.at_estore (T := 26) ?_); refine Bny.E_putv (T := 26) rfl rfl rfl rfl rfl rfl 1 infoM rfl rfl (by simp [Value.oneCell']) ?_; simp only [Act.put, sia, scs, scz])
   | ((with_reducible refine Bny.at_estore (T := 58) ?_); refine Bny.E_putv (T := 58) rfl rfl rfl rfl rfl rfl 23 infoBk23 rfl rfl (by simp [Value.oneCell']) ?_; simp only [Act.put, sia, scs, scz])
   | (apply Bny.E_pureq rfl rfl rfl
      case h => intro K hK; go_big_quiet_op; (refine hK _ ?_; rfl)
      case hr => exact fun _ => rfl
      simp only [Act.put, sia, scs, scz])
   | (apply Bny.E_val rfl rfl rfl rfl
      case h =>
        intro E' hA K hK
        first
          | ((with_reducible refine Bny.at_qload (T := 26) ?_); refine Bny.q_ldv 1000 hA (by decide) rfl rfl 1 _ Tryz.underlying26 rfl infoM (by decide) rfl ?_; refine hK _ ?_; rfl)
          | ((with_reducible refine Bny.at_qload (T := 58) ?_); refine Bny.q_ldp 1002 (o := 0) hA (by decide) rfl rfl 23 _ Tryz.underlying58 rfl infoBk23 (by decide) (by show 0 + 23 ≤ 24; decide) #[.int .i64 0, .int .i64 16, .slice fa5 nf1 fc5, .int .u16 av1, .int .u16 la, .slice ca5 nc1 cc5, .int .i64 (A0 : Nat), .bool b0, .int .i64 h0, .bool f0, .int .i64 s0, .bool b1, .int .i64 h1, .bool f1, .int .i64 s1, .bool true, .int .i64 hd, .bool false, .int .i64 s_, .bool b3, .int .i64 h3, .bool f3, .int .i64 s3] (ext24 _ _ _ _ _ _ _ _ _ _ _ _ _ _ _ _ _ _ _ _ _ _ _ _) ?_; refine hK _ ?_; rfl)
          | (go_big_quiet_op; first
            | (refine hK _ ?_; rfl)
            | (refine ⟨_, fun _ _ => rfl, ?_⟩; refine hK _ ?_; rfl)
            | (apply Exists.intro; refine ⟨fun w1 hw1 => ?_, ?_⟩; · (first
                | fail)
               refine hK _ ?_; rfl))
      case hD => rfl
      simp only [Act.put, sia, scs, scz]))
 try any_goals exact undef
 refine Bny.E_nil ?_
 intro w9 hE9
 replace hv : Mem w0 w9 ([(b_21, #[.slice (some ⟨vb5, 0, none⟩) 1700 vc5]), (b_22, #[.int .i64 0, .int .i64 16, .slice fa5 nf1 fc5, .int .u16 av1, .int .u16 la, .slice ca5 nc1 cc5]), (b_34, #[.int .i64 0, .int .i64 16, .slice fa5 nf1 fc5, .int .u16 av1, .int .u16 la, .slice ca5 nc1 cc5, .int .i64 (A0 : Nat), .bool b0, .int .i64 h0, .bool f0, .int .i64 s0, .bool b1, .int .i64 h1, .bool f1, .int .i64 s1, .bool true, .int .i64 hd, .bool false, .int .i64 s_, .bool b3, .int .i64 h3, .bool f3, .int .i64 s3, .slice (some ⟨vb3, 0, none⟩) 1700 vc3]), (b_11, #[.int .i64 0, .int .i64 16, .slice fa5 nf1 fc5, .int .u16 av1, .int .u16 la, .slice ca5 nc1 cc5, .int .i64 (A0 : Nat), .bool b0, .int .i64 h0, .bool f0, .int .i64 s0, .bool b1, .int .i64 h1, .bool f1, .int .i64 s1, .bool true, .int .i64 hd, .bool false, .int .i64 s_, .bool b3, .int .i64 h3, .bool f3, .int .i64 s3]), (b_10, #[.slice (some ⟨vb5, 0, none⟩) 1700 vc5]), (b_6, #[.int .i64 0, .int .i64 16, .slice fa fn fc, .int .u16 av, .int .u16 la, .slice ca cn cc, .int .i64 (A0 : Nat), .bool b0, .int .i64 h0, .bool f0, .int .i64 s0, .bool b1, .int .i64 h1, .bool f1, .int .i64 s1, .bool b2, .int .i64 h2, .bool f2, .int .i64 s2, .bool b3, .int .i64 h3, .bool f3, .int .i64 s3]), (b_5, #[.slice (some ⟨mb, 0, none⟩) 1700 mc])] ++ L) R5 := hE9.mem0 [1000, 1001, 1002, 1003, 1004, 1005, 1006] (by decide)
 clear hE9
 simp only [List.cons_append, List.nil_append] at hv
 go_wp2
 try simp only [Exit.inBlock, Exit.then]
 refine ret_cctt (v := .agg #[.slice (some ⟨vb5, 0, none⟩) 1700 vc5]) (v' := .agg #[.int .i64 0, .int .i64 16, .slice fa5 nf1 fc5, .int .u16 av1, .int .u16 la, .slice ca5 nc1 cc5, .int .i64 (A0 : Nat), .bool b0, .int .i64 h0, .bool f0, .int .i64 s0, .bool b1, .int .i64 h1, .bool f1, .int .i64 s1, .bool true, .int .i64 hd, .bool false, .int .i64 s_, .bool b3, .int .i64 h3, .bool f3, .int .i64 s3]) (v1 := .int .i64 2) (v2 := .int .i64 0) rfl rfl rfl (read_row _ b_10 26 _ (hv.vars.ro (b := b_10)) 1 _ Tryz.underlying26 rfl infoM (by decide) rfl) (read_row _ b_11 58 _ (hv.vars.ro (b := b_11)) 23 _ Tryz.underlying58 rfl infoBk23 (by decide) rfl) rfl rfl rfl ?_
 exact ⟨vb5, vc5, fa5, fc5, ca5, cc5, c5, R5, rfl, hv.keep (by exact List.sublist_append_right [_, _, _, _, _, _, _] L), HM5.out, HQ5.out, HO5.out, K1.out, K2.out, K3.out, fun x hx => HS5.out x (HS4.out x (HS3.out x hx))⟩
theorem askW_3 {w0 w : World} {L : List (Nat × Array Value)} {R : List (Nat × Value × List Value)} (hv : Mem w0 w L R) {av la fn fc cn cc : Nat} {fa ca : Option Addr} {free : List Nat} {chs : List Chn} {b0 b1 b2 b3 f0 f1 f2 f3 : Bool} {h0 h1 h2 h3 s0 s1 s2 s3 : Nat} {A0 mb mc nf1 nc1 av1 hd b7 db do_ dc kind s_ p pd ps : Nat} {M D : List Nat} (hm : InM R mb 0 1700 mc M) (hq : BlkQ R (.slice fa fn fc) (.slice ca cn cc) free chs [(b0, h0, f0, (s0 : Int)), (b1, h1, f1, (s1 : Int)), (b2, h2, f2, (s2 : Int)), (b3, h3, f3, (s3 : Int))]) (hA : A0 = 500) (hp : A0 + 864 = p) (hpd : p + 16 = pd) (hps : p + 272 = ps) (hix : idxF (fun r : Rq => !r.1) [(b0, h0, f0, (s0 : Int)), (b1, h1, f1, (s1 : Int)), (b2, h2, f2, (s2 : Int)), (b3, h3, f3, (s3 : Int))] = 3) (hk : kind = 1) (hs : s_ < 256) (hav : av < 65535) (hav1 : av + 1 = av1) (g0 : fn = nf1 + 3) (g1 : cn + 1 = nc1) (hh : free.getD 0 0 = hd)
   (h7 : (b7, #[.slice (some ⟨db, do_, none⟩) 256 dc]) ∈ L) (hdr : (1, .slice (some ⟨db, do_, none⟩) 256 dc, cellsB D) ∈ R) (hg : goodB D) :
   Calls Tryz.prog 41 #[.agg #[.slice (some ⟨mb, 0, none⟩) 1700 mc], .agg #[.int .i64 0, .int .i64 16, .slice fa fn fc, .int .u16 av, .int .u16 la, .slice ca cn cc, .int .i64 (A0 : Nat), .bool b0, .int .i64 h0, .bool f0, .int .i64 s0, .bool b1, .int .i64 h1, .bool f1, .int .i64 s1, .bool b2, .int .i64 h2, .bool f2, .int .i64 s2, .bool b3, .int .i64 h3, .bool f3, .int .i64 s3], .int .i64 kind, .int .i64 s_, .func (.func 42) #[] #[.pointer (some ⟨b7, 0, none⟩)]] w fun e w' => ∃ vb5 vc5 fa5 fc5 ca5 cc5 c5 R5, e = .returned (.tuple #[.agg #[.slice (some ⟨vb5, 0, none⟩) 1700 vc5], .agg #[.int .i64 0, .int .i64 16, .slice fa5 nf1 fc5, .int .u16 av1, .int .u16 la, .slice ca5 nc1 cc5, .int .i64 (A0 : Nat), .bool b0, .int .i64 h0, .bool f0, .int .i64 s0, .bool b1, .int .i64 h1, .bool f1, .int .i64 s1, .bool b2, .int .i64 h2, .bool f2, .int .i64 s2, .bool true, .int .i64 hd, .bool false, .int .i64 s_], .int .i64 3, .int .i64 0]) ∧ Mem w0 w' L R5 ∧ InM R5 vb5 0 1700 vc5 (addM (askM M p kind s_ D) 0 16 av free [(p, 16, false), (pd, 256, false), (ps, 1, true)]) ∧ InQ R5 (.slice fa5 nf1 fc5) (.slice ca5 nc1 cc5) (free.drop 3) (chs ++ [c5]) ∧ OkQ 16 (free.drop 3) (chs ++ [c5]) ∧ c5.h = hd ∧ c5.ds = free.take 3 ∧ c5.rm = 1 ∧ ∀ x ∈ R, x ∈ R5 := by
 have HM := Lib.hid hm
 have HQ := Lib.hid hq
 have HIX := Lib.hid hix
 have H4 : Hid (([(b0, h0, f0, (s0 : Int)), (b1, h1, f1, (s1 : Int)), (b2, h2, f2, (s2 : Int)), (b3, h3, f3, (s3 : Int))] : List Rq).length ≤ 100000) := Lib.hid (by show 4 ≤ 100000; decide)
 have HSC : Hid (∀ i, i < 4 * 4 → (#[.int .i64 0, .int .i64 16, .slice fa fn fc, .int .u16 av, .int .u16 la, .slice ca cn cc, .int .i64 (A0 : Nat), .bool b0, .int .i64 h0, .bool f0, .int .i64 s0, .bool b1, .int .i64 h1, .bool f1, .int .i64 s1, .bool b2, .int .i64 h2, .bool f2, .int .i64 s2, .bool b3, .int .i64 h3, .bool f3, .int .i64 s3] : Array Value)[7 + i]? = (cellsR [(b0, h0, f0, (s0 : Int)), (b1, h1, f1, (s1 : Int)), (b2, h2, f2, (s2 : Int)), (b3, h3, f3, (s3 : Int))])[i]?) := Lib.hid (fun i hi => by
   rcases (show i = 0 ∨ i = 1 ∨ i = 2 ∨ i = 3 ∨ i = 4 ∨ i = 5 ∨ i = 6 ∨ i = 7 ∨ i = 8 ∨ i = 9 ∨ i = 10 ∨ i = 11 ∨ i = 12 ∨ i = 13 ∨ i = 14 ∨ i = 15 from by omega) with rfl | rfl | rfl | rfl | rfl | rfl | rfl | rfl | rfl | rfl | rfl | rfl | rfl | rfl | rfl | rfl <;> rfl)
 have HK : Hid (kind < 1000) := Lib.hid (by omega)
 have HS : Hid (s_ < 1000) := Lib.hid (by omega)
 have HP16 : Hid (p + 16 ≤ 1700) := Lib.hid (by omega)
 have HPD := Lib.hid hpd
 have HPE : Hid (pd + 256 ≤ 1700) := Lib.hid (by omega)
 have HPS : Hid (ps + 1 ≤ 1700) := Lib.hid (by omega)
 have HPSE := Lib.hid hps
 have HN1 : Hid (0 < 1) := Lib.hid (by decide)
 have HG5 : Hid (goodB [255]) := Lib.hid (by intro x hx; simp at hx; omega)
 have HB7 := Lib.hid h7
 have HDR := Lib.hid hdr
 have HG := Lib.hid hg
 have HAV := Lib.hid hav
 have HA1 := Lib.hid hav1
 have H0 : Hid (fn = nf1 + [(p, 16, false), (pd, 256, false), (ps, 1, true)].length) := Lib.hid g0
 have H1 := Lib.hid g1
 have HH := Lib.hid hh
 have HL3 : Hid (0 < [(p, 16, false), (pd, 256, false), (ps, 1, true)].length) := Lib.hid (by show 0 < 3; decide)
 have HLI : Hid (∀ q ∈ [(p, 16, false), (pd, 256, false), (ps, 1, true)], 0 < q.2.1 ∧ q.1 + q.2.1 ≤ 1700) := Lib.hid (fun q hq => by
   rcases List.mem_cons.1 hq with rfl | hq
   · show 0 < 16 ∧ p + 16 ≤ 1700; omega
   · rcases List.mem_cons.1 hq with rfl | hq
     · show 0 < 256 ∧ pd + 256 ≤ 1700; omega
     · rw [List.mem_singleton.1 hq]; show 0 < 1 ∧ ps + 1 ≤ 1700; omega)
 have HEN : Hid (Enters Tryz.prog 42) := Lib.hid (Go.Proofs.enters_of Tryz.func42 (by kernel_rfl) rfl)
 have y1 : ((kind : Int) == 4) = false := by rw [hk]; decide
 have q1 : IntKind.i64.wrap ((A0 : Int) + 864) = (p : Int) := by rw [IntWalk.i64_in _ (by omega)]; omega
 have q2 : IntKind.i64.wrap ((p : Int) + 272) = (ps : Int) := by rw [IntWalk.i64_in _ (by omega)]; omega

 clear hm hq hA hp hpd hps hix hk hs hav hav1 g0 g1 hh h7 hdr hg

 go_enter Tryz.func41, Tryz.ntmps41
 go_wp2_with (first
   | ((with_reducible refine at_box (T := 26) (dst := some 5) ?_); refine wl_newb rfl #[.slice (some ⟨mb, 0, none⟩) 1700 mc] 26 (fun _ => rfl) ?_; intro b_5 w2 hm2; replace hv := hv.madeAt hm2; clear hm2)
   | ((with_reducible refine at_box (T := 58) (dst := some 6) ?_); refine wl_newb rfl #[.int .i64 0, .int .i64 16, .slice fa fn fc, .int .u16 av, .int .u16 la, .slice ca cn cc, .int .i64 (A0 : Nat), .bool b0, .int .i64 h0, .bool f0, .int .i64 s0, .bool b1, .int .i64 h1, .bool f1, .int .i64 s1, .bool b2, .int .i64 h2, .bool f2, .int .i64 s2, .bool b3, .int .i64 h3, .bool f3, .int .i64 s3] 58 (fun _ => rfl) ?_; intro b_6 w2 hm2; replace hv := hv.madeAt hm2; clear hm2)
   | ((with_reducible refine at_alloc (T := 26) (dst := some 10) ?_); refine wl_newb rfl #[.slice none 0 0] 26 (fun _ => rfl) ?_; intro b_10 w2 hm2; replace hv := hv.madeAt hm2; clear hm2)
   | ((with_reducible refine at_alloc (T := 58) (dst := some 11) ?_); refine wl_newb rfl #[.int .i64 0, .int .i64 0, .slice none 0 0, .int .u16 0, .int .u16 0, .slice none 0 0, .int .i64 0, .bool false, .int .i64 0, .bool false, .int .i64 0, .bool false, .int .i64 0, .bool false, .int .i64 0, .bool false, .int .i64 0, .bool false, .int .i64 0, .bool false, .int .i64 0, .bool false, .int .i64 0] 58 (fun _ => rfl) ?_; intro b_11 w2 hm2; replace hv := hv.madeAt hm2; clear hm2)
   | (go_at_call 45; have HRD := rd_partK (o := 7) (n := 4) (k := 4) (l := cellsR [(b0, h0, f0, (s0 : Int)), (b1, h1, f1, (s1 : Int)), (b2, h2, f2, (s2 : Int)), (b3, h3, f3, (s3 : Int))]) (hv.vars.ro (b := b_6)) (hv.vars.so (b := b_6)) rfl HSC.out (by unfold maxLen; omega); (refine (IndexR_any H4.out (f := 75) (cap := #[]) (fun r => !r.1) (Go.Proofs.enters_of Tryz.func75 (by kernel_rfl) rfl) _ HRD (fun c hc w1 _ => free_any c.1 c.2.1 c.2.2.1 c.2.2.2 w1)).mono ?_); rw [HIX.out]; rintro e w1 ⟨rfl, hn1⟩; replace hv := hv.new hn1; clear hn1 HRD)
   | ((with_reducible refine at_load (T := 58) ?_); refine wl_ldv rfl b_6 rfl _ hv.vars.ro 23 _ Tryz.underlying58 rfl infoBk23 (by decide) rfl ?_)
   | ((with_reducible refine at_load (T := 26) ?_); refine wl_ldv rfl b_5 rfl _ hv.vars.ro 1 _ Tryz.underlying26 rfl infoM (by decide) rfl ?_)
   | ((with_reducible refine at_build (T := 160) ?_); refine wl_build rfl _ rfl (built_wkb _) ?_)
   | ((with_reducible refine at_box (T := 160) (dst := some 34) ?_); refine wl_newb rfl #[.int .i64 0, .int .i64 16, .slice fa fn fc, .int .u16 av, .int .u16 la, .slice ca cn cc, .int .i64 (A0 : Nat), .bool b0, .int .i64 h0, .bool f0, .int .i64 s0, .bool b1, .int .i64 h1, .bool f1, .int .i64 s1, .bool b2, .int .i64 h2, .bool f2, .int .i64 s2, .bool b3, .int .i64 h3, .bool f3, .int .i64 s3, .slice (some ⟨mb, 0, none⟩) 1700 mc] 160 (fun _ => rfl) ?_; intro b_34 w2 hm2; replace hv := hv.madeAt hm2; clear hm2)
   | ((with_reducible refine at_load (T := 3) ?_); refine wl_ldc rfl b_6 6 rfl _ hv.vars.ro _ Tryz.underlying3 rfl (.int .i64 (A0 : Nat)) rfl ?_)
   | (go_at_call 76; (with_reducible refine (title_w hv HM.out p kind s_ HK.out HS.out HP16.out).mono ?_); rintro e w1 ⟨vb, vc, R1, rfl, hv1, hm1, hs1⟩; replace hv := hv1; have HM1 := Lib.hid hm1; have HS1 := Lib.hid hs1; clear hv1 hm1 hs1)
   | ((with_reducible refine at_call ?_); refine wl_callv rfl HEN.out rfl [.pointer (some ⟨b_34, 0, none⟩), .int .i64 p] rfl (wr1_w (D := D) hv HM1.out (List.mem_cons_of_mem _ (List.mem_cons_of_mem _ (List.mem_cons_of_mem _ (List.mem_cons_of_mem _ HB7.out)))) (HS1.out _ HDR.out) HG.out HPD.out HPE.out) ?_; rintro e w1 ⟨gb, vb2, vc2, R2, rfl, hv1, hm1, hg1, hs1⟩; refine ⟨_, rfl, ?_⟩; replace hv := hv1; have HM2 := Lib.hid hm1; have HG2 := Lib.hid hg1; have HS2 := Lib.hid hs1; clear hv1 hm1 hg1 hs1)
   | (go_at_call 43; have hv1 := hv.bsl' (k := 1) (n := 1) (c := cellsB [255]) ⟨rfl, made_alloc _ #[.int .u8 255] 5⟩ rfl rfl (by unfold maxLen; omega); replace hv := hv1; clear hv1; (with_reducible refine (put_w hv (HM2.out.mono fun x hx => Mem.s hx) ps Mem.z HG5.out HN1.out HPS.out).mono ?_); rintro e w1 ⟨vb3, vc3, R3, rfl, hv1, hm1, hs1⟩; replace hv := hv1; have HM3 := Lib.hid hm1; have HG3 := Lib.hid (hs1 _ (Mem.s HG2.out)); have HS3 : Hid (∀ x ∈ R, x ∈ R3) := Lib.hid (fun x hx => hs1 x (Mem.s (HS2.out x (HS1.out x hx)))); clear hv1 hm1 hs1)
   | ((with_reducible refine at_bld2 (T := 91) ?_); refine wl_build rfl _ rfl (built_b2 _ _) ?_)
   | ((with_reducible refine at_bld3 (T := 91) ?_); refine wl_build rfl _ rfl (built_b3 _ _) ?_)
   | (go_at_call 77; (refine (ConcatB_3 hv p 16 pd 256 ps 1 false false true HG3.out rfl rfl rfl rfl).mono ?_); rintro e w1 ⟨gb4, gc4, R4, rfl, hv1, hg1, hs1⟩; replace hv := hv1; have HG4 := Lib.hid hg1; have HS4 : Hid (∀ x ∈ R3, x ∈ R4) := Lib.hid hs1; clear hv1 hg1 hs1))
 have HMA : Hid (InM R4 vb3 0 1700 vc3 (askM M p kind s_ D)) := Lib.hid (by
   have := HM3.out.mono HS4.out
   unfold askM
   rw [HPD.out, HPSE.out]; exact this)
 have HQA : Hid (InQ R4 (.slice fa fn fc) (.slice ca cn cc) free chs) := Lib.hid (HQ.out.q.mono fun x hx => HS4.out x (HS3.out x hx))
 have HSO : Hid (∃ v R', AddBW R4 av av1 la nf1 nc1 hd (askM M p kind s_ D) free chs [(p, 16, false), (pd, 256, false), (ps, 1, true)] v R') := Lib.hid (Bny.some_of (Add_B hv (fun x hx => hx) HMA.out HQA.out HQ.out.ok HAV.out HA1.out [(p, 16, false), (pd, 256, false), (ps, 1, true)] HL3.out H0.out H1.out HH.out HLI.out HG4.out))
 replace hv : Mem w0 _ ([(b_34, _), (b_11, _), (b_10, _), (b_6, _), (b_5, _)] ++ L) R4 := hv
 try simp only [Act.put]
 refine Bny.wp_region_walk _ _ [⟨[], none⟩, ⟨[], none⟩, ⟨[], none⟩, ⟨[1000], none⟩, ⟨[], none⟩, ⟨[], none⟩, ⟨[], none⟩, ⟨[], none⟩, ⟨[1000], none⟩, ⟨[], none⟩, ⟨[], some 10⟩, ⟨[], none⟩, ⟨[], none⟩, ⟨[], none⟩, ⟨[], none⟩, ⟨[], none⟩, ⟨[], some 16⟩, ⟨[], some 17⟩, ⟨[16], some 16⟩, ⟨[17], some 17⟩, ⟨[], none⟩, ⟨[], none⟩] [.val, .val, .val, .val, .val, .val, .val, .val, .val, .val, .mem (AddBW R4 av av1 la nf1 nc1 hd (askM M p kind s_ D) free chs [(p, 16, false), (pd, 256, false), (ps, 1, true)]), .pure, .pure, .pure, .pure, .pure, .lay #[.slice none 0 0], .lay #[.int .i64 0, .int .i64 0, .slice none 0 0, .int .u16 0, .int .u16 0, .slice none 0 0], .put, .put, .pure, .pure] (by kernel_rfl) (by kernel_rfl) hv ?_
 simp only [List.length_cons, List.length_nil, Nat.zero_add, Any.someVals]
 iterate 22 apply Exists.intro
 repeat (first
   | (refine Bny.E_off rfl ?_; simp only [Act.put, sia, scs, scz])
   | ((with_reducible refine Bny.at_ealloc ?_); refine Bny.E_lay (t := 26) rfl rfl rfl (fun _ => rfl) ?_; intro b_21; simp only [Act.put, sia, scs, scz])
   | ((with_reducible refine Bny.at_ealloc ?_); refine Bny.E_lay (t := 30) rfl rfl rfl (fun _ => rfl) ?_; intro b_22; simp only [Act.put, sia, scs, scz])
   | ((with_reducible refine Bny.at_estore (T := 26) ?_); refine Bny.E_putv (T := 26) rfl rfl rfl rfl rfl rfl 1 infoM rfl rfl (by simp [Value.oneCell']) ?_; simp only [Act.put, sia, scs, scz])
   | ((with_reducible refine Bny.at_estore (T := 30) ?_); refine Bny.E_putv (T := 30) rfl rfl rfl rfl rfl rfl 6 infoQ rfl rfl (by simp [Value.oneCell']) ?_; simp only [Act.put, sia, scs, scz])
   | ((with_reducible refine Bny.at_ecallf (f := 38) ?_); refine Bny.E_callmem rfl rfl rfl (Go.Proofs.enters_of Tryz.func38 (by kernel_rfl) rfl) rfl [.agg #[.slice (some ⟨vb3, 0, none⟩) 1700 vc3], .agg #[.int .i64 0, .int .i64 16, .slice fa fn fc, .int .u16 av, .int .u16 la, .slice ca cn cc], .slice (some ⟨gb4, 0, none⟩) 3 gc4] rfl HSO.out R4 (fun x hx => .inl hx) (fun w0 w L R' hm hs => Add_B hm hs HMA.out HQA.out HQ.out.ok HAV.out HA1.out [(p, 16, false), (pd, 256, false), (ps, 1, true)] HL3.out H0.out H1.out HH.out HLI.out (hs _ HG4.out)) ?_; rintro v R5 ⟨vb5, vc5, fc5, cc5, fa5, ca5, c5, rfl, hm5, hq5, ho5, k1, k2, k3, hs5⟩; have HM5 := Lib.hid hm5; have HQ5 := Lib.hid hq5; have HO5 := Lib.hid ho5; have K1 := Lib.hid k1; have K2 := Lib.hid k2; have K3 := Lib.hid k3; have HS5 := Lib.hid hs5; clear hm5 hq5 ho5 k1 k2 k3 hs5; simp only [Act.put, sia, scs, scz])
   | (apply Bny.E_pureq rfl rfl rfl
      case h => intro K hK; go_big_quiet_op; (refine hK _ ?_; rfl)
      case hr => exact fun _ => rfl
      simp only [Act.put, sia, scs, scz])
   | (apply Bny.E_val rfl rfl rfl rfl
      case h =>
        intro E' hA K hK
        first
          | ((with_reducible refine Bny.at_qload (T := 26) ?_); refine Bny.q_ldp 1000 (o := 23) hA (by decide) rfl rfl 1 _ Tryz.underlying26 rfl infoM (by decide) (by show 23 + 1 ≤ 24; decide) #[.slice (some ⟨vb3, 0, none⟩) 1700 vc3] rfl ?_; refine hK _ ?_; rfl)
          | ((with_reducible refine Bny.at_qload (T := 30) ?_); refine Bny.q_ldp 1000 (o := 0) hA (by decide) rfl rfl 6 _ Tryz.underlying30 rfl infoQ (by decide) (by show 0 + 6 ≤ 24; decide) #[.int .i64 0, .int .i64 16, .slice fa fn fc, .int .u16 av, .int .u16 la, .slice ca cn cc] rfl ?_; refine hK _ ?_; rfl)
          | (go_big_quiet_op; first
            | (refine hK _ ?_; rfl)
            | (refine ⟨_, fun _ _ => rfl, ?_⟩; refine hK _ ?_; rfl)
            | (apply Exists.intro; refine ⟨fun w1 hw1 => ?_, ?_⟩; · (first
                | fail)
               refine hK _ ?_; rfl))
      case hD => rfl
      simp only [Act.put, sia, scs, scz]))
 try any_goals exact undef
 refine Bny.E_nil ?_
 intro w9 hE9
 replace hv : Mem w0 w9 ([(b_21, #[.slice (some ⟨vb5, 0, none⟩) 1700 vc5]), (b_22, #[.int .i64 0, .int .i64 16, .slice fa5 nf1 fc5, .int .u16 av1, .int .u16 la, .slice ca5 nc1 cc5]), (b_34, #[.int .i64 0, .int .i64 16, .slice fa fn fc, .int .u16 av, .int .u16 la, .slice ca cn cc, .int .i64 (A0 : Nat), .bool b0, .int .i64 h0, .bool f0, .int .i64 s0, .bool b1, .int .i64 h1, .bool f1, .int .i64 s1, .bool b2, .int .i64 h2, .bool f2, .int .i64 s2, .bool b3, .int .i64 h3, .bool f3, .int .i64 s3, .slice (some ⟨vb3, 0, none⟩) 1700 vc3]), (b_11, #[.int .i64 0, .int .i64 0, .slice none 0 0, .int .u16 0, .int .u16 0, .slice none 0 0, .int .i64 0, .bool false, .int .i64 0, .bool false, .int .i64 0, .bool false, .int .i64 0, .bool false, .int .i64 0, .bool false, .int .i64 0, .bool false, .int .i64 0, .bool false, .int .i64 0, .bool false, .int .i64 0]), (b_10, #[.slice none 0 0]), (b_6, #[.int .i64 0, .int .i64 16, .slice fa fn fc, .int .u16 av, .int .u16 la, .slice ca cn cc, .int .i64 (A0 : Nat), .bool b0, .int .i64 h0, .bool f0, .int .i64 s0, .bool b1, .int .i64 h1, .bool f1, .int .i64 s1, .bool b2, .int .i64 h2, .bool f2, .int .i64 s2, .bool b3, .int .i64 h3, .bool f3, .int .i64 s3]), (b_5, #[.slice (some ⟨mb, 0, none⟩) 1700 mc])] ++ L) R5 := hE9.mem1 [16, 17, 1000, 1001, 1002, 1003, 1004] (by decide) 10 rfl
 clear hE9
 simp only [List.cons_append, List.nil_append] at hv
 go_wp2_with (first
   | ((with_reducible refine at_load (T := 30) ?_); refine wl_ldv rfl b_22 rfl _ hv.vars.ro 6 _ Tryz.underlying30 rfl infoQ (by decide) rfl ?_)
   | ((with_reducible refine at_store (T := 30) ?_); refine wl_stp rfl b_34 0 rfl _ rfl _ hv.vars.ro hv.vars.so 6 infoQ rfl (by show 0 + 6 ≤ 24; decide) (by simp [Value.oneCell']) #[.int .i64 0, .int .i64 16, .slice fa5 nf1 fc5, .int .u16 av1, .int .u16 la, .slice ca5 nc1 cc5, .int .i64 (A0 : Nat), .bool b0, .int .i64 h0, .bool f0, .int .i64 s0, .bool b1, .int .i64 h1, .bool f1, .int .i64 s1, .bool b2, .int .i64 h2, .bool f2, .int .i64 s2, .bool b3, .int .i64 h3, .bool f3, .int .i64 s3, .slice (some ⟨vb3, 0, none⟩) 1700 vc3] (splice_24_0_6 _ _ _ _ _ _ _ _ _ _ _ _ _ _ _ _ _ _ _ _ _ _ _ _ _ _ _ _ _ _) ?_; intro w2 hw2; replace hv := hv.sets (by repeat first | exact .z | apply SetM.s) hw2; clear hw2)
   | ((with_reducible refine at_build (T := 55) ?_); refine wl_build rfl _ rfl (built_rq _ _ _) ?_)
   | ((with_reducible refine at_store (T := 55) ?_); refine wl_stp rfl b_34 19 rfl _ rfl _ hv.vars.ro hv.vars.so 4 infoRq4 rfl (by show 19 + 4 ≤ 24; decide) (by simp [Value.oneCell']) #[.int .i64 0, .int .i64 16, .slice fa5 nf1 fc5, .int .u16 av1, .int .u16 la, .slice ca5 nc1 cc5, .int .i64 (A0 : Nat), .bool b0, .int .i64 h0, .bool f0, .int .i64 s0, .bool b1, .int .i64 h1, .bool f1, .int .i64 s1, .bool b2, .int .i64 h2, .bool f2, .int .i64 s2, .bool true, .int .i64 hd, .bool false, .int .i64 s_, .slice (some ⟨vb3, 0, none⟩) 1700 vc3] (splice_24_19_4 _ _ _ _ _ _ _ _ _ _ _ _ _ _ _ _ _ _ _ _ _ _ _ _ _ _ _ _) ?_; intro w2 hw2; replace hv := hv.sets (by repeat first | exact .z | apply SetM.s) hw2; clear hw2))
 replace hv : Mem w0 _ ([(b_21, _), (b_22, _), (b_34, _), (b_11, _), (b_10, _), (b_6, _), (b_5, _)] ++ L) R5 := hv
 try simp only [Act.put]
 refine Bny.wp_region_walk _ _ [⟨[1000], none⟩, ⟨[], none⟩, ⟨[], none⟩, ⟨[], none⟩, ⟨[1002], none⟩, ⟨[], none⟩, ⟨[1004], some 1004⟩, ⟨[1003], some 1003⟩, ⟨[], none⟩, ⟨[], none⟩] [.val, .val, .val, .val, .val, .val, .put, .put, .val, .val] (by kernel_rfl) (by kernel_rfl) hv ?_
 simp only [List.length_cons, List.length_nil, Nat.zero_add, Any.someVals]
 iterate 10 apply Exists.intro
 repeat (first
   | (refine Bny.E_off rfl ?_; simp only [Act.put, sia, scs, scz])
   | ((with_reducible refine Bny.at_estore (T := 26) ?_); refine Bny.E_putv (T := 26) rfl rfl rfl rfl rfl rfl 1 infoM rfl rfl (by simp [Value.oneCell']) ?_; simp only [Act.put, sia, scs, scz])
   | ((with_reducible refine Bny.at_estore (T := 58) ?_); refine Bny.E_putv (T := 58) rfl rfl rfl rfl rfl rfl 23 infoBk23 rfl rfl (by simp [Value.oneCell']) ?_; simp only [Act.put, sia, scs, scz])
   | (apply Bny.E_pureq rfl rfl rfl
      case h => intro K hK; go_big_quiet_op; (refine hK _ ?_; rfl)
      case hr => exact fun _ => rfl
      simp only [Act.put, sia, scs, scz])
   | (apply Bny.E_val rfl rfl rfl rfl
      case h =>
        intro E' hA K hK
        first
          | ((with_reducible refine Bny.at_qload (T := 26) ?_); refine Bny.q_ldv 1000 hA (by decide) rfl rfl 1 _ Tryz.underlying26 rfl infoM (by decide) rfl ?_; refine hK _ ?_; rfl)
          | ((with_reducible refine Bny.at_qload (T := 58) ?_); refine Bny.q_ldp 1002 (o := 0) hA (by decide) rfl rfl 23 _ Tryz.underlying58 rfl infoBk23 (by decide) (by show 0 + 23 ≤ 24; decide) #[.int .i64 0, .int .i64 16, .slice fa5 nf1 fc5, .int .u16 av1, .int .u16 la, .slice ca5 nc1 cc5, .int .i64 (A0 : Nat), .bool b0, .int .i64 h0, .bool f0, .int .i64 s0, .bool b1, .int .i64 h1, .bool f1, .int .i64 s1, .bool b2, .int .i64 h2, .bool f2, .int .i64 s2, .bool true, .int .i64 hd, .bool false, .int .i64 s_] (ext24 _ _ _ _ _ _ _ _ _ _ _ _ _ _ _ _ _ _ _ _ _ _ _ _) ?_; refine hK _ ?_; rfl)
          | (go_big_quiet_op; first
            | (refine hK _ ?_; rfl)
            | (refine ⟨_, fun _ _ => rfl, ?_⟩; refine hK _ ?_; rfl)
            | (apply Exists.intro; refine ⟨fun w1 hw1 => ?_, ?_⟩; · (first
                | fail)
               refine hK _ ?_; rfl))
      case hD => rfl
      simp only [Act.put, sia, scs, scz]))
 try any_goals exact undef
 refine Bny.E_nil ?_
 intro w9 hE9
 replace hv : Mem w0 w9 ([(b_21, #[.slice (some ⟨vb5, 0, none⟩) 1700 vc5]), (b_22, #[.int .i64 0, .int .i64 16, .slice fa5 nf1 fc5, .int .u16 av1, .int .u16 la, .slice ca5 nc1 cc5]), (b_34, #[.int .i64 0, .int .i64 16, .slice fa5 nf1 fc5, .int .u16 av1, .int .u16 la, .slice ca5 nc1 cc5, .int .i64 (A0 : Nat), .bool b0, .int .i64 h0, .bool f0, .int .i64 s0, .bool b1, .int .i64 h1, .bool f1, .int .i64 s1, .bool b2, .int .i64 h2, .bool f2, .int .i64 s2, .bool true, .int .i64 hd, .bool false, .int .i64 s_, .slice (some ⟨vb3, 0, none⟩) 1700 vc3]), (b_11, #[.int .i64 0, .int .i64 16, .slice fa5 nf1 fc5, .int .u16 av1, .int .u16 la, .slice ca5 nc1 cc5, .int .i64 (A0 : Nat), .bool b0, .int .i64 h0, .bool f0, .int .i64 s0, .bool b1, .int .i64 h1, .bool f1, .int .i64 s1, .bool b2, .int .i64 h2, .bool f2, .int .i64 s2, .bool true, .int .i64 hd, .bool false, .int .i64 s_]), (b_10, #[.slice (some ⟨vb5, 0, none⟩) 1700 vc5]), (b_6, #[.int .i64 0, .int .i64 16, .slice fa fn fc, .int .u16 av, .int .u16 la, .slice ca cn cc, .int .i64 (A0 : Nat), .bool b0, .int .i64 h0, .bool f0, .int .i64 s0, .bool b1, .int .i64 h1, .bool f1, .int .i64 s1, .bool b2, .int .i64 h2, .bool f2, .int .i64 s2, .bool b3, .int .i64 h3, .bool f3, .int .i64 s3]), (b_5, #[.slice (some ⟨mb, 0, none⟩) 1700 mc])] ++ L) R5 := hE9.mem0 [1000, 1001, 1002, 1003, 1004, 1005, 1006] (by decide)
 clear hE9
 simp only [List.cons_append, List.nil_append] at hv
 go_wp2
 try simp only [Exit.inBlock, Exit.then]
 refine ret_cctt (v := .agg #[.slice (some ⟨vb5, 0, none⟩) 1700 vc5]) (v' := .agg #[.int .i64 0, .int .i64 16, .slice fa5 nf1 fc5, .int .u16 av1, .int .u16 la, .slice ca5 nc1 cc5, .int .i64 (A0 : Nat), .bool b0, .int .i64 h0, .bool f0, .int .i64 s0, .bool b1, .int .i64 h1, .bool f1, .int .i64 s1, .bool b2, .int .i64 h2, .bool f2, .int .i64 s2, .bool true, .int .i64 hd, .bool false, .int .i64 s_]) (v1 := .int .i64 3) (v2 := .int .i64 0) rfl rfl rfl (read_row _ b_10 26 _ (hv.vars.ro (b := b_10)) 1 _ Tryz.underlying26 rfl infoM (by decide) rfl) (read_row _ b_11 58 _ (hv.vars.ro (b := b_11)) 23 _ Tryz.underlying58 rfl infoBk23 (by decide) rfl) rfl rfl rfl ?_
 exact ⟨vb5, vc5, fa5, fc5, ca5, cc5, c5, R5, rfl, hv.keep (by exact List.sublist_append_right [_, _, _, _, _, _, _] L), HM5.out, HQ5.out, HO5.out, K1.out, K2.out, K3.out, fun x hx => HS5.out x (HS4.out x (HS3.out x hx))⟩
end Go.Proofs.YtjmibgomkgkhnaaGreat
end

section
/-
 A disk's driver (layer 9): a new one; a sector is to be written, all is to be flushed.
-/
namespace Go.Proofs.YtjmibgomkgkhnaaGreat
open Go.Proofs.Qu Go.Proofs.Nm Go.RowKit Go.Proofs
theorem askB_0 {w0 w : World} {L : List (Nat × Array Value)} {R : List (Nat × Value × List Value)} (hv : Mem w0 w L R) {av la fn fc cn cc : Nat} {fa ca : Option Addr} {free : List Nat} {chs : List Chn} {b0 b1 b2 b3 f0 f1 f2 f3 : Bool} {h0 h1 h2 h3 s0 s1 s2 s3 : Nat} {mb mc nf1 nc1 av1 hd b7 db do_ dc s_ p pd ps : Nat} {M D : List Nat} (hm : InM R mb 0 1700 mc M) (hq : BlkQ R (.slice fa fn fc) (.slice ca cn cc) free chs [(b0, h0, f0, (s0 : Int)), (b1, h1, f1, (s1 : Int)), (b2, h2, f2, (s2 : Int)), (b3, h3, f3, (s3 : Int))]) (hp : 500 + 0 = p) (hpd : p + 16 = pd) (hps : p + 272 = ps) (hix : idxF (fun r : Rq => !r.1) [(b0, h0, f0, (s0 : Int)), (b1, h1, f1, (s1 : Int)), (b2, h2, f2, (s2 : Int)), (b3, h3, f3, (s3 : Int))] = 0) (hs : s_ < 256) (hav : av < 65535) (hav1 : av + 1 = av1) (g0 : fn = nf1 + 3) (g1 : cn + 1 = nc1) (hh : free.getD 0 0 = hd)
   (h7 : (b7, #[.slice (some ⟨db, do_, none⟩) 256 dc]) ∈ L) (hdr : (1, .slice (some ⟨db, do_, none⟩) 256 dc, cellsB D) ∈ R) (hg : goodB D) :
   Calls Tryz.prog 41 #[.agg #[.slice (some ⟨mb, 0, none⟩) 1700 mc], .agg #[.int .i64 0, .int .i64 16, .slice fa fn fc, .int .u16 av, .int .u16 la, .slice ca cn cc, .int .i64 500, .bool b0, .int .i64 h0, .bool f0, .int .i64 s0, .bool b1, .int .i64 h1, .bool f1, .int .i64 s1, .bool b2, .int .i64 h2, .bool f2, .int .i64 s2, .bool b3, .int .i64 h3, .bool f3, .int .i64 s3], .int .i64 1, .int .i64 s_, .func (.func 42) #[] #[.pointer (some ⟨b7, 0, none⟩)]] w fun e w' => ∃ vb5 vc5 fa5 fc5 ca5 cc5 c5 R5, e = .returned (.tuple #[.agg #[.slice (some ⟨vb5, 0, none⟩) 1700 vc5], .agg #[.int .i64 0, .int .i64 16, .slice fa5 nf1 fc5, .int .u16 av1, .int .u16 la, .slice ca5 nc1 cc5, .int .i64 500, .bool true, .int .i64 hd, .bool false, .int .i64 s_, .bool b1, .int .i64 h1, .bool f1, .int .i64 s1, .bool b2, .int .i64 h2, .bool f2, .int .i64 s2, .bool b3, .int .i64 h3, .bool f3, .int .i64 s3], .int .i64 0, .int .i64 0]) ∧ Mem w0 w' L R5 ∧ InM R5 vb5 0 1700 vc5 (addM (askM M p 1 s_ D) 0 16 av free [(p, 16, false), (pd, 256, false), (ps, 1, true)]) ∧ InQ R5 (.slice fa5 nf1 fc5) (.slice ca5 nc1 cc5) (free.drop 3) (chs ++ [c5]) ∧ OkQ 16 (free.drop 3) (chs ++ [c5]) ∧ c5.h = hd ∧ c5.ds = free.take 3 ∧ c5.rm = 1 ∧ ∀ x ∈ R, x ∈ R5 := askW_0 (A0 := 500) (kind := 1) hv hm hq rfl hp hpd hps hix rfl hs hav hav1 g0 g1 hh h7 hdr hg
theorem askB_1 {w0 w : World} {L : List (Nat × Array Value)} {R : List (Nat × Value × List Value)} (hv : Mem w0 w L R) {av la fn fc cn cc : Nat} {fa ca : Option Addr} {free : List Nat} {chs : List Chn} {b0 b1 b2 b3 f0 f1 f2 f3 : Bool} {h0 h1 h2 h3 s0 s1 s2 s3 : Nat} {mb mc nf1 nc1 av1 hd b7 db do_ dc s_ p pd ps : Nat} {M D : List Nat} (hm : InM R mb 0 1700 mc M) (hq : BlkQ R (.slice fa fn fc) (.slice ca cn cc) free chs [(b0, h0, f0, (s0 : Int)), (b1, h1, f1, (s1 : Int)), (b2, h2, f2, (s2 : Int)), (b3, h3, f3, (s3 : Int))]) (hp : 500 + 288 = p) (hpd : p + 16 = pd) (hps : p + 272 = ps) (hix : idxF (fun r : Rq => !r.1) [(b0, h0, f0, (s0 : Int)), (b1, h1, f1, (s1 : Int)), (b2, h2, f2, (s2 : Int)), (b3, h3, f3, (s3 : Int))] = 1) (hs : s_ < 256) (hav : av < 65535) (hav1 : av + 1 = av1) (g0 : fn = nf1 + 3) (g1 : cn + 1 = nc1) (hh : free.getD 0 0 = hd)
   (h7 : (b7, #[.slice (some ⟨db, do_, none⟩) 256 dc]) ∈ L) (hdr : (1, .slice (some ⟨db, do_, none⟩) 256 dc, cellsB D) ∈ R) (hg : goodB D) :
   Calls Tryz.prog 41 #[.agg #[.slice (some ⟨mb, 0, none⟩) 1700 mc], .agg #[.int .i64 0, .int .i64 16, .slice fa fn fc, .int .u16 av, .int .u16 la, .slice ca cn cc, .int .i64 500, .bool b0, .int .i64 h0, .bool f0, .int .i64 s0, .bool b1, .int .i64 h1, .bool f1, .int .i64 s1, .bool b2, .int .i64 h2, .bool f2, .int .i64 s2, .bool b3, .int .i64 h3, .bool f3, .int .i64 s3], .int .i64 1, .int .i64 s_, .func (.func 42) #[] #[.pointer (some ⟨b7, 0, none⟩)]] w fun e w' => ∃ vb5 vc5 fa5 fc5 ca5 cc5 c5 R5, e = .returned (.tuple #[.agg #[.slice (some ⟨vb5, 0, none⟩) 1700 vc5], .agg #[.int .i64 0, .int .i64 16, .slice fa5 nf1 fc5, .int .u16 av1, .int .u16 la, .slice ca5 nc1 cc5, .int .i64 500, .bool b0, .int .i64 h0, .bool f0, .int .i64 s0, .bool true, .int .i64 hd, .bool false, .int .i64 s_, .bool b2, .int .i64 h2, .bool f2, .int .i64 s2, .bool b3, .int .i64 h3, .bool f3, .int .i64 s3], .int .i64 1, .int .i64 0]) ∧ Mem w0 w' L R5 ∧ InM R5 vb5 0 1700 vc5 (addM (askM M p 1 s_ D) 0 16 av free [(p, 16, false), (pd, 256, false), (ps, 1, true)]) ∧ InQ R5 (.slice fa5 nf1 fc5) (.slice ca5 nc1 cc5) (free.drop 3) (chs ++ [c5]) ∧ OkQ 16 (free.drop 3) (chs ++ [c5]) ∧ c5.h = hd ∧ c5.ds = free.take 3 ∧ c5.rm = 1 ∧ ∀ x ∈ R, x ∈ R5 := askW_1 (A0 := 500) (kind := 1) hv hm hq rfl hp hpd hps hix rfl hs hav hav1 g0 g1 hh h7 hdr hg
theorem askB_2 {w0 w : World} {L : List (Nat × Array Value)} {R : List (Nat × Value × List Value)} (hv : Mem w0 w L R) {av la fn fc cn cc : Nat} {fa ca : Option Addr} {free : List Nat} {chs : List Chn} {b0 b1 b2 b3 f0 f1 f2 f3 : Bool} {h0 h1 h2 h3 s0 s1 s2 s3 : Nat} {mb mc nf1 nc1 av1 hd b7 db do_ dc s_ p pd ps : Nat} {M D : List Nat} (hm : InM R mb 0 1700 mc M) (hq : BlkQ R (.slice fa fn fc) (.slice ca cn cc) free chs [(b0, h0, f0, (s0 : Int)), (b1, h1, f1, (s1 : Int)), (b2, h2, f2, (s2 : Int)), (b3, h3, f3, (s3 : Int))]) (hp : 500 + 576 = p) (hpd : p + 16 = pd) (hps : p + 272 = ps) (hix : idxF (fun r : Rq => !r.1) [(b0, h0, f0, (s0 : Int)), (b1, h1, f1, (s1 : Int)), (b2, h2, f2, (s2 : Int)), (b3, h3, f3, (s3 : Int))] = 2) (hs : s_ < 256) (hav : av < 65535) (hav1 : av + 1 = av1) (g0 : fn = nf1 + 3) (g1 : cn + 1 = nc1) (hh : free.getD 0 0 = hd)
   (h7 : (b7, #[.slice (some ⟨db, do_, none⟩) 256 dc]) ∈ L) (hdr : (1, .slice (some ⟨db, do_, none⟩) 256 dc, cellsB D) ∈ R) (hg : goodB D) :
   Calls Tryz.prog 41 #[.agg #[.slice (some ⟨mb, 0, none⟩) 1700 mc], .agg #[.int .i64 0, .int .i64 16, .slice fa fn fc, .int .u16 av, .int .u16 la, .slice ca cn cc, .int .i64 500, .bool b0, .int .i64 h0, .bool f0, .int .i64 s0, .bool b1, .int .i64 h1, .bool f1, .int .i64 s1, .bool b2, .int .i64 h2, .bool f2, .int .i64 s2, .bool b3, .int .i64 h3, .bool f3, .int .i64 s3], .int .i64 1, .int .i64 s_, .func (.func 42) #[] #[.pointer (some ⟨b7, 0, none⟩)]] w fun e w' => ∃ vb5 vc5 fa5 fc5 ca5 cc5 c5 R5, e = .returned (.tuple #[.agg #[.slice (some ⟨vb5, 0, none⟩) 1700 vc5], .agg #[.int .i64 0, .int .i64 16, .slice fa5 nf1 fc5, .int .u16 av1, .int .u16 la, .slice ca5 nc1 cc5, .int .i64 500, .bool b0, .int .i64 h0, .bool f0, .int .i64 s0, .bool b1, .int .i64 h1, .bool f1, .int .i64 s1, .bool true, .int .i64 hd, .bool false, .int .i64 s_, .bool b3, .int .i64 h3, .bool f3, .int .i64 s3], .int .i64 2, .int .i64 0]) ∧ Mem w0 w' L R5 ∧ InM R5 vb5 0 1700 vc5 (addM (askM M p 1 s_ D) 0 16 av free [(p, 16, false), (pd, 256, false), (ps, 1, true)]) ∧ InQ R5 (.slice fa5 nf1 fc5) (.slice ca5 nc1 cc5) (free.drop 3) (chs ++ [c5]) ∧ OkQ 16 (free.drop 3) (chs ++ [c5]) ∧ c5.h = hd ∧ c5.ds = free.take 3 ∧ c5.rm = 1 ∧ ∀ x ∈ R, x ∈ R5 := askW_2 (A0 := 500) (kind := 1) hv hm hq rfl hp hpd hps hix rfl hs hav hav1 g0 g1 hh h7 hdr hg
theorem askB_3 {w0 w : World} {L : List (Nat × Array Value)} {R : List (Nat × Value × List Value)} (hv : Mem w0 w L R) {av la fn fc cn cc : Nat} {fa ca : Option Addr} {free : List Nat} {chs : List Chn} {b0 b1 b2 b3 f0 f1 f2 f3 : Bool} {h0 h1 h2 h3 s0 s1 s2 s3 : Nat} {mb mc nf1 nc1 av1 hd b7 db do_ dc s_ p pd ps : Nat} {M D : List Nat} (hm : InM R mb 0 1700 mc M) (hq : BlkQ R (.slice fa fn fc) (.slice ca cn cc) free chs [(b0, h0, f0, (s0 : Int)), (b1, h1, f1, (s1 : Int)), (b2, h2, f2, (s2 : Int)), (b3, h3, f3, (s3 : Int))]) (hp : 500 + 864 = p) (hpd : p + 16 = pd) (hps : p + 272 = ps) (hix : idxF (fun r : Rq => !r.1) [(b0, h0, f0, (s0 : Int)), (b1, h1, f1, (s1 : Int)), (b2, h2, f2, (s2 : Int)), (b3, h3, f3, (s3 : Int))] = 3) (hs : s_ < 256) (hav : av < 65535) (hav1 : av + 1 = av1) (g0 : fn = nf1 + 3) (g1 : cn + 1 = nc1) (hh : free.getD 0 0 = hd)
   (h7 : (b7, #[.slice (some ⟨db, do_, none⟩) 256 dc]) ∈ L) (hdr : (1, .slice (some ⟨db, do_, none⟩) 256 dc, cellsB D) ∈ R) (hg : goodB D) :
   Calls Tryz.prog 41 #[.agg #[.slice (some ⟨mb, 0, none⟩) 1700 mc], .agg #[.int .i64 0, .int .i64 16, .slice fa fn fc, .int .u16 av, .int .u16 la, .slice ca cn cc, .int .i64 500, .bool b0, .int .i64 h0, .bool f0, .int .i64 s0, .bool b1, .int .i64 h1, .bool f1, .int .i64 s1, .bool b2, .int .i64 h2, .bool f2, .int .i64 s2, .bool b3, .int .i64 h3, .bool f3, .int .i64 s3], .int .i64 1, .int .i64 s_, .func (.func 42) #[] #[.pointer (some ⟨b7, 0, none⟩)]] w fun e w' => ∃ vb5 vc5 fa5 fc5 ca5 cc5 c5 R5, e = .returned (.tuple #[.agg #[.slice (some ⟨vb5, 0, none⟩) 1700 vc5], .agg #[.int .i64 0, .int .i64 16, .slice fa5 nf1 fc5, .int .u16 av1, .int .u16 la, .slice ca5 nc1 cc5, .int .i64 500, .bool b0, .int .i64 h0, .bool f0, .int .i64 s0, .bool b1, .int .i64 h1, .bool f1, .int .i64 s1, .bool b2, .int .i64 h2, .bool f2, .int .i64 s2, .bool true, .int .i64 hd, .bool false, .int .i64 s_], .int .i64 3, .int .i64 0]) ∧ Mem w0 w' L R5 ∧ InM R5 vb5 0 1700 vc5 (addM (askM M p 1 s_ D) 0 16 av free [(p, 16, false), (pd, 256, false), (ps, 1, true)]) ∧ InQ R5 (.slice fa5 nf1 fc5) (.slice ca5 nc1 cc5) (free.drop 3) (chs ++ [c5]) ∧ OkQ 16 (free.drop 3) (chs ++ [c5]) ∧ c5.h = hd ∧ c5.ds = free.take 3 ∧ c5.rm = 1 ∧ ∀ x ∈ R, x ∈ R5 := askW_3 (A0 := 500) (kind := 1) hv hm hq rfl hp hpd hps hix rfl hs hav hav1 g0 g1 hh h7 hdr hg
theorem askG_1 {w0 w : World} {L : List (Nat × Array Value)} {R : List (Nat × Value × List Value)} (hv : Mem w0 w L R) {av la fn fc cn cc : Nat} {fa ca : Option Addr} {free : List Nat} {chs : List Chn} {b0 b1 b2 b3 f0 f1 f2 f3 : Bool} {h0 h1 h2 h3 s0 s1 s2 s3 : Nat} {mb mc nf1 nc1 av1 hd s_ p ps : Nat} {M : List Nat} (hm : InM R mb 0 1700 mc M) (hq : BlkQ R (.slice fa fn fc) (.slice ca cn cc) free chs [(b0, h0, f0, (s0 : Int)), (b1, h1, f1, (s1 : Int)), (b2, h2, f2, (s2 : Int)), (b3, h3, f3, (s3 : Int))]) (hp : 500 + 288 = p) (hps : p + 272 = ps) (hix : idxF (fun r : Rq => !r.1) [(b0, h0, f0, (s0 : Int)), (b1, h1, f1, (s1 : Int)), (b2, h2, f2, (s2 : Int)), (b3, h3, f3, (s3 : Int))] = 1) {si : Int} (hsi : si = (s_ : Nat)) (hs : s_ < 256) (hav : av < 65535) (hav1 : av + 1 = av1) (g0 : fn = nf1 + 2) (g1 : cn + 1 = nc1) (hh : free.getD 0 0 = hd) :
   Calls Tryz.prog 41 #[.agg #[.slice (some ⟨mb, 0, none⟩) 1700 mc], .agg #[.int .i64 0, .int .i64 16, .slice fa fn fc, .int .u16 av, .int .u16 la, .slice ca cn cc, .int .i64 500, .bool b0, .int .i64 h0, .bool f0, .int .i64 s0, .bool b1, .int .i64 h1, .bool f1, .int .i64 s1, .bool b2, .int .i64 h2, .bool f2, .int .i64 s2, .bool b3, .int .i64 h3, .bool f3, .int .i64 s3], .int .i64 4, .int .i64 si, .func (.func 74) #[] #[]] w fun e w' => ∃ vb5 vc5 fa5 fc5 ca5 cc5 c5 R5, e = .returned (.tuple #[.agg #[.slice (some ⟨vb5, 0, none⟩) 1700 vc5], .agg #[.int .i64 0, .int .i64 16, .slice fa5 nf1 fc5, .int .u16 av1, .int .u16 la, .slice ca5 nc1 cc5, .int .i64 500, .bool b0, .int .i64 h0, .bool f0, .int .i64 s0, .bool true, .int .i64 hd, .bool true, .int .i64 s_, .bool b2, .int .i64 h2, .bool f2, .int .i64 s2, .bool b3, .int .i64 h3, .bool f3, .int .i64 s3], .int .i64 1, .int .i64 0]) ∧ Mem w0 w' L R5 ∧ InM R5 vb5 0 1700 vc5 (addM (askF M p 4 s_) 0 16 av free [(p, 16, false), (ps, 1, true)]) ∧ InQ R5 (.slice fa5 nf1 fc5) (.slice ca5 nc1 cc5) (free.drop 2) (chs ++ [c5]) ∧ OkQ 16 (free.drop 2) (chs ++ [c5]) ∧ c5.h = hd ∧ c5.ds = free.take 2 ∧ c5.rm = 1 ∧ ∀ x ∈ R, x ∈ R5 := by
 subst hsi
 exact askF_1 (A0 := 500) (kind := 4) hv hm hq rfl hp hps hix rfl hs hav hav1 g0 g1 hh
theorem Write_gen {w0 w : World} {L : List (Nat × Array Value)} {R : List (Nat × Value × List Value)} (hv : Mem w0 w L R) {mb mc db do_ dc s_ : Nat} {ro : Array Value} {ron : Option Addr → Nat → Option Addr → Nat → Array Value} {j : Int} {K : Nat → Nat → Option Addr → Nat → Option Addr → Nat → Chn → List (Nat × Value × List Value) → Prop} (hsz : ro.size = 23) (hra : ro.all (·.oneCell') = true) (hsn : ∀ fa5 fc5 ca5 cc5, (ron fa5 fc5 ca5 cc5).size = 23) (hsa : ∀ fa5 fc5 ca5 cc5, (ron fa5 fc5 ca5 cc5).all (·.oneCell') = true) (hs : s_ < 256)
   (hck : ∀ w1 L1, Mem w0 w1 L1 R → Calls Tryz.prog 25 #[.agg ro] w1 fun e w' => e = .returned (.bool true) ∧ New w1 w')
   (hask : ∀ w1 L1 b7, Mem w0 w1 L1 R → (b7, #[.slice (some ⟨db, do_, none⟩) 256 dc]) ∈ L1 → Calls Tryz.prog 41 #[.agg #[.slice (some ⟨mb, 0, none⟩) 1700 mc], .agg ro, .int .i64 1, .int .i64 s_, .func (.func 42) #[] #[.pointer (some ⟨b7, 0, none⟩)]] w1 fun e w' => ∃ vb5 vc5 fa5 fc5 ca5 cc5 c5 R5, e = .returned (.tuple #[.agg #[.slice (some ⟨vb5, 0, none⟩) 1700 vc5], .agg (ron fa5 fc5 ca5 cc5), .int .i64 j, .int .i64 0]) ∧ Mem w0 w' L1 R5 ∧ K vb5 vc5 fa5 fc5 ca5 cc5 c5 R5) :
   Calls Tryz.prog 20 #[.agg #[.slice (some ⟨mb, 0, none⟩) 1700 mc], .agg ro, .int .i64 s_, .slice (some ⟨db, do_, none⟩) 256 dc] w fun e w' => ∃ vb5 vc5 fa5 fc5 ca5 cc5 c5 R5, e = .returned (.tuple #[.agg #[.slice (some ⟨vb5, 0, none⟩) 1700 vc5], .agg (ron fa5 fc5 ca5 cc5), .int .i64 j, .int .i64 0]) ∧ Mem w0 w' L R5 ∧ K vb5 vc5 fa5 fc5 ca5 cc5 c5 R5 := by
 have HSZ := Lib.hid hsz
 have HRA := Lib.hid hra
 have HSN := Lib.hid hsn
 have HSA := Lib.hid hsa
 have HCK := Lib.hid hck
 have HAK := Lib.hid hask
 have y1 : decide ((s_ : Int) < 0) = false := decide_eq_false (by omega)
 have y2 : decide ((s_ : Int) ≥ 256) = false := decide_eq_false (by omega)
 have y3 : ¬ ((256 : Int) ≤ (s_ : Int)) := by omega
 clear hsz hra hsn hsa hs hck hask
 go_enter Tryz.func20, Tryz.ntmps20
 go_wp2_with (first
   | ((with_reducible refine at_box (T := 26) (dst := some 4) ?_); refine wl_newb rfl #[.slice (some ⟨mb, 0, none⟩) 1700 mc] 26 (fun _ => rfl) ?_; intro b_4 w2 hm2; replace hv := hv.madeAt hm2; clear hm2)
   | ((with_reducible refine at_box (T := 58) (dst := some 5) ?_); refine wl_newb rfl ro 58 (fun _ => rfl) ?_; intro b_5 w2 hm2; replace hv := hv.madeAt hm2; clear hm2)
   | ((with_reducible refine at_box (T := 24) (dst := some 7) ?_); refine wl_newb rfl #[.slice (some ⟨db, do_, none⟩) 256 dc] 24 (fun _ => rfl) ?_; intro b_7 w2 hm2; replace hv := hv.madeAt hm2; clear hm2)
   | ((with_reducible refine at_load (T := 24) ?_); refine wl_ldc rfl b_7 0 rfl _ hv.vars.ro _ Tryz.underlying24 rfl (.slice (some ⟨db, do_, none⟩) 256 dc) rfl ?_)
   | ((with_reducible refine at_alloc (T := 26) (dst := some 8) ?_); refine wl_newb rfl #[.slice none 0 0] 26 (fun _ => rfl) ?_; intro b_8 w2 hm2; replace hv := hv.madeAt hm2; clear hm2)
   | ((with_reducible refine at_alloc (T := 58) (dst := some 9) ?_); refine wl_newb rfl #[.int .i64 0, .int .i64 0, .slice none 0 0, .int .u16 0, .int .u16 0, .slice none 0 0, .int .i64 0, .bool false, .int .i64 0, .bool false, .int .i64 0, .bool false, .int .i64 0, .bool false, .int .i64 0, .bool false, .int .i64 0, .bool false, .int .i64 0, .bool false, .int .i64 0, .bool false, .int .i64 0] 58 (fun _ => rfl) ?_; intro b_9 w2 hm2; replace hv := hv.madeAt hm2; clear hm2)
   | ((with_reducible refine at_load (T := 58) ?_); refine wl_ldv rfl b_5 rfl _ hv.vars.ro 23 _ Tryz.underlying58 rfl infoBk23 (by decide) HSZ.out ?_)
   | ((with_reducible refine at_load (T := 26) ?_); refine wl_ldv rfl b_4 rfl _ hv.vars.ro 1 _ Tryz.underlying26 rfl infoM (by decide) rfl ?_)
   | (go_at_call 25; (refine (HCK.out _ _ hv).mono ?_); rintro e w1 ⟨rfl, hn1⟩; replace hv := hv.new hn1; clear hn1)
   | (go_at_call 41; (refine (HAK.out _ _ b_7 hv (by repeat first | exact mz | apply ms)).mono ?_); rintro e w1 ⟨vb5, vc5, fa5, fc5, ca5, cc5, c5, R5, rfl, hv1, e1⟩; replace hv := hv1; clear hv1; have E1 := Lib.hid e1; clear e1)
   | ((with_reducible refine at_store (T := 26) ?_); refine wl_stv rfl b_8 rfl _ rfl _ hv.vars.ro hv.vars.so 1 infoM rfl rfl (by simp [Value.oneCell']) ?_; intro w2 hw2; replace hv := hv.sets (by repeat first | exact .z | apply SetM.s) hw2; clear hw2)
   | ((with_reducible refine at_store (T := 58) ?_); refine wl_stv rfl b_9 rfl _ rfl _ hv.vars.ro hv.vars.so 23 infoBk23 (HSN.out _ _ _ _) rfl (HSA.out _ _ _ _) ?_; intro w2 hw2; replace hv := hv.sets (by repeat first | exact .z | apply SetM.s) hw2; clear hw2))
 try simp only [Exit.inBlock, Exit.then]
 refine ret_cctt (v := .agg #[.slice (some ⟨vb5, 0, none⟩) 1700 vc5]) (v' := .agg (ron fa5 fc5 ca5 cc5)) (v1 := .int .i64 j) (v2 := .int .i64 0) rfl rfl rfl (read_row _ b_8 26 _ (hv.vars.ro (b := b_8)) 1 _ Tryz.underlying26 rfl infoM (by decide) rfl) (read_row _ b_9 58 _ (hv.vars.ro (b := b_9)) 23 _ Tryz.underlying58 rfl infoBk23 (by decide) (HSN.out _ _ _ _)) rfl rfl rfl ?_
 exact ⟨vb5, vc5, fa5, fc5, ca5, cc5, c5, R5, rfl, hv.keep (by exact List.sublist_append_right [_, _, _, _, _] L), E1.out⟩
theorem Write_0 {w0 w : World} {L : List (Nat × Array Value)} {R : List (Nat × Value × List Value)} (hv : Mem w0 w L R) {av la fn fc cn cc : Nat} {fa ca : Option Addr} {free : List Nat} {chs : List Chn} {b0 b1 b2 b3 f0 f1 f2 f3 : Bool} {h0 h1 h2 h3 s0 s1 s2 s3 : Nat} {mb mc nf1 nc1 av1 hd db do_ dc s_ p pd ps : Nat} {M D : List Nat} (hm : InM R mb 0 1700 mc M) (hq : BlkQ R (.slice fa fn fc) (.slice ca cn cc) free chs [(b0, h0, f0, (s0 : Int)), (b1, h1, f1, (s1 : Int)), (b2, h2, f2, (s2 : Int)), (b3, h3, f3, (s3 : Int))]) (hp : 500 + 0 = p) (hpd : p + 16 = pd) (hps : p + 272 = ps) (hix : idxF (fun r : Rq => !r.1) [(b0, h0, f0, (s0 : Int)), (b1, h1, f1, (s1 : Int)), (b2, h2, f2, (s2 : Int)), (b3, h3, f3, (s3 : Int))] = 0) (hs : s_ < 256) (hav : av < 65535) (hav1 : av + 1 = av1) (g0 : fn = nf1 + 3) (g1 : cn + 1 = nc1) (hh : free.getD 0 0 = hd)
   (hdr : (1, .slice (some ⟨db, do_, none⟩) 256 dc, cellsB D) ∈ R) (hg : goodB D) :
   Calls Tryz.prog 20 #[.agg #[.slice (some ⟨mb, 0, none⟩) 1700 mc], .agg #[.int .i64 0, .int .i64 16, .slice fa fn fc, .int .u16 av, .int .u16 la, .slice ca cn cc, .int .i64 500, .bool b0, .int .i64 h0, .bool f0, .int .i64 s0, .bool b1, .int .i64 h1, .bool f1, .int .i64 s1, .bool b2, .int .i64 h2, .bool f2, .int .i64 s2, .bool b3, .int .i64 h3, .bool f3, .int .i64 s3], .int .i64 s_, .slice (some ⟨db, do_, none⟩) 256 dc] w fun e w' => ∃ vb5 vc5 fa5 fc5 ca5 cc5 c5 R5, e = .returned (.tuple #[.agg #[.slice (some ⟨vb5, 0, none⟩) 1700 vc5], .agg #[.int .i64 0, .int .i64 16, .slice fa5 nf1 fc5, .int .u16 av1, .int .u16 la, .slice ca5 nc1 cc5, .int .i64 500, .bool true, .int .i64 hd, .bool false, .int .i64 s_, .bool b1, .int .i64 h1, .bool f1, .int .i64 s1, .bool b2, .int .i64 h2, .bool f2, .int .i64 s2, .bool b3, .int .i64 h3, .bool f3, .int .i64 s3], .int .i64 0, .int .i64 0]) ∧ Mem w0 w' L R5 ∧ InM R5 vb5 0 1700 vc5 (addM (askM M p 1 s_ D) 0 16 av free [(p, 16, false), (pd, 256, false), (ps, 1, true)]) ∧ InQ R5 (.slice fa5 nf1 fc5) (.slice ca5 nc1 cc5) (free.drop 3) (chs ++ [c5]) ∧ OkQ 16 (free.drop 3) (chs ++ [c5]) ∧ c5.h = hd ∧ c5.ds = free.take 3 ∧ c5.rm = 1 ∧ ∀ x ∈ R, x ∈ R5 := Write_gen hv (ron := fun fa5 fc5 ca5 cc5 => #[.int .i64 0, .int .i64 16, .slice fa5 nf1 fc5, .int .u16 av1, .int .u16 la, .slice ca5 nc1 cc5, .int .i64 500, .bool true, .int .i64 hd, .bool false, .int .i64 s_, .bool b1, .int .i64 h1, .bool f1, .int .i64 s1, .bool b2, .int .i64 h2, .bool f2, .int .i64 s2, .bool b3, .int .i64 h3, .bool f3, .int .i64 s3]) rfl (by simp [Value.oneCell']) (fun _ _ _ _ => rfl) (fun _ _ _ _ => by simp [Value.oneCell']) hs (fun _ _ h => BCheck_ok h hq) (fun _ _ _ h h7 => askB_0 h hm hq hp hpd hps hix hs hav hav1 g0 g1 hh h7 hdr hg)
theorem Write_1 {w0 w : World} {L : List (Nat × Array Value)} {R : List (Nat × Value × List Value)} (hv : Mem w0 w L R) {av la fn fc cn cc : Nat} {fa ca : Option Addr} {free : List Nat} {chs : List Chn} {b0 b1 b2 b3 f0 f1 f2 f3 : Bool} {h0 h1 h2 h3 s0 s1 s2 s3 : Nat} {mb mc nf1 nc1 av1 hd db do_ dc s_ p pd ps : Nat} {M D : List Nat} (hm : InM R mb 0 1700 mc M) (hq : BlkQ R (.slice fa fn fc) (.slice ca cn cc) free chs [(b0, h0, f0, (s0 : Int)), (b1, h1, f1, (s1 : Int)), (b2, h2, f2, (s2 : Int)), (b3, h3, f3, (s3 : Int))]) (hp : 500 + 288 = p) (hpd : p + 16 = pd) (hps : p + 272 = ps) (hix : idxF (fun r : Rq => !r.1) [(b0, h0, f0, (s0 : Int)), (b1, h1, f1, (s1 : Int)), (b2, h2, f2, (s2 : Int)), (b3, h3, f3, (s3 : Int))] = 1) (hs : s_ < 256) (hav : av < 65535) (hav1 : av + 1 = av1) (g0 : fn = nf1 + 3) (g1 : cn + 1 = nc1) (hh : free.getD 0 0 = hd)
   (hdr : (1, .slice (some ⟨db, do_, none⟩) 256 dc, cellsB D) ∈ R) (hg : goodB D) :
   Calls Tryz.prog 20 #[.agg #[.slice (some ⟨mb, 0, none⟩) 1700 mc], .agg #[.int .i64 0, .int .i64 16, .slice fa fn fc, .int .u16 av, .int .u16 la, .slice ca cn cc, .int .i64 500, .bool b0, .int .i64 h0, .bool f0, .int .i64 s0, .bool b1, .int .i64 h1, .bool f1, .int .i64 s1, .bool b2, .int .i64 h2, .bool f2, .int .i64 s2, .bool b3, .int .i64 h3, .bool f3, .int .i64 s3], .int .i64 s_, .slice (some ⟨db, do_, none⟩) 256 dc] w fun e w' => ∃ vb5 vc5 fa5 fc5 ca5 cc5 c5 R5, e = .returned (.tuple #[.agg #[.slice (some ⟨vb5, 0, none⟩) 1700 vc5], .agg #[.int .i64 0, .int .i64 16, .slice fa5 nf1 fc5, .int .u16 av1, .int .u16 la, .slice ca5 nc1 cc5, .int .i64 500, .bool b0, .int .i64 h0, .bool f0, .int .i64 s0, .bool true, .int .i64 hd, .bool false, .int .i64 s_, .bool b2, .int .i64 h2, .bool f2, .int .i64 s2, .bool b3, .int .i64 h3, .bool f3, .int .i64 s3], .int .i64 1, .int .i64 0]) ∧ Mem w0 w' L R5 ∧ InM R5 vb5 0 1700 vc5 (addM (askM M p 1 s_ D) 0 16 av free [(p, 16, false), (pd, 256, false), (ps, 1, true)]) ∧ InQ R5 (.slice fa5 nf1 fc5) (.slice ca5 nc1 cc5) (free.drop 3) (chs ++ [c5]) ∧ OkQ 16 (free.drop 3) (chs ++ [c5]) ∧ c5.h = hd ∧ c5.ds = free.take 3 ∧ c5.rm = 1 ∧ ∀ x ∈ R, x ∈ R5 := Write_gen hv (ron := fun fa5 fc5 ca5 cc5 => #[.int .i64 0, .int .i64 16, .slice fa5 nf1 fc5, .int .u16 av1, .int .u16 la, .slice ca5 nc1 cc5, .int .i64 500, .bool b0, .int .i64 h0, .bool f0, .int .i64 s0, .bool true, .int .i64 hd, .bool false, .int .i64 s_, .bool b2, .int .i64 h2, .bool f2, .int .i64 s2, .bool b3, .int .i64 h3, .bool f3, .int .i64 s3]) rfl (by simp [Value.oneCell']) (fun _ _ _ _ => rfl) (fun _ _ _ _ => by simp [Value.oneCell']) hs (fun _ _ h => BCheck_ok h hq) (fun _ _ _ h h7 => askB_1 h hm hq hp hpd hps hix hs hav hav1 g0 g1 hh h7 hdr hg)
theorem Write_2 {w0 w : World} {L : List (Nat × Array Value)} {R : List (Nat × Value × List Value)} (hv : Mem w0 w L R) {av la fn fc cn cc : Nat} {fa ca : Option Addr} {free : List Nat} {chs : List Chn} {b0 b1 b2 b3 f0 f1 f2 f3 : Bool} {h0 h1 h2 h3 s0 s1 s2 s3 : Nat} {mb mc nf1 nc1 av1 hd db do_ dc s_ p pd ps : Nat} {M D : List Nat} (hm : InM R mb 0 1700 mc M) (hq : BlkQ R (.slice fa fn fc) (.slice ca cn cc) free chs [(b0, h0, f0, (s0 : Int)), (b1, h1, f1, (s1 : Int)), (b2, h2, f2, (s2 : Int)), (b3, h3, f3, (s3 : Int))]) (hp : 500 + 576 = p) (hpd : p + 16 = pd) (hps : p + 272 = ps) (hix : idxF (fun r : Rq => !r.1) [(b0, h0, f0, (s0 : Int)), (b1, h1, f1, (s1 : Int)), (b2, h2, f2, (s2 : Int)), (b3, h3, f3, (s3 : Int))] = 2) (hs : s_ < 256) (hav : av < 65535) (hav1 : av + 1 = av1) (g0 : fn = nf1 + 3) (g1 : cn + 1 = nc1) (hh : free.getD 0 0 = hd)
   (hdr : (1, .slice (some ⟨db, do_, none⟩) 256 dc, cellsB D) ∈ R) (hg : goodB D) :
   Calls Tryz.prog 20 #[.agg #[.slice (some ⟨mb, 0, none⟩) 1700 mc], .agg #[.int .i64 0, .int .i64 16, .slice fa fn fc, .int .u16 av, .int .u16 la, .slice ca cn cc, .int .i64 500, .bool b0, .int .i64 h0, .bool f0, .int .i64 s0, .bool b1, .int .i64 h1, .bool f1, .int .i64 s1, .bool b2, .int .i64 h2, .bool f2, .int .i64 s2, .bool b3, .int .i64 h3, .bool f3, .int .i64 s3], .int .i64 s_, .slice (some ⟨db, do_, none⟩) 256 dc] w fun e w' => ∃ vb5 vc5 fa5 fc5 ca5 cc5 c5 R5, e = .returned (.tuple #[.agg #[.slice (some ⟨vb5, 0, none⟩) 1700 vc5], .agg #[.int .i64 0, .int .i64 16, .slice fa5 nf1 fc5, .int .u16 av1, .int .u16 la, .slice ca5 nc1 cc5, .int .i64 500, .bool b0, .int .i64 h0, .bool f0, .int .i64 s0, .bool b1, .int .i64 h1, .bool f1, .int .i64 s1, .bool true, .int .i64 hd, .bool false, .int .i64 s_, .bool b3, .int .i64 h3, .bool f3, .int .i64 s3], .int .i64 2, .int .i64 0]) ∧ Mem w0 w' L R5 ∧ InM R5 vb5 0 1700 vc5 (addM (askM M p 1 s_ D) 0 16 av free [(p, 16, false), (pd, 256, false), (ps, 1, true)]) ∧ InQ R5 (.slice fa5 nf1 fc5) (.slice ca5 nc1 cc5) (free.drop 3) (chs ++ [c5]) ∧ OkQ 16 (free.drop 3) (chs ++ [c5]) ∧ c5.h = hd ∧ c5.ds = free.take 3 ∧ c5.rm = 1 ∧ ∀ x ∈ R, x ∈ R5 := Write_gen hv (ron := fun fa5 fc5 ca5 cc5 => #[.int .i64 0, .int .i64 16, .slice fa5 nf1 fc5, .int .u16 av1, .int .u16 la, .slice ca5 nc1 cc5, .int .i64 500, .bool b0, .int .i64 h0, .bool f0, .int .i64 s0, .bool b1, .int .i64 h1, .bool f1, .int .i64 s1, .bool true, .int .i64 hd, .bool false, .int .i64 s_, .bool b3, .int .i64 h3, .bool f3, .int .i64 s3]) rfl (by simp [Value.oneCell']) (fun _ _ _ _ => rfl) (fun _ _ _ _ => by simp [Value.oneCell']) hs (fun _ _ h => BCheck_ok h hq) (fun _ _ _ h h7 => askB_2 h hm hq hp hpd hps hix hs hav hav1 g0 g1 hh h7 hdr hg)
theorem Write_3 {w0 w : World} {L : List (Nat × Array Value)} {R : List (Nat × Value × List Value)} (hv : Mem w0 w L R) {av la fn fc cn cc : Nat} {fa ca : Option Addr} {free : List Nat} {chs : List Chn} {b0 b1 b2 b3 f0 f1 f2 f3 : Bool} {h0 h1 h2 h3 s0 s1 s2 s3 : Nat} {mb mc nf1 nc1 av1 hd db do_ dc s_ p pd ps : Nat} {M D : List Nat} (hm : InM R mb 0 1700 mc M) (hq : BlkQ R (.slice fa fn fc) (.slice ca cn cc) free chs [(b0, h0, f0, (s0 : Int)), (b1, h1, f1, (s1 : Int)), (b2, h2, f2, (s2 : Int)), (b3, h3, f3, (s3 : Int))]) (hp : 500 + 864 = p) (hpd : p + 16 = pd) (hps : p + 272 = ps) (hix : idxF (fun r : Rq => !r.1) [(b0, h0, f0, (s0 : Int)), (b1, h1, f1, (s1 : Int)), (b2, h2, f2, (s2 : Int)), (b3, h3, f3, (s3 : Int))] = 3) (hs : s_ < 256) (hav : av < 65535) (hav1 : av + 1 = av1) (g0 : fn = nf1 + 3) (g1 : cn + 1 = nc1) (hh : free.getD 0 0 = hd)
   (hdr : (1, .slice (some ⟨db, do_, none⟩) 256 dc, cellsB D) ∈ R) (hg : goodB D) :
   Calls Tryz.prog 20 #[.agg #[.slice (some ⟨mb, 0, none⟩) 1700 mc], .agg #[.int .i64 0, .int .i64 16, .slice fa fn fc, .int .u16 av, .int .u16 la, .slice ca cn cc, .int .i64 500, .bool b0, .int .i64 h0, .bool f0, .int .i64 s0, .bool b1, .int .i64 h1, .bool f1, .int .i64 s1, .bool b2, .int .i64 h2, .bool f2, .int .i64 s2, .bool b3, .int .i64 h3, .bool f3, .int .i64 s3], .int .i64 s_, .slice (some ⟨db, do_, none⟩) 256 dc] w fun e w' => ∃ vb5 vc5 fa5 fc5 ca5 cc5 c5 R5, e = .returned (.tuple #[.agg #[.slice (some ⟨vb5, 0, none⟩) 1700 vc5], .agg #[.int .i64 0, .int .i64 16, .slice fa5 nf1 fc5, .int .u16 av1, .int .u16 la, .slice ca5 nc1 cc5, .int .i64 500, .bool b0, .int .i64 h0, .bool f0, .int .i64 s0, .bool b1, .int .i64 h1, .bool f1, .int .i64 s1, .bool b2, .int .i64 h2, .bool f2, .int .i64 s2, .bool true, .int .i64 hd, .bool false, .int .i64 s_], .int .i64 3, .int .i64 0]) ∧ Mem w0 w' L R5 ∧ InM R5 vb5 0 1700 vc5 (addM (askM M p 1 s_ D) 0 16 av free [(p, 16, false), (pd, 256, false), (ps, 1, true)]) ∧ InQ R5 (.slice fa5 nf1 fc5) (.slice ca5 nc1 cc5) (free.drop 3) (chs ++ [c5]) ∧ OkQ 16 (free.drop 3) (chs ++ [c5]) ∧ c5.h = hd ∧ c5.ds = free.take 3 ∧ c5.rm = 1 ∧ ∀ x ∈ R, x ∈ R5 := Write_gen hv (ron := fun fa5 fc5 ca5 cc5 => #[.int .i64 0, .int .i64 16, .slice fa5 nf1 fc5, .int .u16 av1, .int .u16 la, .slice ca5 nc1 cc5, .int .i64 500, .bool b0, .int .i64 h0, .bool f0, .int .i64 s0, .bool b1, .int .i64 h1, .bool f1, .int .i64 s1, .bool b2, .int .i64 h2, .bool f2, .int .i64 s2, .bool true, .int .i64 hd, .bool false, .int .i64 s_]) rfl (by simp [Value.oneCell']) (fun _ _ _ _ => rfl) (fun _ _ _ _ => by simp [Value.oneCell']) hs (fun _ _ h => BCheck_ok h hq) (fun _ _ _ h h7 => askB_3 h hm hq hp hpd hps hix hs hav hav1 g0 g1 hh h7 hdr hg)
theorem Flush_1 {w0 w : World} {L : List (Nat × Array Value)} {R : List (Nat × Value × List Value)} (hv : Mem w0 w L R) {av la fn fc cn cc : Nat} {fa ca : Option Addr} {free : List Nat} {chs : List Chn} {b0 b1 b2 b3 f0 f1 f2 f3 : Bool} {h0 h1 h2 h3 s0 s1 s2 s3 : Nat} {mb mc nf1 nc1 av1 hd p ps : Nat} {M : List Nat} (hm : InM R mb 0 1700 mc M) (hq : BlkQ R (.slice fa fn fc) (.slice ca cn cc) free chs [(b0, h0, f0, (s0 : Int)), (b1, h1, f1, (s1 : Int)), (b2, h2, f2, (s2 : Int)), (b3, h3, f3, (s3 : Int))]) (hp : 500 + 288 = p) (hps : p + 272 = ps) (hix : idxF (fun r : Rq => !r.1) [(b0, h0, f0, (s0 : Int)), (b1, h1, f1, (s1 : Int)), (b2, h2, f2, (s2 : Int)), (b3, h3, f3, (s3 : Int))] = 1) {z0 : Nat} (hz : z0 = 0) (hav : av < 65535) (hav1 : av + 1 = av1) (g0 : fn = nf1 + 2) (g1 : cn + 1 = nc1) (hh : free.getD 0 0 = hd) :
   Calls Tryz.prog 40 #[.agg #[.slice (some ⟨mb, 0, none⟩) 1700 mc], .agg #[.int .i64 0, .int .i64 16, .slice fa fn fc, .int .u16 av, .int .u16 la, .slice ca cn cc, .int .i64 500, .bool b0, .int .i64 h0, .bool f0, .int .i64 s0, .bool b1, .int .i64 h1, .bool f1, .int .i64 s1, .bool b2, .int .i64 h2, .bool f2, .int .i64 s2, .bool b3, .int .i64 h3, .bool f3, .int .i64 s3]] w fun e w' => ∃ vb5 vc5 fa5 fc5 ca5 cc5 c5 R5, e = .returned (.tuple #[.agg #[.slice (some ⟨vb5, 0, none⟩) 1700 vc5], .agg #[.int .i64 0, .int .i64 16, .slice fa5 nf1 fc5, .int .u16 av1, .int .u16 la, .slice ca5 nc1 cc5, .int .i64 500, .bool b0, .int .i64 h0, .bool f0, .int .i64 s0, .bool true, .int .i64 hd, .bool true, .int .i64 z0, .bool b2, .int .i64 h2, .bool f2, .int .i64 s2, .bool b3, .int .i64 h3, .bool f3, .int .i64 s3], .int .i64 1, .int .i64 0]) ∧ Mem w0 w' L R5 ∧ InM R5 vb5 0 1700 vc5 (addM (askF M p 4 z0) 0 16 av free [(p, 16, false), (ps, 1, true)]) ∧ InQ R5 (.slice fa5 nf1 fc5) (.slice ca5 nc1 cc5) (free.drop 2) (chs ++ [c5]) ∧ OkQ 16 (free.drop 2) (chs ++ [c5]) ∧ c5.h = hd ∧ c5.ds = free.take 2 ∧ c5.rm = 1 ∧ ∀ x ∈ R, x ∈ R5 := by
 have Xhm := Lib.hid hm
 have Xhq := Lib.hid hq
 have Xhp := Lib.hid hp
 have Xhps := Lib.hid hps
 have Xhix := Lib.hid hix
 have Xhav := Lib.hid hav
 have Xhav1 := Lib.hid hav1
 have Xg0 := Lib.hid g0
 have Xg1 := Lib.hid g1
 have Xhh := Lib.hid hh
 have HS0 : Hid (z0 < 256) := Lib.hid (by omega)
 have HSI : Hid ((0 : Int) = (z0 : Nat)) := Lib.hid (by omega)
 clear hz
 clear hm hq hp hps hix hav hav1 g0 g1 hh
 go_enter Tryz.func40, Tryz.ntmps40
 go_wp2_with (first
   | ((with_reducible refine at_box (T := 26) (dst := some 2) ?_); refine wl_newb rfl #[.slice (some ⟨mb, 0, none⟩) 1700 mc] 26 (fun _ => rfl) ?_; intro b_2 w2 hm2; replace hv := hv.madeAt hm2; clear hm2)
   | ((with_reducible refine at_box (T := 58) (dst := some 3) ?_); refine wl_newb rfl #[.int .i64 0, .int .i64 16, .slice fa fn fc, .int .u16 av, .int .u16 la, .slice ca cn cc, .int .i64 500, .bool b0, .int .i64 h0, .bool f0, .int .i64 s0, .bool b1, .int .i64 h1, .bool f1, .int .i64 s1, .bool b2, .int .i64 h2, .bool f2, .int .i64 s2, .bool b3, .int .i64 h3, .bool f3, .int .i64 s3] 58 (fun _ => rfl) ?_; intro b_3 w2 hm2; replace hv := hv.madeAt hm2; clear hm2)
   | ((with_reducible refine at_alloc (T := 26) (dst := some 4) ?_); refine wl_newb rfl #[.slice none 0 0] 26 (fun _ => rfl) ?_; intro b_4 w2 hm2; replace hv := hv.madeAt hm2; clear hm2)
   | ((with_reducible refine at_alloc (T := 58) (dst := some 5) ?_); refine wl_newb rfl #[.int .i64 0, .int .i64 0, .slice none 0 0, .int .u16 0, .int .u16 0, .slice none 0 0, .int .i64 0, .bool false, .int .i64 0, .bool false, .int .i64 0, .bool false, .int .i64 0, .bool false, .int .i64 0, .bool false, .int .i64 0, .bool false, .int .i64 0, .bool false, .int .i64 0, .bool false, .int .i64 0] 58 (fun _ => rfl) ?_; intro b_5 w2 hm2; replace hv := hv.madeAt hm2; clear hm2)
   | ((with_reducible refine at_load (T := 58) ?_); refine wl_ldv rfl b_3 rfl _ hv.vars.ro 23 _ Tryz.underlying58 rfl infoBk23 (by decide) rfl ?_)
   | ((with_reducible refine at_load (T := 26) ?_); refine wl_ldv rfl b_2 rfl _ hv.vars.ro 1 _ Tryz.underlying26 rfl infoM (by decide) rfl ?_)
   | (go_at_call 25; (with_reducible refine (BCheck_ok hv Xhq.out).mono ?_); rintro e w1 ⟨rfl, hn1⟩; replace hv := hv.new hn1; clear hn1)
   | (go_at_call 41; (refine (askG_1 hv Xhm.out Xhq.out Xhp.out Xhps.out Xhix.out HSI.out HS0.out Xhav.out Xhav1.out Xg0.out Xg1.out Xhh.out).mono ?_); rintro e w1 ⟨vb5, vc5, fa5, fc5, ca5, cc5, c5, R5, rfl, hv1, e1, e2, e3, e4, e5, e6, hs1⟩; replace hv := hv1; clear hv1; have E1 := Lib.hid e1; have E2 := Lib.hid e2; have E3 := Lib.hid e3; have E4 := Lib.hid e4; have E5 := Lib.hid e5; have E6 := Lib.hid e6; have E7 := Lib.hid hs1; clear e1 e2 e3 e4 e5 e6 hs1)
   | ((with_reducible refine at_store (T := 26) ?_); refine wl_stv rfl b_4 rfl _ rfl _ hv.vars.ro hv.vars.so 1 infoM rfl rfl (by simp [Value.oneCell']) ?_; intro w2 hw2; replace hv := hv.sets (by repeat first | exact .z | apply SetM.s) hw2; clear hw2)
   | ((with_reducible refine at_store (T := 58) ?_); refine wl_stv rfl b_5 rfl _ rfl _ hv.vars.ro hv.vars.so 23 infoBk23 rfl rfl (by simp [Value.oneCell']) ?_; intro w2 hw2; replace hv := hv.sets (by repeat first | exact .z | apply SetM.s) hw2; clear hw2))
 try simp only [Exit.inBlock, Exit.then]
 refine ret_cctt (v := .agg #[.slice (some ⟨vb5, 0, none⟩) 1700 vc5]) (v' := .agg #[.int .i64 0, .int .i64 16, .slice fa5 nf1 fc5, .int .u16 av1, .int .u16 la, .slice ca5 nc1 cc5, .int .i64 500, .bool b0, .int .i64 h0, .bool f0, .int .i64 s0, .bool true, .int .i64 hd, .bool true, .int .i64 z0, .bool b2, .int .i64 h2, .bool f2, .int .i64 s2, .bool b3, .int .i64 h3, .bool f3, .int .i64 s3]) (v1 := .int .i64 1) (v2 := .int .i64 0) rfl rfl rfl (read_row _ b_4 26 _ (hv.vars.ro (b := b_4)) 1 _ Tryz.underlying26 rfl infoM (by decide) rfl) (read_row _ b_5 58 _ (hv.vars.ro (b := b_5)) 23 _ Tryz.underlying58 rfl infoBk23 (by decide) rfl) rfl rfl rfl ?_
 exact ⟨vb5, vc5, fa5, fc5, ca5, cc5, c5, R5, rfl, hv.keep (by exact List.sublist_append_right [_, _, _, _] L), E1.out, E2.out, E3.out, E4.out, E5.out, E6.out, E7.out⟩
end Go.Proofs.YtjmibgomkgkhnaaGreat
end
