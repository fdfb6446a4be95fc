/-
 A disk's driver (layer 9): a new one; no place left; what is done.
-/
import Derived.Test.YtjmibgomkgkhnaaGreatVbA
import Derived.Test.YtjmibgomkgkhnaaGreatVb7
set_option maxRecDepth 100000
set_option maxHeartbeats 16000000
set_option linter.unusedVariables false
set_option linter.unusedSimpArgs false
namespace Go.Proofs.Qu
open Go Go.RowKit Go.Proofs.Nm
theorem splice_23_0_6 (a0 a1 a2 a3 a4 a5 a6 a7 a8 a9 a10 a11 a12 a13 a14 a15 a16 a17 a18 a19 a20 a21 a22 v0 v1 v2 v3 v4 v5 : Value) : splice #[a0, a1, a2, a3, a4, a5, a6, a7, a8, a9, a10, a11, a12, a13, a14, a15, a16, a17, a18, a19, a20, a21, a22] 0 #[v0, v1, v2, v3, v4, v5] = #[v0, v1, v2, v3, v4, v5, a6, a7, a8, a9, a10, a11, a12, a13, a14, a15, a16, a17, a18, a19, a20, a21, a22] := by simp [splice]
theorem splice_23_7_4 (a0 a1 a2 a3 a4 a5 a6 a7 a8 a9 a10 a11 a12 a13 a14 a15 a16 a17 a18 a19 a20 a21 a22 v0 v1 v2 v3 : Value) : splice #[a0, a1, a2, a3, a4, a5, a6, a7, a8, a9, a10, a11, a12, a13, a14, a15, a16, a17, a18, a19, a20, a21, a22] 7 #[v0, v1, v2, v3] = #[a0, a1, a2, a3, a4, a5, a6, v0, v1, v2, v3, a11, a12, a13, a14, a15, a16, a17, a18, a19, a20, a21, a22] := by simp [splice]
theorem splice_23_11_4 (a0 a1 a2 a3 a4 a5 a6 a7 a8 a9 a10 a11 a12 a13 a14 a15 a16 a17 a18 a19 a20 a21 a22 v0 v1 v2 v3 : Value) : splice #[a0, a1, a2, a3, a4, a5, a6, a7, a8, a9, a10, a11, a12, a13, a14, a15, a16, a17, a18, a19, a20, a21, a22] 11 #[v0, v1, v2, v3] = #[a0, a1, a2, a3, a4, a5, a6, a7, a8, a9, a10, v0, v1, v2, v3, a15, a16, a17, a18, a19, a20, a21, a22] := by simp [splice]
theorem splice_23_15_4 (a0 a1 a2 a3 a4 a5 a6 a7 a8 a9 a10 a11 a12 a13 a14 a15 a16 a17 a18 a19 a20 a21 a22 v0 v1 v2 v3 : Value) : splice #[a0, a1, a2, a3, a4, a5, a6, a7, a8, a9, a10, a11, a12, a13, a14, a15, a16, a17, a18, a19, a20, a21, a22] 15 #[v0, v1, v2, v3] = #[a0, a1, a2, a3, a4, a5, a6, a7, a8, a9, a10, a11, a12, a13, a14, v0, v1, v2, v3, a19, a20, a21, a22] := by simp [splice]
theorem splice_23_19_4 (a0 a1 a2 a3 a4 a5 a6 a7 a8 a9 a10 a11 a12 a13 a14 a15 a16 a17 a18 a19 a20 a21 a22 v0 v1 v2 v3 : Value) : splice #[a0, a1, a2, a3, a4, a5, a6, a7, a8, a9, a10, a11, a12, a13, a14, a15, a16, a17, a18, a19, a20, a21, a22] 19 #[v0, v1, v2, v3] = #[a0, a1, a2, a3, a4, a5, a6, a7, a8, a9, a10, a11, a12, a13, a14, a15, a16, a17, a18, v0, v1, v2, v3] := by simp [splice]
def DoneP (w0 : World) (L : List (Nat × Array Value)) (R : List (Nat × Value × List Value)) (row : Option Addr → Nat → Option Addr → Nat → Array Value) (j : Int) (x nf1 nc1 : Nat) (free : List Nat) (c0 : Chn) (rest : List Chn) (e : Ending) (w' : World) : Prop :=
 ∃ fa5 fc5 ca5 cc5 free5 R5 e1, e = .returned (.tuple #[.agg (row fa5 fc5 ca5 cc5), .int .i64 j, .int .i64 e1, .int .i64 0]) ∧ e1 = (if x = 0 then 0 else 90) ∧ Mem w0 w' L R5 ∧ InQ R5 (.slice fa5 nf1 fc5) (.slice ca5 nc1 cc5) free5 rest ∧ OkQ 16 free5 rest ∧ free5.Perm (free ++ c0.ds) ∧ free5.Pairwise (· ≤ ·) ∧ ∀ x ∈ R, x ∈ R5
end Go.Proofs.Qu
namespace Go.Proofs.YtjmibgomkgkhnaaGreat
open Go.Proofs.Qu Go.Proofs.Nm Go.RowKit Go.Proofs
theorem built_nb (fa : Option Addr) (fc : Nat) : Tryz.prog.built 58 [(0, .agg #[.int .i64 0, .int .i64 16, .slice fa 16 fc, .int .u16 0, .int .u16 0, .slice none 0 0]), (1, .int .i64 500)] = some #[.int .i64 0, .int .i64 16, .slice fa 16 fc, .int .u16 0, .int .u16 0, .slice none 0 0, .int .i64 500, .bool false, .int .i64 0, .bool false, .int .i64 0, .bool false, .int .i64 0, .bool false, .int .i64 0, .bool false, .int .i64 0, .bool false, .int .i64 0, .bool false, .int .i64 0, .bool false, .int .i64 0] := by kernel_rfl
theorem BNew_K {w0 w : World} {L : List (Nat × Array Value)} {R : List (Nat × Value × List Value)} (hv : Mem w0 w L R) {mb mc : Nat} {M : List Nat} (hm : InM R mb 0 1700 mc M) :
   Calls Tryz.prog 17 #[.agg #[.slice (some ⟨mb, 0, none⟩) 1700 mc], .int .i64 0, .int .i64 500] w fun e w' => ∃ vb vc fa fc R', e = .returned (.tuple #[.agg #[.slice (some ⟨vb, 0, none⟩) 1700 vc], .agg #[.int .i64 0, .int .i64 16, .slice fa 16 fc, .int .u16 0, .int .u16 0, .slice none 0 0, .int .i64 500, .bool false, .int .i64 0, .bool false, .int .i64 0, .bool false, .int .i64 0, .bool false, .int .i64 0, .bool false, .int .i64 0, .bool false, .int .i64 0, .bool false, .int .i64 0, .bool false, .int .i64 0], .int .i64 0]) ∧ Mem w0 w' L R' ∧ InM R' vb 0 1700 vc (putB M 0 (List.replicate 424 0)) ∧ InQ R' (.slice fa 16 fc) (.slice none 0 0) (List.range 16) [] ∧ OkQ 16 (List.range 16) [] ∧ ∀ x ∈ R, x ∈ R' := by
 have HM := Lib.hid hm
 clear hm
 go_enter Tryz.func17, Tryz.ntmps17
 go_wp2_with (first
   | ((with_reducible refine at_box (T := 26) (dst := some 3) ?_); refine wl_newb rfl #[.slice (some ⟨mb, 0, none⟩) 1700 mc] 26 (fun _ => rfl) ?_; intro b_3 w2 hm2; replace hv := hv.madeAt hm2; clear hm2)
   | ((with_reducible refine at_alloc (T := 26) (dst := some 6) ?_); refine wl_newb rfl #[.slice none 0 0] 26 (fun _ => rfl) ?_; intro b_6 w2 hm2; replace hv := hv.madeAt hm2; clear hm2)
   | ((with_reducible refine at_alloc (T := 58) (dst := some 7) ?_); refine wl_newb rfl #[.int .i64 0, .int .i64 0, .slice none 0 0, .int .u16 0, .int .u16 0, .slice none 0 0, .int .i64 0, .bool false, .int .i64 0, .bool false, .int .i64 0, .bool false, .int .i64 0, .bool false, .int .i64 0, .bool false, .int .i64 0, .bool false, .int .i64 0, .bool false, .int .i64 0, .bool false, .int .i64 0] 58 (fun _ => rfl) ?_; intro b_7 w2 hm2; replace hv := hv.madeAt hm2; clear hm2)
   | ((with_reducible refine at_alloc (T := 26) (dst := some 9) ?_); refine wl_newb rfl #[.slice none 0 0] 26 (fun _ => rfl) ?_; intro b_9 w2 hm2; replace hv := hv.madeAt hm2; clear hm2)
   | ((with_reducible refine at_alloc (T := 30) (dst := some 10) ?_); refine wl_newb rfl #[.int .i64 0, .int .i64 0, .slice none 0 0, .int .u16 0, .int .u16 0, .slice none 0 0] 30 (fun _ => rfl) ?_; intro b_10 w2 hm2; replace hv := hv.madeAt hm2; clear hm2)
   | ((with_reducible refine at_load (T := 26) ?_); refine wl_ldv rfl b_3 rfl _ hv.vars.ro 1 _ Tryz.underlying26 rfl infoM (by decide) rfl ?_)
   | (go_at_call 26; (refine (NewQ_B hv HM.out).mono ?_); rintro e w1 ⟨vb, vc, fa, fc, R1, rfl, hv1, hm1, hq1, ho1, hs1⟩; replace hv := hv1; have HM1 := Lib.hid hm1; have HQ1 := Lib.hid hq1; have HO1 := Lib.hid ho1; have HS1 := Lib.hid hs1; clear hv1 hm1 hq1 ho1 hs1)
   | (go_at_call 27; (refine (Get_ok hv (HM.out.mono HS1.out) 500 1152 (by decide) (by decide)).mono ?_); rintro e w1 ⟨gb, gc, R2, rfl, hv1, hg1, hs1⟩; replace hv := hv1; have HS2 := Lib.hid hs1; clear hv1 hg1 hs1)
   | ((with_reducible refine at_store (T := 26) ?_); refine wl_stv rfl b_9 rfl _ rfl _ hv.vars.ro hv.vars.so 1 infoM rfl rfl (by simp [Value.oneCell']) ?_; intro w2 hw2; replace hv := hv.sets (by repeat first | exact .z | apply SetM.s) hw2; clear hw2)
   | ((with_reducible refine at_store (T := 30) ?_); refine wl_stv rfl b_10 rfl _ rfl _ hv.vars.ro hv.vars.so 6 infoQ rfl rfl (by simp [Value.oneCell']) ?_; intro w2 hw2; replace hv := hv.sets (by repeat first | exact .z | apply SetM.s) hw2; clear hw2))
 obtain ⟨R4, hR4⟩ : ∃ R4, R4 = R2 := ⟨_, rfl⟩
 rw [← hR4] at hv HS2
 clear hR4
 replace hv : Mem w0 _ ([(b_10, _), (b_9, _), (b_7, _), (b_6, _), (b_3, _)] ++ L) R4 := hv
 try simp only [Act.put]
 refine Bny.wp_region_walk _ _ [⟨[1001], none⟩, ⟨[1000], none⟩, ⟨[], none⟩, ⟨[], none⟩, ⟨[1003], some 1003⟩, ⟨[1002], some 1002⟩, ⟨[], none⟩] [.val, .val, .val, .val, .put, .put, .val] (by kernel_rfl) (by kernel_rfl) hv ?_
 simp only [List.length_cons, List.length_nil, Nat.zero_add, Any.someVals]
 iterate 7 apply Exists.intro
 repeat (first
   | (refine Bny.E_off rfl ?_; simp only [Act.put, sia, scs, scz])
   | ((with_reducible refine Bny.at_estore (T := 26) ?_); refine Bny.E_putv (T := 26) rfl rfl rfl rfl rfl rfl 1 infoM rfl rfl (by simp [Value.oneCell']) ?_; simp only [Act.put, sia, scs, scz])
   | ((with_reducible refine Bny.at_estore (T := 58) ?_); refine Bny.E_putv (T := 58) rfl rfl rfl rfl rfl rfl 23 infoBk23 rfl rfl (by simp [Value.oneCell']) ?_; simp only [Act.put, sia, scs, scz])
   | (apply Bny.E_pureq rfl rfl rfl
      case h => intro K hK; go_big_quiet_op; (refine hK _ ?_; rfl)
      case hr => exact fun _ => rfl
      simp only [Act.put, sia, scs, scz])
   | (apply Bny.E_val rfl rfl rfl rfl
      case h =>
        intro E' hA K hK
        first
          | ((with_reducible refine Bny.at_qload (T := 26) ?_); refine Bny.q_ldv 1001 hA (by decide) rfl rfl 1 _ Tryz.underlying26 rfl infoM (by decide) rfl ?_; refine hK _ ?_; rfl)
          | ((with_reducible refine Bny.at_qload (T := 30) ?_); refine Bny.q_ldv 1000 hA (by decide) rfl rfl 6 _ Tryz.underlying30 rfl infoQ (by decide) rfl ?_; refine hK _ ?_; rfl)
          | ((with_reducible refine Any.at_qbuild (T := 58) ?_); refine Any.q_build _ rfl (built_nb _ _) ?_; refine hK _ ?_; rfl)
          | (go_big_quiet_op; first
            | (refine hK _ ?_; rfl)
            | (refine ⟨_, fun _ _ => rfl, ?_⟩; refine hK _ ?_; rfl)
            | (apply Exists.intro; refine ⟨fun w1 hw1 => ?_, ?_⟩; · (first
                | fail)
               refine hK _ ?_; rfl))
      case hD => rfl
      simp only [Act.put, sia, scs, scz]))
 try any_goals exact undef
 refine Bny.E_nil ?_
 intro w9 hE9
 replace hv : Mem w0 w9 ([(b_10, #[.int .i64 0, .int .i64 16, .slice fa 16 fc, .int .u16 0, .int .u16 0, .slice none 0 0]), (b_9, #[.slice (some ⟨vb, 0, none⟩) 1700 vc]), (b_7, #[.int .i64 0, .int .i64 16, .slice fa 16 fc, .int .u16 0, .int .u16 0, .slice none 0 0, .int .i64 500, .bool false, .int .i64 0, .bool false, .int .i64 0, .bool false, .int .i64 0, .bool false, .int .i64 0, .bool false, .int .i64 0, .bool false, .int .i64 0, .bool false, .int .i64 0, .bool false, .int .i64 0]), (b_6, #[.slice (some ⟨vb, 0, none⟩) 1700 vc]), (b_3, #[.slice (some ⟨mb, 0, none⟩) 1700 mc])] ++ L) R4 := hE9.mem0 [1000, 1001, 1002, 1003, 1004] (by decide)
 clear hE9
 simp only [List.cons_append, List.nil_append] at hv
 go_wp2
 try simp only [Exit.inBlock, Exit.then]
 refine ret_cct (v := .agg #[.slice (some ⟨vb, 0, none⟩) 1700 vc]) (v' := .agg #[.int .i64 0, .int .i64 16, .slice fa 16 fc, .int .u16 0, .int .u16 0, .slice none 0 0, .int .i64 500, .bool false, .int .i64 0, .bool false, .int .i64 0, .bool false, .int .i64 0, .bool false, .int .i64 0, .bool false, .int .i64 0, .bool false, .int .i64 0, .bool false, .int .i64 0, .bool false, .int .i64 0]) (v1 := .int .i64 0) rfl rfl rfl (read_row _ b_6 26 _ (hv.vars.ro (b := b_6)) 1 _ Tryz.underlying26 rfl infoM (by decide) rfl) (read_row _ b_7 58 _ (hv.vars.ro (b := b_7)) 23 _ Tryz.underlying58 rfl infoBk23 (by decide) rfl) rfl rfl ?_
 exact ⟨vb, vc, fa, fc, R4, rfl, hv.keep (by exact List.sublist_append_right [_, _, _, _, _] L), HM1.out.mono HS2.out, HQ1.out.mono HS2.out, HO1.out, fun x hx => HS2.out x (HS1.out x hx)⟩
theorem ask_full {w0 w : World} {L : List (Nat × Array Value)} {R : List (Nat × Value × List Value)} (hv : Mem w0 w L R) {av la fn fc cn cc : Nat} {fa ca : Option Addr} {free : List Nat} {chs : List Chn} {b0 b1 b2 b3 f0 f1 f2 f3 : Bool} {h0 h1 h2 h3 s0 s1 s2 s3 : Nat} {mb mc : Nat} (hix : idxF (fun r : Rq => !r.1) [(b0, h0, f0, (s0 : Int)), (b1, h1, f1, (s1 : Int)), (b2, h2, f2, (s2 : Int)), (b3, h3, f3, (s3 : Int))] = -1) (kv sv fv : Value) :
   Calls Tryz.prog 41 #[.agg #[.slice (some ⟨mb, 0, none⟩) 1700 mc], .agg #[.int .i64 0, .int .i64 16, .slice fa fn fc, .int .u16 av, .int .u16 la, .slice ca cn cc, .int .i64 500, .bool b0, .int .i64 h0, .bool f0, .int .i64 s0, .bool b1, .int .i64 h1, .bool f1, .int .i64 s1, .bool b2, .int .i64 h2, .bool f2, .int .i64 s2, .bool b3, .int .i64 h3, .bool f3, .int .i64 s3], kv, sv, fv] w fun e w' => e = .returned (.tuple #[.agg #[.slice (some ⟨mb, 0, none⟩) 1700 mc], .agg #[.int .i64 0, .int .i64 16, .slice fa fn fc, .int .u16 av, .int .u16 la, .slice ca cn cc, .int .i64 500, .bool b0, .int .i64 h0, .bool f0, .int .i64 s0, .bool b1, .int .i64 h1, .bool f1, .int .i64 s1, .bool b2, .int .i64 h2, .bool f2, .int .i64 s2, .bool b3, .int .i64 h3, .bool f3, .int .i64 s3], .int .i64 0, .int .i64 4]) ∧ Mem w0 w' L R := by
 have HIX := Lib.hid hix
 have H4 : Hid (([(b0, h0, f0, (s0 : Int)), (b1, h1, f1, (s1 : Int)), (b2, h2, f2, (s2 : Int)), (b3, h3, f3, (s3 : Int))] : List Rq).length ≤ 100000) := Lib.hid (by show 4 ≤ 100000; decide)
 have HSC : Hid (∀ i, i < 4 * 4 → (#[.int .i64 0, .int .i64 16, .slice fa fn fc, .int .u16 av, .int .u16 la, .slice ca cn cc, .int .i64 500, .bool b0, .int .i64 h0, .bool f0, .int .i64 s0, .bool b1, .int .i64 h1, .bool f1, .int .i64 s1, .bool b2, .int .i64 h2, .bool f2, .int .i64 s2, .bool b3, .int .i64 h3, .bool f3, .int .i64 s3] : Array Value)[7 + i]? = (cellsR [(b0, h0, f0, (s0 : Int)), (b1, h1, f1, (s1 : Int)), (b2, h2, f2, (s2 : Int)), (b3, h3, f3, (s3 : Int))])[i]?) := Lib.hid (fun i hi => by
   rcases (show i = 0 ∨ i = 1 ∨ i = 2 ∨ i = 3 ∨ i = 4 ∨ i = 5 ∨ i = 6 ∨ i = 7 ∨ i = 8 ∨ i = 9 ∨ i = 10 ∨ i = 11 ∨ i = 12 ∨ i = 13 ∨ i = 14 ∨ i = 15 from by omega) with rfl | rfl | rfl | rfl | rfl | rfl | rfl | rfl | rfl | rfl | rfl | rfl | rfl | rfl | rfl | rfl <;> rfl)
 clear hix
 go_enter Tryz.func41, Tryz.ntmps41
 go_wp2_with (first
   | ((with_reducible refine at_box (T := 26) (dst := some 5) ?_); refine wl_newb rfl #[.slice (some ⟨mb, 0, none⟩) 1700 mc] 26 (fun _ => rfl) ?_; intro b_5 w2 hm2; replace hv := hv.madeAt hm2; clear hm2)
   | ((with_reducible refine at_box (T := 58) (dst := some 6) ?_); refine wl_newb rfl #[.int .i64 0, .int .i64 16, .slice fa fn fc, .int .u16 av, .int .u16 la, .slice ca cn cc, .int .i64 500, .bool b0, .int .i64 h0, .bool f0, .int .i64 s0, .bool b1, .int .i64 h1, .bool f1, .int .i64 s1, .bool b2, .int .i64 h2, .bool f2, .int .i64 s2, .bool b3, .int .i64 h3, .bool f3, .int .i64 s3] 58 (fun _ => rfl) ?_; intro b_6 w2 hm2; replace hv := hv.madeAt hm2; clear hm2)
   | ((with_reducible refine at_alloc (T := 26) (dst := some 10) ?_); refine wl_newb rfl #[.slice none 0 0] 26 (fun _ => rfl) ?_; intro b_10 w2 hm2; replace hv := hv.madeAt hm2; clear hm2)
   | ((with_reducible refine at_alloc (T := 58) (dst := some 11) ?_); refine wl_newb rfl #[.int .i64 0, .int .i64 0, .slice none 0 0, .int .u16 0, .int .u16 0, .slice none 0 0, .int .i64 0, .bool false, .int .i64 0, .bool false, .int .i64 0, .bool false, .int .i64 0, .bool false, .int .i64 0, .bool false, .int .i64 0, .bool false, .int .i64 0, .bool false, .int .i64 0, .bool false, .int .i64 0] 58 (fun _ => rfl) ?_; intro b_11 w2 hm2; replace hv := hv.madeAt hm2; clear hm2)
   | (go_at_call 45; have HRD := rd_partK (o := 7) (n := 4) (k := 4) (l := cellsR [(b0, h0, f0, (s0 : Int)), (b1, h1, f1, (s1 : Int)), (b2, h2, f2, (s2 : Int)), (b3, h3, f3, (s3 : Int))]) (hv.vars.ro (b := b_6)) (hv.vars.so (b := b_6)) rfl HSC.out (by unfold maxLen; omega); (refine (IndexR_any H4.out (f := 75) (cap := #[]) (fun r => !r.1) (Go.Proofs.enters_of Tryz.func75 (by kernel_rfl) rfl) _ HRD (fun c hc w1 _ => free_any c.1 c.2.1 c.2.2.1 c.2.2.2 w1)).mono ?_); rw [HIX.out]; rintro e w1 ⟨rfl, hn1⟩; replace hv := hv.new hn1; clear hn1 HRD))
 replace hv : Mem w0 _ ([(b_11, _), (b_10, _), (b_6, _), (b_5, _)] ++ L) R := hv
 try simp only [Act.put]
 refine Bny.wp_region_walk _ _ [⟨[1003], none⟩, ⟨[1002], none⟩, ⟨[1001], some 1001⟩, ⟨[1000], some 1000⟩, ⟨[], none⟩, ⟨[], none⟩] [.val, .val, .put, .put, .val, .val] (by kernel_rfl) (by kernel_rfl) hv ?_
 simp only [List.length_cons, List.length_nil, Nat.zero_add, Any.someVals]
 iterate 6 apply Exists.intro
 repeat (first
   | (refine Bny.E_off rfl ?_; simp only [Act.put, sia, scs, scz])
   | ((with_reducible refine Bny.at_estore (T := 26) ?_); refine Bny.E_putv (T := 26) rfl rfl rfl rfl rfl rfl 1 infoM rfl rfl (by simp [Value.oneCell']) ?_; simp only [Act.put, sia, scs, scz])
   | ((with_reducible refine Bny.at_estore (T := 58) ?_); refine Bny.E_putv (T := 58) rfl rfl rfl rfl rfl rfl 23 infoBk23 rfl rfl (by simp [Value.oneCell']) ?_; simp only [Act.put, sia, scs, scz])
   | (apply Bny.E_pureq rfl rfl rfl
      case h => intro K hK; go_big_quiet_op; (refine hK _ ?_; rfl)
      case hr => exact fun _ => rfl
      simp only [Act.put, sia, scs, scz])
   | (apply Bny.E_val rfl rfl rfl rfl
      case h =>
        intro E' hA K hK
        first
          | ((with_reducible refine Bny.at_qload (T := 26) ?_); refine Bny.q_ldv 1003 hA (by decide) rfl rfl 1 _ Tryz.underlying26 rfl infoM (by decide) rfl ?_; refine hK _ ?_; rfl)
          | ((with_reducible refine Bny.at_qload (T := 58) ?_); refine Bny.q_ldv 1002 hA (by decide) rfl rfl 23 _ Tryz.underlying58 rfl infoBk23 (by decide) rfl ?_; refine hK _ ?_; rfl)
          | (go_big_quiet_op; first
            | (refine hK _ ?_; rfl)
            | (refine ⟨_, fun _ _ => rfl, ?_⟩; refine hK _ ?_; rfl)
            | (apply Exists.intro; refine ⟨fun w1 hw1 => ?_, ?_⟩; · (first
                | fail)
               refine hK _ ?_; rfl))
      case hD => rfl
      simp only [Act.put, sia, scs, scz]))
 try any_goals exact undef
 refine Bny.E_nil ?_
 intro w9 hE9
 replace hv : Mem w0 w9 ([(b_11, #[.int .i64 0, .int .i64 16, .slice fa fn fc, .int .u16 av, .int .u16 la, .slice ca cn cc, .int .i64 500, .bool b0, .int .i64 h0, .bool f0, .int .i64 s0, .bool b1, .int .i64 h1, .bool f1, .int .i64 s1, .bool b2, .int .i64 h2, .bool f2, .int .i64 s2, .bool b3, .int .i64 h3, .bool f3, .int .i64 s3]), (b_10, #[.slice (some ⟨mb, 0, none⟩) 1700 mc]), (b_6, #[.int .i64 0, .int .i64 16, .slice fa fn fc, .int .u16 av, .int .u16 la, .slice ca cn cc, .int .i64 500, .bool b0, .int .i64 h0, .bool f0, .int .i64 s0, .bool b1, .int .i64 h1, .bool f1, .int .i64 s1, .bool b2, .int .i64 h2, .bool f2, .int .i64 s2, .bool b3, .int .i64 h3, .bool f3, .int .i64 s3]), (b_5, #[.slice (some ⟨mb, 0, none⟩) 1700 mc])] ++ L) R := hE9.mem0 [1000, 1001, 1002, 1003] (by decide)
 clear hE9
 simp only [List.cons_append, List.nil_append] at hv
 go_wp2
 try simp only [Exit.inBlock, Exit.then]
 refine ret_cctt (v := .agg #[.slice (some ⟨mb, 0, none⟩) 1700 mc]) (v' := .agg #[.int .i64 0, .int .i64 16, .slice fa fn fc, .int .u16 av, .int .u16 la, .slice ca cn cc, .int .i64 500, .bool b0, .int .i64 h0, .bool f0, .int .i64 s0, .bool b1, .int .i64 h1, .bool f1, .int .i64 s1, .bool b2, .int .i64 h2, .bool f2, .int .i64 s2, .bool b3, .int .i64 h3, .bool f3, .int .i64 s3]) (v1 := .int .i64 0) (v2 := .int .i64 4) rfl rfl rfl (read_row _ b_10 26 _ (hv.vars.ro (b := b_10)) 1 _ Tryz.underlying26 rfl infoM (by decide) rfl) (read_row _ b_11 58 _ (hv.vars.ro (b := b_11)) 23 _ Tryz.underlying58 rfl infoBk23 (by decide) rfl) rfl rfl rfl ?_
 exact ⟨rfl, hv.keep (by exact List.sublist_append_right [_, _, _, _] L)⟩
theorem Write_full {w0 w : World} {L : List (Nat × Array Value)} {R : List (Nat × Value × List Value)} (hv : Mem w0 w L R) {av la fn fc cn cc : Nat} {fa ca : Option Addr} {free : List Nat} {chs : List Chn} {b0 b1 b2 b3 f0 f1 f2 f3 : Bool} {h0 h1 h2 h3 s0 s1 s2 s3 : Nat} {mb mc db do_ dc s_ : Nat} (hq : BlkQ R (.slice fa fn fc) (.slice ca cn cc) free chs [(b0, h0, f0, (s0 : Int)), (b1, h1, f1, (s1 : Int)), (b2, h2, f2, (s2 : Int)), (b3, h3, f3, (s3 : Int))]) (hix : idxF (fun r : Rq => !r.1) [(b0, h0, f0, (s0 : Int)), (b1, h1, f1, (s1 : Int)), (b2, h2, f2, (s2 : Int)), (b3, h3, f3, (s3 : Int))] = -1) (hs : s_ < 256) :
   Calls Tryz.prog 20 #[.agg #[.slice (some ⟨mb, 0, none⟩) 1700 mc], .agg #[.int .i64 0, .int .i64 16, .slice fa fn fc, .int .u16 av, .int .u16 la, .slice ca cn cc, .int .i64 500, .bool b0, .int .i64 h0, .bool f0, .int .i64 s0, .bool b1, .int .i64 h1, .bool f1, .int .i64 s1, .bool b2, .int .i64 h2, .bool f2, .int .i64 s2, .bool b3, .int .i64 h3, .bool f3, .int .i64 s3], .int .i64 s_, .slice (some ⟨db, do_, none⟩) 256 dc] w fun e w' => e = .returned (.tuple #[.agg #[.slice (some ⟨mb, 0, none⟩) 1700 mc], .agg #[.int .i64 0, .int .i64 16, .slice fa fn fc, .int .u16 av, .int .u16 la, .slice ca cn cc, .int .i64 500, .bool b0, .int .i64 h0, .bool f0, .int .i64 s0, .bool b1, .int .i64 h1, .bool f1, .int .i64 s1, .bool b2, .int .i64 h2, .bool f2, .int .i64 s2, .bool b3, .int .i64 h3, .bool f3, .int .i64 s3], .int .i64 0, .int .i64 4]) ∧ Mem w0 w' L R := by
 have HQ := Lib.hid hq
 have HIX := Lib.hid hix
 have y1 : decide ((s_ : Int) < 0) = false := decide_eq_false (by omega)
 have y2 : decide ((s_ : Int) ≥ 256) = false := decide_eq_false (by omega)
 have y3 : ¬ ((256 : Int) ≤ (s_ : Int)) := by omega
 clear hq hix hs
 go_enter Tryz.func20, Tryz.ntmps20
 go_wp2_with (first
   | ((with_reducible refine at_box (T := 26) (dst := some 4) ?_); refine wl_newb rfl #[.slice (some ⟨mb, 0, none⟩) 1700 mc] 26 (fun _ => rfl) ?_; intro b_4 w2 hm2; replace hv := hv.madeAt hm2; clear hm2)
   | ((with_reducible refine at_box (T := 58) (dst := some 5) ?_); refine wl_newb rfl #[.int .i64 0, .int .i64 16, .slice fa fn fc, .int .u16 av, .int .u16 la, .slice ca cn cc, .int .i64 500, .bool b0, .int .i64 h0, .bool f0, .int .i64 s0, .bool b1, .int .i64 h1, .bool f1, .int .i64 s1, .bool b2, .int .i64 h2, .bool f2, .int .i64 s2, .bool b3, .int .i64 h3, .bool f3, .int .i64 s3] 58 (fun _ => rfl) ?_; intro b_5 w2 hm2; replace hv := hv.madeAt hm2; clear hm2)
   | ((with_reducible refine at_box (T := 24) (dst := some 7) ?_); refine wl_newb rfl #[.slice (some ⟨db, do_, none⟩) 256 dc] 24 (fun _ => rfl) ?_; intro b_7 w2 hm2; replace hv := hv.madeAt hm2; clear hm2)
   | ((with_reducible refine at_load (T := 24) ?_); refine wl_ldc rfl b_7 0 rfl _ hv.vars.ro _ Tryz.underlying24 rfl (.slice (some ⟨db, do_, none⟩) 256 dc) rfl ?_)
   | ((with_reducible refine at_alloc (T := 26) (dst := some 8) ?_); refine wl_newb rfl #[.slice none 0 0] 26 (fun _ => rfl) ?_; intro b_8 w2 hm2; replace hv := hv.madeAt hm2; clear hm2)
   | ((with_reducible refine at_alloc (T := 58) (dst := some 9) ?_); refine wl_newb rfl #[.int .i64 0, .int .i64 0, .slice none 0 0, .int .u16 0, .int .u16 0, .slice none 0 0, .int .i64 0, .bool false, .int .i64 0, .bool false, .int .i64 0, .bool false, .int .i64 0, .bool false, .int .i64 0, .bool false, .int .i64 0, .bool false, .int .i64 0, .bool false, .int .i64 0, .bool false, .int .i64 0] 58 (fun _ => rfl) ?_; intro b_9 w2 hm2; replace hv := hv.madeAt hm2; clear hm2)
   | ((with_reducible refine at_load (T := 58) ?_); refine wl_ldv rfl b_5 rfl _ hv.vars.ro 23 _ Tryz.underlying58 rfl infoBk23 (by decide) rfl ?_)
   | ((with_reducible refine at_load (T := 26) ?_); refine wl_ldv rfl b_4 rfl _ hv.vars.ro 1 _ Tryz.underlying26 rfl infoM (by decide) rfl ?_)
   | (go_at_call 25; (with_reducible refine (BCheck_ok hv HQ.out).mono ?_); rintro e w1 ⟨rfl, hn1⟩; replace hv := hv.new hn1; clear hn1)
   | (go_at_call 41; (refine (ask_full (free := free) (chs := chs) hv HIX.out _ _ _).mono ?_); rintro e w1 ⟨rfl, hv1⟩; replace hv := hv1; clear hv1)
   | ((with_reducible refine at_store (T := 26) ?_); refine wl_stv rfl b_8 rfl _ rfl _ hv.vars.ro hv.vars.so 1 infoM rfl rfl (by simp [Value.oneCell']) ?_; intro w2 hw2; replace hv := hv.sets (by repeat first | exact .z | apply SetM.s) hw2; clear hw2)
   | ((with_reducible refine at_store (T := 58) ?_); refine wl_stv rfl b_9 rfl _ rfl _ hv.vars.ro hv.vars.so 23 infoBk23 rfl rfl (by simp [Value.oneCell']) ?_; intro w2 hw2; replace hv := hv.sets (by repeat first | exact .z | apply SetM.s) hw2; clear hw2))
 try simp only [Exit.inBlock, Exit.then]
 refine ret_cctt (v := .agg #[.slice (some ⟨mb, 0, none⟩) 1700 mc]) (v' := .agg #[.int .i64 0, .int .i64 16, .slice fa fn fc, .int .u16 av, .int .u16 la, .slice ca cn cc, .int .i64 500, .bool b0, .int .i64 h0, .bool f0, .int .i64 s0, .bool b1, .int .i64 h1, .bool f1, .int .i64 s1, .bool b2, .int .i64 h2, .bool f2, .int .i64 s2, .bool b3, .int .i64 h3, .bool f3, .int .i64 s3]) (v1 := .int .i64 0) (v2 := .int .i64 4) rfl rfl rfl (read_row _ b_8 26 _ (hv.vars.ro (b := b_8)) 1 _ Tryz.underlying26 rfl infoM (by decide) rfl) (read_row _ b_9 58 _ (hv.vars.ro (b := b_9)) 23 _ Tryz.underlying58 rfl infoBk23 (by decide) rfl) rfl rfl rfl ?_
 exact ⟨rfl, hv.keep (by exact List.sublist_append_right [_, _, _, _, _] L)⟩
theorem had_f (rh hd b9 : Nat) (rf : Bool) (rs : Int) (w : World) (hrow : w.rowD b9 = #[.int .i64 hd]) (hlt : b9 < w.heap.size) : Calls Tryz.prog 46 #[.agg #[.bool false, .int .i64 rh, .bool rf, .int .i64 rs], .pointer (some ⟨b9, 0, none⟩)] w fun e w' => e = .returned (.bool false) ∧ New w w' := by
 have hv := Mem.nil w
 have HROW := Lib.hid hrow
 have HLT := Lib.hid hlt
 clear hrow hlt
 go_enter Tryz.func46, Tryz.ntmps46
 go_wp2_with (first
   | ((with_reducible refine at_box (T := 55) (dst := some 2) ?_); refine wl_newb rfl #[.bool false, .int .i64 rh, .bool rf, .int .i64 rs] 55 (fun _ => rfl) ?_; intro b_2 w2 hm2; replace hv := hv.madeAt hm2; clear hm2)
   | ((with_reducible refine at_load (T := 4) ?_); refine wl_ldc rfl b_2 0 rfl _ hv.vars.ro _ Tryz.underlying4 rfl (.bool false) rfl ?_)
   | ((with_reducible refine at_load (T := 3) ?_); refine wl_ldc rfl b_2 1 rfl _ hv.vars.ro _ Tryz.underlying3 rfl (.int .i64 rh) rfl ?_)
   | ((with_reducible refine at_load (T := 3) ?_); refine wl_ldc rfl b9 0 rfl _ ((New.row hv.below HLT.out).trans HROW.out) _ Tryz.underlying3 rfl (.int .i64 hd) rfl ?_))
 go_ret
 exact ⟨rfl, hv.below⟩
theorem had_y (rh hd b9 : Nat) (rf : Bool) (rs : Int) (w : World) (hrow : w.rowD b9 = #[.int .i64 hd]) (hlt : b9 < w.heap.size) (he : rh = hd) : Calls Tryz.prog 46 #[.agg #[.bool true, .int .i64 rh, .bool rf, .int .i64 rs], .pointer (some ⟨b9, 0, none⟩)] w fun e w' => e = .returned (.bool true) ∧ New w w' := by
 have hv := Mem.nil w
 have HROW := Lib.hid hrow
 have HLT := Lib.hid hlt
 have y1 : ((rh : Int) == (hd : Int)) = true := by rw [beq_iff_eq]; omega
 clear he
 clear hrow hlt
 go_enter Tryz.func46, Tryz.ntmps46
 go_wp2_with (first
   | ((with_reducible refine at_box (T := 55) (dst := some 2) ?_); refine wl_newb rfl #[.bool true, .int .i64 rh, .bool rf, .int .i64 rs] 55 (fun _ => rfl) ?_; intro b_2 w2 hm2; replace hv := hv.madeAt hm2; clear hm2)
   | ((with_reducible refine at_load (T := 4) ?_); refine wl_ldc rfl b_2 0 rfl _ hv.vars.ro _ Tryz.underlying4 rfl (.bool true) rfl ?_)
   | ((with_reducible refine at_load (T := 3) ?_); refine wl_ldc rfl b_2 1 rfl _ hv.vars.ro _ Tryz.underlying3 rfl (.int .i64 rh) rfl ?_)
   | ((with_reducible refine at_load (T := 3) ?_); refine wl_ldc rfl b9 0 rfl _ ((New.row hv.below HLT.out).trans HROW.out) _ Tryz.underlying3 rfl (.int .i64 hd) rfl ?_))
 go_ret
 exact ⟨rfl, hv.below⟩
theorem had_n (rh hd b9 : Nat) (rf : Bool) (rs : Int) (w : World) (hrow : w.rowD b9 = #[.int .i64 hd]) (hlt : b9 < w.heap.size) (he : ¬ rh = hd) : Calls Tryz.prog 46 #[.agg #[.bool true, .int .i64 rh, .bool rf, .int .i64 rs], .pointer (some ⟨b9, 0, none⟩)] w fun e w' => e = .returned (.bool false) ∧ New w w' := by
 have hv := Mem.nil w
 have HROW := Lib.hid hrow
 have HLT := Lib.hid hlt
 have y1 : ((rh : Int) == (hd : Int)) = false := by rw [beq_eq_false_iff_ne]; omega
 clear he
 clear hrow hlt
 go_enter Tryz.func46, Tryz.ntmps46
 go_wp2_with (first
   | ((with_reducible refine at_box (T := 55) (dst := some 2) ?_); refine wl_newb rfl #[.bool true, .int .i64 rh, .bool rf, .int .i64 rs] 55 (fun _ => rfl) ?_; intro b_2 w2 hm2; replace hv := hv.madeAt hm2; clear hm2)
   | ((with_reducible refine at_load (T := 4) ?_); refine wl_ldc rfl b_2 0 rfl _ hv.vars.ro _ Tryz.underlying4 rfl (.bool true) rfl ?_)
   | ((with_reducible refine at_load (T := 3) ?_); refine wl_ldc rfl b_2 1 rfl _ hv.vars.ro _ Tryz.underlying3 rfl (.int .i64 rh) rfl ?_)
   | ((with_reducible refine at_load (T := 3) ?_); refine wl_ldc rfl b9 0 rfl _ ((New.row hv.below HLT.out).trans HROW.out) _ Tryz.underlying3 rfl (.int .i64 hd) rfl ?_))
 go_ret
 exact ⟨rfl, hv.below⟩
theorem had_any (rb : Bool) (rh hd b9 : Nat) (rf : Bool) (rs : Int) (w : World) (hrow : w.rowD b9 = #[.int .i64 hd]) (hlt : b9 < w.heap.size) : Calls Tryz.prog 46 #[.agg #[.bool rb, .int .i64 rh, .bool rf, .int .i64 rs], .pointer (some ⟨b9, 0, none⟩)] w fun e w' => e = .returned (.bool (rb && rh == hd)) ∧ New w w' := by
 cases rb with
 | false => exact had_f rh hd b9 rf rs w hrow hlt
 | true =>
   by_cases he : rh = hd
   · rw [show (true && rh == hd) = true from by rw [he]; simp]; exact had_y rh hd b9 rf rs w hrow hlt he
   · rw [show (true && rh == hd) = false from by simpa using he]; exact had_n rh hd b9 rf rs w hrow hlt he
theorem Num_B {w0 w : World} {L : List (Nat × Array Value)} {R : List (Nat × Value × List Value)} (hv : Mem w0 w L R) {vb vc p x : Nat} {pi : Int} {M : List Nat} (hm : InM R vb 0 1700 vc M) (hpi : pi = (p : Nat)) (hp : p + 1 ≤ 1700) (hx : getN M p 1 = x) : Calls Tryz.prog 47 #[.agg #[.slice (some ⟨vb, 0, none⟩) 1700 vc], .int .i64 pi, .int .i64 1] w fun e w' => e = .returned (.tuple #[.int .u64 x, .int .i64 0]) ∧ New w w' := by
 subst hpi hx
 exact Num_ok hv hm p 1 (by decide) (by decide) hp
theorem Done_0 {w0 w : World} {L : List (Nat × Array Value)} {R : List (Nat × Value × List Value)} (hv : Mem w0 w L R) {av la fn fc cn cc : Nat} {fa ca : Option Addr} {free : List Nat} {chs : List Chn} {b0 b1 b2 b3 f0 f1 f2 f3 : Bool} {h0 h1 h2 h3 s0 s1 s2 s3 : Nat} {mb mc nf1 nc1 la1 us hd ln x : Nat} {M : List Nat} (hm : InM R mb 0 1700 mc M) (hq : BlkQ R (.slice fa fn fc) (.slice ca cn cc) free chs [(b0, h0, f0, (s0 : Int)), (b1, h1, f1, (s1 : Int)), (b2, h2, f2, (s2 : Int)), (b3, h3, f3, (s3 : Int))]) (hus : getN M 294 2 = us) (hla : la + 1 = la1) (hla6 : la1 < 65536) (hlu : la < us) (hun : us ≤ la + cn) (hid : getN M (0 + (backN 16 + (4 + 8 * (la % 16)))) 4 = hd) (hlen : getN M (0 + (backN 16 + (4 + 8 * (la % 16))) + 4) 4 = ln) (hln : ln = 1) {c0 : Chn} {rest : List Chn} (hch : chs = c0 :: rest) (hh : c0.h = hd) (hr : ln ≤ c0.rm) (hf1 : fn + c0.ds.length = nf1) (hc1 : cn = nc1 + 1) (hu6 : us < 65536) (hix : idxF (fun r : Rq => r.1 && r.2.1 == hd) [(b0, h0, f0, (s0 : Int)), (b1, h1, f1, (s1 : Int)), (b2, h2, f2, (s2 : Int)), (b3, h3, f3, (s3 : Int))] = 0) (hx : getN M 772 1 = x) :
   Calls Tryz.prog 23 #[.agg #[.slice (some ⟨mb, 0, none⟩) 1700 mc], .agg #[.int .i64 0, .int .i64 16, .slice fa fn fc, .int .u16 av, .int .u16 la, .slice ca cn cc, .int .i64 500, .bool b0, .int .i64 h0, .bool f0, .int .i64 s0, .bool b1, .int .i64 h1, .bool f1, .int .i64 s1, .bool b2, .int .i64 h2, .bool f2, .int .i64 s2, .bool b3, .int .i64 h3, .bool f3, .int .i64 s3]] w (DoneP w0 L R (fun fa5 fc5 ca5 cc5 => #[.int .i64 0, .int .i64 16, .slice fa5 nf1 fc5, .int .u16 av, .int .u16 la1, .slice ca5 nc1 cc5, .int .i64 500, .bool false, .int .i64 0, .bool false, .int .i64 0, .bool b1, .int .i64 h1, .bool f1, .int .i64 s1, .bool b2, .int .i64 h2, .bool f2, .int .i64 s2, .bool b3, .int .i64 h3, .bool f3, .int .i64 s3]) 0 x nf1 nc1 free c0 rest) := by
 have HM := Lib.hid hm
 have HQ := Lib.hid hq
 have HUS := Lib.hid hus
 have HLA1 := Lib.hid hla
 have HLA6 := Lib.hid hla6
 have HLU := Lib.hid hlu
 have HUN := Lib.hid hun
 have HID := Lib.hid hid
 have HLEN := Lib.hid hlen
 have HCH := Lib.hid hch
 have HHD := Lib.hid hh
 have HRM := Lib.hid hr
 have HF1 := Lib.hid hf1
 have HC1 := Lib.hid hc1
 have HU6 := Lib.hid hu6
 have HIX := Lib.hid hix
 have HX := Lib.hid hx
 have H4 : Hid (([(b0, h0, f0, (s0 : Int)), (b1, h1, f1, (s1 : Int)), (b2, h2, f2, (s2 : Int)), (b3, h3, f3, (s3 : Int))] : List Rq).length ≤ 100000) := Lib.hid (by show 4 ≤ 100000; decide)
 have HSC : Hid (∀ (fa5 ca5 : Option Addr) (fc5 cc5 : Nat), ∀ i, i < 4 * 4 → (#[.int .i64 0, .int .i64 16, .slice fa5 nf1 fc5, .int .u16 av, .int .u16 la1, .slice ca5 nc1 cc5, .int .i64 500, .bool b0, .int .i64 h0, .bool f0, .int .i64 s0, .bool b1, .int .i64 h1, .bool f1, .int .i64 s1, .bool b2, .int .i64 h2, .bool f2, .int .i64 s2, .bool b3, .int .i64 h3, .bool f3, .int .i64 s3] : Array Value)[7 + i]? = (cellsR [(b0, h0, f0, (s0 : Int)), (b1, h1, f1, (s1 : Int)), (b2, h2, f2, (s2 : Int)), (b3, h3, f3, (s3 : Int))])[i]?) := Lib.hid (fun fa5 ca5 fc5 cc5 i hi => by
   rcases (show i = 0 ∨ i = 1 ∨ i = 2 ∨ i = 3 ∨ i = 4 ∨ i = 5 ∨ i = 6 ∨ i = 7 ∨ i = 8 ∨ i = 9 ∨ i = 10 ∨ i = 11 ∨ i = 12 ∨ i = 13 ∨ i = 14 ∨ i = 15 from by omega) with rfl | rfl | rfl | rfl | rfl | rfl | rfl | rfl | rfl | rfl | rfl | rfl | rfl | rfl | rfl | rfl <;> rfl)
 have y0 : ((ln : Int) == 1) = true := by rw [beq_iff_eq]; omega
 have y1 : ((ln : Int) != 1) = false := by rw [bne, y0]; rfl
 clear hm hq hus hla hla6 hlu hun hid hlen hln hch hh hr hf1 hc1 hu6 hix hx
 go_enter Tryz.func23, Tryz.ntmps23
 go_wp2_with (first
   | ((with_reducible refine at_box (T := 26) (dst := some 2) ?_); refine wl_newb rfl #[.slice (some ⟨mb, 0, none⟩) 1700 mc] 26 (fun _ => rfl) ?_; intro b_2 w2 hm2; replace hv := hv.madeAt hm2; clear hm2)
   | ((with_reducible refine at_box (T := 58) (dst := some 3) ?_); refine wl_newb rfl #[.int .i64 0, .int .i64 16, .slice fa fn fc, .int .u16 av, .int .u16 la, .slice ca cn cc, .int .i64 500, .bool b0, .int .i64 h0, .bool f0, .int .i64 s0, .bool b1, .int .i64 h1, .bool f1, .int .i64 s1, .bool b2, .int .i64 h2, .bool f2, .int .i64 s2, .bool b3, .int .i64 h3, .bool f3, .int .i64 s3] 58 (fun _ => rfl) ?_; intro b_3 w2 hm2; replace hv := hv.madeAt hm2; clear hm2)
   | ((with_reducible refine at_alloc (T := 58) (dst := some 4) ?_); refine wl_newb rfl #[.int .i64 0, .int .i64 0, .slice none 0 0, .int .u16 0, .int .u16 0, .slice none 0 0, .int .i64 0, .bool false, .int .i64 0, .bool false, .int .i64 0, .bool false, .int .i64 0, .bool false, .int .i64 0, .bool false, .int .i64 0, .bool false, .int .i64 0, .bool false, .int .i64 0, .bool false, .int .i64 0] 58 (fun _ => rfl) ?_; intro b_4 w2 hm2; replace hv := hv.madeAt hm2; clear hm2)
   | ((with_reducible refine at_load (T := 58) ?_); refine wl_ldv rfl b_3 rfl _ hv.vars.ro 23 _ Tryz.underlying58 rfl infoBk23 (by decide) rfl ?_)
   | (go_at_call 25; (with_reducible refine (BCheck_ok hv HQ.out).mono ?_); rintro e w1 ⟨rfl, hn1⟩; replace hv := hv.new hn1; clear hn1)
   | ((with_reducible refine at_load (T := 26) ?_); refine wl_ldv rfl b_2 rfl _ hv.vars.ro 1 _ Tryz.underlying26 rfl infoM (by decide) rfl ?_)
   | ((with_reducible refine at_load (T := 30) ?_); refine wl_ldp rfl b_3 0 rfl _ hv.vars.ro 6 _ Tryz.underlying30 rfl infoQ (by decide) (by show 0 + 6 ≤ 23; decide) #[.int .i64 0, .int .i64 16, .slice fa fn fc, .int .u16 av, .int .u16 la, .slice ca cn cc] rfl ?_)
   | (go_at_call 32; (refine (Poll_B hv HM.out HQ.out.q HQ.out.ok HUS.out HLA1.out HLA6.out HLU.out HUN.out HID.out HLEN.out HCH.out HHD.out HRM.out HF1.out HC1.out HU6.out).mono ?_); rintro e w1 ⟨fa5, fc5, ca5, cc5, free5, R5, rfl, hv1, hq1, ho1, hp1, hso1, hs1⟩; replace hv := hv1; have HQ5 := Lib.hid hq1; have HO5 := Lib.hid ho1; have HP5 := Lib.hid hp1; have HSO5 := Lib.hid hso1; have HS5 := Lib.hid hs1; clear hv1 hq1 ho1 hp1 hso1 hs1)
   | ((with_reducible refine at_alloc (T := 30) (dst := some 8) ?_); refine wl_newb rfl #[.int .i64 0, .int .i64 0, .slice none 0 0, .int .u16 0, .int .u16 0, .slice none 0 0] 30 (fun _ => rfl) ?_; intro b_8 w2 hm2; replace hv := hv.madeAt hm2; clear hm2)
   | ((with_reducible refine at_alloc (T := 3) (dst := some 9) ?_); refine wl_newb rfl #[.int .i64 0] 3 (fun _ => rfl) ?_; intro b_9 w2 hm2; replace hv := hv.madeAt hm2; clear hm2)
   | ((with_reducible refine at_store (T := 30) ?_); refine wl_stv rfl b_8 rfl _ rfl _ hv.vars.ro hv.vars.so 6 infoQ rfl rfl (by simp [Value.oneCell']) ?_; intro w2 hw2; replace hv := hv.sets (by repeat first | exact .z | apply SetM.s) hw2; clear hw2)
   | ((with_reducible refine at_store (T := 3) ?_); refine wl_stc rfl b_9 0 rfl (.int .i64 hd) rfl _ hv.vars.ro hv.vars.so (by kernel_rfl) rfl (by show 0 < 1; decide) ?_; intro w2 hw2; replace hv := hv.sets (by repeat first | exact .z | apply SetM.s) hw2; clear hw2)
   | ((with_reducible refine at_load (T := 30) ?_); refine wl_ldv rfl b_8 rfl _ hv.vars.ro 6 _ Tryz.underlying30 rfl infoQ (by decide) rfl ?_)
   | ((with_reducible refine at_store (T := 30) ?_); refine wl_stp rfl b_3 0 rfl _ rfl _ hv.vars.ro hv.vars.so 6 infoQ rfl (by show 0 + 6 ≤ 23; decide) (by simp [Value.oneCell']) #[.int .i64 0, .int .i64 16, .slice fa5 nf1 fc5, .int .u16 av, .int .u16 la1, .slice ca5 nc1 cc5, .int .i64 500, .bool b0, .int .i64 h0, .bool f0, .int .i64 s0, .bool b1, .int .i64 h1, .bool f1, .int .i64 s1, .bool b2, .int .i64 h2, .bool f2, .int .i64 s2, .bool b3, .int .i64 h3, .bool f3, .int .i64 s3] (splice_23_0_6 _ _ _ _ _ _ _ _ _ _ _ _ _ _ _ _ _ _ _ _ _ _ _ _ _ _ _ _ _) ?_; intro w2 hw2; replace hv := hv.sets (by repeat first | exact .z | apply SetM.s) hw2; clear hw2)
   | (go_at_call 45; have HRD := rd_partK (o := 7) (n := 4) (k := 4) (l := cellsR [(b0, h0, f0, (s0 : Int)), (b1, h1, f1, (s1 : Int)), (b2, h2, f2, (s2 : Int)), (b3, h3, f3, (s3 : Int))]) (hv.vars.ro (b := b_3)) (hv.vars.so (b := b_3)) rfl (HSC.out _ _ _ _) (by unfold maxLen; omega); (refine (IndexR_any H4.out (f := 46) (cap := #[.pointer (some ⟨b_9, 0, none⟩)]) (fun r => r.1 && r.2.1 == hd) (Go.Proofs.enters_of Tryz.func46 (by kernel_rfl) rfl) _ HRD (fun c hc w1 hn => had_any c.1 c.2.1 hd b_9 c.2.2.1 c.2.2.2 w1 ((New.row hn (hv.vars.lt (b := b_9) (by repeat first | exact mz | apply ms))).trans (hv.vars.ro (b := b_9))) (Nat.lt_of_lt_of_le (hv.vars.lt (b := b_9) (by repeat first | exact mz | apply ms)) hn.size))).mono ?_); rw [HIX.out]; rintro e w1 ⟨rfl, hn1⟩; replace hv := hv.new hn1; clear hn1 HRD)
   | ((with_reducible refine at_build (T := 55) ?_); refine wl_build rfl _ rfl built_zrq ?_)
   | ((with_reducible refine at_store (T := 55) ?_); refine wl_stp rfl b_3 7 rfl _ rfl _ hv.vars.ro hv.vars.so 4 infoRq4 rfl (by show 7 + 4 ≤ 23; decide) (by simp [Value.oneCell']) #[.int .i64 0, .int .i64 16, .slice fa5 nf1 fc5, .int .u16 av, .int .u16 la1, .slice ca5 nc1 cc5, .int .i64 500, .bool false, .int .i64 0, .bool false, .int .i64 0, .bool b1, .int .i64 h1, .bool f1, .int .i64 s1, .bool b2, .int .i64 h2, .bool f2, .int .i64 s2, .bool b3, .int .i64 h3, .bool f3, .int .i64 s3] (splice_23_7_4 _ _ _ _ _ _ _ _ _ _ _ _ _ _ _ _ _ _ _ _ _ _ _ _ _ _ _) ?_; intro w2 hw2; replace hv := hv.sets (by repeat first | exact .z | apply SetM.s) hw2; clear hw2)
   | ((with_reducible refine at_load (T := 3) ?_); refine wl_ldc rfl b_3 6 rfl _ hv.vars.ro _ Tryz.underlying3 rfl (.int .i64 500) rfl ?_)
   | (go_at_call 47; (refine (Num_B (p := 772) hv (HM.out.mono HS5.out) (by first | rfl | decide) (by decide) HX.out).mono ?_); rintro e w1 ⟨rfl, hn1⟩; replace hv := hv.new hn1; clear hn1)
   | ((with_reducible refine at_load (T := 58) ?_); refine wl_ldv rfl b_3 rfl _ hv.vars.ro 23 _ Tryz.underlying58 rfl infoBk23 (by decide) rfl ?_)
   | ((with_reducible refine at_store (T := 58) ?_); refine wl_stv rfl b_4 rfl _ rfl _ hv.vars.ro hv.vars.so 23 infoBk23 rfl rfl (by simp [Value.oneCell']) ?_; intro w2 hw2; replace hv := hv.sets (by repeat first | exact .z | apply SetM.s) hw2; clear hw2))
 all_goals try simp only [Exit.inBlock, Exit.then]
 all_goals first
   | (refine ret_cttt (v := .agg #[.int .i64 0, .int .i64 16, .slice fa5 nf1 fc5, .int .u16 av, .int .u16 la1, .slice ca5 nc1 cc5, .int .i64 500, .bool false, .int .i64 0, .bool false, .int .i64 0, .bool b1, .int .i64 h1, .bool f1, .int .i64 s1, .bool b2, .int .i64 h2, .bool f2, .int .i64 s2, .bool b3, .int .i64 h3, .bool f3, .int .i64 s3]) (v1 := .int .i64 0) (v2 := .int .i64 0) (v3 := .int .i64 0) rfl rfl (read_row _ b_4 58 _ (hv.vars.ro (b := b_4)) 23 _ Tryz.underlying58 rfl infoBk23 (by decide) rfl) rfl rfl rfl rfl ?_
      exact ⟨fa5, fc5, ca5, cc5, free5, R5, 0, rfl, by rw [if_pos (by assumption)], hv.keep (by exact List.sublist_append_right [_, _, _, _, _] L), HQ5.out, HO5.out, HP5.out, HSO5.out, HS5.out⟩)
   | (refine ret_cttt (v := .agg #[.int .i64 0, .int .i64 16, .slice fa5 nf1 fc5, .int .u16 av, .int .u16 la1, .slice ca5 nc1 cc5, .int .i64 500, .bool false, .int .i64 0, .bool false, .int .i64 0, .bool b1, .int .i64 h1, .bool f1, .int .i64 s1, .bool b2, .int .i64 h2, .bool f2, .int .i64 s2, .bool b3, .int .i64 h3, .bool f3, .int .i64 s3]) (v1 := .int .i64 0) (v2 := .int .i64 90) (v3 := .int .i64 0) rfl rfl (read_row _ b_4 58 _ (hv.vars.ro (b := b_4)) 23 _ Tryz.underlying58 rfl infoBk23 (by decide) rfl) rfl rfl rfl rfl ?_
      exact ⟨fa5, fc5, ca5, cc5, free5, R5, 90, rfl, by rw [if_neg (by assumption)], hv.keep (by exact List.sublist_append_right [_, _, _, _, _] L), HQ5.out, HO5.out, HP5.out, HSO5.out, HS5.out⟩)
theorem Done_1 {w0 w : World} {L : List (Nat × Array Value)} {R : List (Nat × Value × List Value)} (hv : Mem w0 w L R) {av la fn fc cn cc : Nat} {fa ca : Option Addr} {free : List Nat} {chs : List Chn} {b0 b1 b2 b3 f0 f1 f2 f3 : Bool} {h0 h1 h2 h3 s0 s1 s2 s3 : Nat} {mb mc nf1 nc1 la1 us hd ln x : Nat} {M : List Nat} (hm : InM R mb 0 1700 mc M) (hq : BlkQ R (.slice fa fn fc) (.slice ca cn cc) free chs [(b0, h0, f0, (s0 : Int)), (b1, h1, f1, (s1 : Int)), (b2, h2, f2, (s2 : Int)), (b3, h3, f3, (s3 : Int))]) (hus : getN M 294 2 = us) (hla : la + 1 = la1) (hla6 : la1 < 65536) (hlu : la < us) (hun : us ≤ la + cn) (hid : getN M (0 + (backN 16 + (4 + 8 * (la % 16)))) 4 = hd) (hlen : getN M (0 + (backN 16 + (4 + 8 * (la % 16))) + 4) 4 = ln) (hln : ln = 1) {c0 : Chn} {rest : List Chn} (hch : chs = c0 :: rest) (hh : c0.h = hd) (hr : ln ≤ c0.rm) (hf1 : fn + c0.ds.length = nf1) (hc1 : cn = nc1 + 1) (hu6 : us < 65536) (hix : idxF (fun r : Rq => r.1 && r.2.1 == hd) [(b0, h0, f0, (s0 : Int)), (b1, h1, f1, (s1 : Int)), (b2, h2, f2, (s2 : Int)), (b3, h3, f3, (s3 : Int))] = 1) (hx : getN M 1060 1 = x) :
   Calls Tryz.prog 23 #[.agg #[.slice (some ⟨mb, 0, none⟩) 1700 mc], .agg #[.int .i64 0, .int .i64 16, .slice fa fn fc, .int .u16 av, .int .u16 la, .slice ca cn cc, .int .i64 500, .bool b0, .int .i64 h0, .bool f0, .int .i64 s0, .bool b1, .int .i64 h1, .bool f1, .int .i64 s1, .bool b2, .int .i64 h2, .bool f2, .int .i64 s2, .bool b3, .int .i64 h3, .bool f3, .int .i64 s3]] w (DoneP w0 L R (fun fa5 fc5 ca5 cc5 => #[.int .i64 0, .int .i64 16, .slice fa5 nf1 fc5, .int .u16 av, .int .u16 la1, .slice ca5 nc1 cc5, .int .i64 500, .bool b0, .int .i64 h0, .bool f0, .int .i64 s0, .bool false, .int .i64 0, .bool false, .int .i64 0, .bool b2, .int .i64 h2, .bool f2, .int .i64 s2, .bool b3, .int .i64 h3, .bool f3, .int .i64 s3]) 1 x nf1 nc1 free c0 rest) := by
 have HM := Lib.hid hm
 have HQ := Lib.hid hq
 have HUS := Lib.hid hus
 have HLA1 := Lib.hid hla
 have HLA6 := Lib.hid hla6
 have HLU := Lib.hid hlu
 have HUN := Lib.hid hun
 have HID := Lib.hid hid
 have HLEN := Lib.hid hlen
 have HCH := Lib.hid hch
 have HHD := Lib.hid hh
 have HRM := Lib.hid hr
 have HF1 := Lib.hid hf1
 have HC1 := Lib.hid hc1
 have HU6 := Lib.hid hu6
 have HIX := Lib.hid hix
 have HX := Lib.hid hx
 have H4 : Hid (([(b0, h0, f0, (s0 : Int)), (b1, h1, f1, (s1 : Int)), (b2, h2, f2, (s2 : Int)), (b3, h3, f3, (s3 : Int))] : List Rq).length ≤ 100000) := Lib.hid (by show 4 ≤ 100000; decide)
 have HSC : Hid (∀ (fa5 ca5 : Option Addr) (fc5 cc5 : Nat), ∀ i, i < 4 * 4 → (#[.int .i64 0, .int .i64 16, .slice fa5 nf1 fc5, .int .u16 av, .int .u16 la1, .slice ca5 nc1 cc5, .int .i64 500, .bool b0, .int .i64 h0, .bool f0, .int .i64 s0, .bool b1, .int .i64 h1, .bool f1, .int .i64 s1, .bool b2, .int .i64 h2, .bool f2, .int .i64 s2, .bool b3, .int .i64 h3, .bool f3, .int .i64 s3] : Array Value)[7 + i]? = (cellsR [(b0, h0, f0, (s0 : Int)), (b1, h1, f1, (s1 : Int)), (b2, h2, f2, (s2 : Int)), (b3, h3, f3, (s3 : Int))])[i]?) := Lib.hid (fun fa5 ca5 fc5 cc5 i hi => by
   rcases (show i = 0 ∨ i = 1 ∨ i = 2 ∨ i = 3 ∨ i = 4 ∨ i = 5 ∨ i = 6 ∨ i = 7 ∨ i = 8 ∨ i = 9 ∨ i = 10 ∨ i = 11 ∨ i = 12 ∨ i = 13 ∨ i = 14 ∨ i = 15 from by omega) with rfl | rfl | rfl | rfl | rfl | rfl | rfl | rfl | rfl | rfl | rfl | rfl | rfl | rfl | rfl | rfl <;> rfl)
 have y0 : ((ln : Int) == 1) = true := by rw [beq_iff_eq]; omega
 have y1 : ((ln : Int) != 1) = false := by rw [bne, y0]; rfl
 clear hm hq hus hla hla6 hlu hun hid hlen hln hch hh hr hf1 hc1 hu6 hix hx
 go_enter Tryz.func23, Tryz.ntmps23
 go_wp2_with (first
   | ((with_reducible refine at_box (T := 26) (dst := some 2) ?_); refine wl_newb rfl #[.slice (some ⟨mb, 0, none⟩) 1700 mc] 26 (fun _ => rfl) ?_; intro b_2 w2 hm2; replace hv := hv.madeAt hm2; clear hm2)
   | ((with_reducible refine at_box (T := 58) (dst := some 3) ?_); refine wl_newb rfl #[.int .i64 0, .int .i64 16, .slice fa fn fc, .int .u16 av, .int .u16 la, .slice ca cn cc, .int .i64 500, .bool b0, .int .i64 h0, .bool f0, .int .i64 s0, .bool b1, .int .i64 h1, .bool f1, .int .i64 s1, .bool b2, .int .i64 h2, .bool f2, .int .i64 s2, .bool b3, .int .i64 h3, .bool f3, .int .i64 s3] 58 (fun _ => rfl) ?_; intro b_3 w2 hm2; replace hv := hv.madeAt hm2; clear hm2)
   | ((with_reducible refine at_alloc (T := 58) (dst := some 4) ?_); refine wl_newb rfl #[.int .i64 0, .int .i64 0, .slice none 0 0, .int .u16 0, .int .u16 0, .slice none 0 0, .int .i64 0, .bool false, .int .i64 0, .bool false, .int .i64 0, .bool false, .int .i64 0, .bool false, .int .i64 0, .bool false, .int .i64 0, .bool false, .int .i64 0, .bool false, .int .i64 0, .bool false, .int .i64 0] 58 (fun _ => rfl) ?_; intro b_4 w2 hm2; replace hv := hv.madeAt hm2; clear hm2)
   | ((with_reducible refine at_load (T := 58) ?_); refine wl_ldv rfl b_3 rfl _ hv.vars.ro 23 _ Tryz.underlying58 rfl infoBk23 (by decide) rfl ?_)
   | (go_at_call 25; (with_reducible refine (BCheck_ok hv HQ.out).mono ?_); rintro e w1 ⟨rfl, hn1⟩; replace hv := hv.new hn1; clear hn1)
   | ((with_reducible refine at_load (T := 26) ?_); refine wl_ldv rfl b_2 rfl _ hv.vars.ro 1 _ Tryz.underlying26 rfl infoM (by decide) rfl ?_)
   | ((with_reducible refine at_load (T := 30) ?_); refine wl_ldp rfl b_3 0 rfl _ hv.vars.ro 6 _ Tryz.underlying30 rfl infoQ (by decide) (by show 0 + 6 ≤ 23; decide) #[.int .i64 0, .int .i64 16, .slice fa fn fc, .int .u16 av, .int .u16 la, .slice ca cn cc] rfl ?_)
   | (go_at_call 32; (refine (Poll_B hv HM.out HQ.out.q HQ.out.ok HUS.out HLA1.out HLA6.out HLU.out HUN.out HID.out HLEN.out HCH.out HHD.out HRM.out HF1.out HC1.out HU6.out).mono ?_); rintro e w1 ⟨fa5, fc5, ca5, cc5, free5, R5, rfl, hv1, hq1, ho1, hp1, hso1, hs1⟩; replace hv := hv1; have HQ5 := Lib.hid hq1; have HO5 := Lib.hid ho1; have HP5 := Lib.hid hp1; have HSO5 := Lib.hid hso1; have HS5 := Lib.hid hs1; clear hv1 hq1 ho1 hp1 hso1 hs1)
   | ((with_reducible refine at_alloc (T := 30) (dst := some 8) ?_); refine wl_newb rfl #[.int .i64 0, .int .i64 0, .slice none 0 0, .int .u16 0, .int .u16 0, .slice none 0 0] 30 (fun _ => rfl) ?_; intro b_8 w2 hm2; replace hv := hv.madeAt hm2; clear hm2)
   | ((with_reducible refine at_alloc (T := 3) (dst := some 9) ?_); refine wl_newb rfl #[.int .i64 0] 3 (fun _ => rfl) ?_; intro b_9 w2 hm2; replace hv := hv.madeAt hm2; clear hm2)
   | ((with_reducible refine at_store (T := 30) ?_); refine wl_stv rfl b_8 rfl _ rfl _ hv.vars.ro hv.vars.so 6 infoQ rfl rfl (by simp [Value.oneCell']) ?_; intro w2 hw2; replace hv := hv.sets (by repeat first | exact .z | apply SetM.s) hw2; clear hw2)
   | ((with_reducible refine at_store (T := 3) ?_); refine wl_stc rfl b_9 0 rfl (.int .i64 hd) rfl _ hv.vars.ro hv.vars.so (by kernel_rfl) rfl (by show 0 < 1; decide) ?_; intro w2 hw2; replace hv := hv.sets (by repeat first | exact .z | apply SetM.s) hw2; clear hw2)
   | ((with_reducible refine at_load (T := 30) ?_); refine wl_ldv rfl b_8 rfl _ hv.vars.ro 6 _ Tryz.underlying30 rfl infoQ (by decide) rfl ?_)
   | ((with_reducible refine at_store (T := 30) ?_); refine wl_stp rfl b_3 0 rfl _ rfl _ hv.vars.ro hv.vars.so 6 infoQ rfl (by show 0 + 6 ≤ 23; decide) (by simp [Value.oneCell']) #[.int .i64 0, .int .i64 16, .slice fa5 nf1 fc5, .int .u16 av, .int .u16 la1, .slice ca5 nc1 cc5, .int .i64 500, .bool b0, .int .i64 h0, .bool f0, .int .i64 s0, .bool b1, .int .i64 h1, .bool f1, .int .i64 s1, .bool b2, .int .i64 h2, .bool f2, .int .i64 s2, .bool b3, .int .i64 h3, .bool f3, .int .i64 s3] (splice_23_0_6 _ _ _ _ _ _ _ _ _ _ _ _ _ _ _ _ _ _ _ _ _ _ _ _ _ _ _ _ _) ?_; intro w2 hw2; replace hv := hv.sets (by repeat first | exact .z | apply SetM.s) hw2; clear hw2)
   | (go_at_call 45; have HRD := rd_partK (o := 7) (n := 4) (k := 4) (l := cellsR [(b0, h0, f0, (s0 : Int)), (b1, h1, f1, (s1 : Int)), (b2, h2, f2, (s2 : Int)), (b3, h3, f3, (s3 : Int))]) (hv.vars.ro (b := b_3)) (hv.vars.so (b := b_3)) rfl (HSC.out _ _ _ _) (by unfold maxLen; omega); (refine (IndexR_any H4.out (f := 46) (cap := #[.pointer (some ⟨b_9, 0, none⟩)]) (fun r => r.1 && r.2.1 == hd) (Go.Proofs.enters_of Tryz.func46 (by kernel_rfl) rfl) _ HRD (fun c hc w1 hn => had_any c.1 c.2.1 hd b_9 c.2.2.1 c.2.2.2 w1 ((New.row hn (hv.vars.lt (b := b_9) (by repeat first | exact mz | apply ms))).trans (hv.vars.ro (b := b_9))) (Nat.lt_of_lt_of_le (hv.vars.lt (b := b_9) (by repeat first | exact mz | apply ms)) hn.size))).mono ?_); rw [HIX.out]; rintro e w1 ⟨rfl, hn1⟩; replace hv := hv.new hn1; clear hn1 HRD)
   | ((with_reducible refine at_build (T := 55) ?_); refine wl_build rfl _ rfl built_zrq ?_)
   | ((with_reducible refine at_store (T := 55) ?_); refine wl_stp rfl b_3 11 rfl _ rfl _ hv.vars.ro hv.vars.so 4 infoRq4 rfl (by show 11 + 4 ≤ 23; decide) (by simp [Value.oneCell']) #[.int .i64 0, .int .i64 16, .slice fa5 nf1 fc5, .int .u16 av, .int .u16 la1, .slice ca5 nc1 cc5, .int .i64 500, .bool b0, .int .i64 h0, .bool f0, .int .i64 s0, .bool false, .int .i64 0, .bool false, .int .i64 0, .bool b2, .int .i64 h2, .bool f2, .int .i64 s2, .bool b3, .int .i64 h3, .bool f3, .int .i64 s3] (splice_23_11_4 _ _ _ _ _ _ _ _ _ _ _ _ _ _ _ _ _ _ _ _ _ _ _ _ _ _ _) ?_; intro w2 hw2; replace hv := hv.sets (by repeat first | exact .z | apply SetM.s) hw2; clear hw2)
   | ((with_reducible refine at_load (T := 3) ?_); refine wl_ldc rfl b_3 6 rfl _ hv.vars.ro _ Tryz.underlying3 rfl (.int .i64 500) rfl ?_)
   | (go_at_call 47; (refine (Num_B (p := 1060) hv (HM.out.mono HS5.out) (by first | rfl | decide) (by decide) HX.out).mono ?_); rintro e w1 ⟨rfl, hn1⟩; replace hv := hv.new hn1; clear hn1)
   | ((with_reducible refine at_load (T := 58) ?_); refine wl_ldv rfl b_3 rfl _ hv.vars.ro 23 _ Tryz.underlying58 rfl infoBk23 (by decide) rfl ?_)
   | ((with_reducible refine at_store (T := 58) ?_); refine wl_stv rfl b_4 rfl _ rfl _ hv.vars.ro hv.vars.so 23 infoBk23 rfl rfl (by simp [Value.oneCell']) ?_; intro w2 hw2; replace hv := hv.sets (by repeat first | exact .z | apply SetM.s) hw2; clear hw2))
 all_goals try simp only [Exit.inBlock, Exit.then]
 all_goals first
   | (refine ret_cttt (v := .agg #[.int .i64 0, .int .i64 16, .slice fa5 nf1 fc5, .int .u16 av, .int .u16 la1, .slice ca5 nc1 cc5, .int .i64 500, .bool b0, .int .i64 h0, .bool f0, .int .i64 s0, .bool false, .int .i64 0, .bool false, .int .i64 0, .bool b2, .int .i64 h2, .bool f2, .int .i64 s2, .bool b3, .int .i64 h3, .bool f3, .int .i64 s3]) (v1 := .int .i64 1) (v2 := .int .i64 0) (v3 := .int .i64 0) rfl rfl (read_row _ b_4 58 _ (hv.vars.ro (b := b_4)) 23 _ Tryz.underlying58 rfl infoBk23 (by decide) rfl) rfl rfl rfl rfl ?_
      exact ⟨fa5, fc5, ca5, cc5, free5, R5, 0, rfl, by rw [if_pos (by assumption)], hv.keep (by exact List.sublist_append_right [_, _, _, _, _] L), HQ5.out, HO5.out, HP5.out, HSO5.out, HS5.out⟩)
   | (refine ret_cttt (v := .agg #[.int .i64 0, .int .i64 16, .slice fa5 nf1 fc5, .int .u16 av, .int .u16 la1, .slice ca5 nc1 cc5, .int .i64 500, .bool b0, .int .i64 h0, .bool f0, .int .i64 s0, .bool false, .int .i64 0, .bool false, .int .i64 0, .bool b2, .int .i64 h2, .bool f2, .int .i64 s2, .bool b3, .int .i64 h3, .bool f3, .int .i64 s3]) (v1 := .int .i64 1) (v2 := .int .i64 90) (v3 := .int .i64 0) rfl rfl (read_row _ b_4 58 _ (hv.vars.ro (b := b_4)) 23 _ Tryz.underlying58 rfl infoBk23 (by decide) rfl) rfl rfl rfl rfl ?_
      exact ⟨fa5, fc5, ca5, cc5, free5, R5, 90, rfl, by rw [if_neg (by assumption)], hv.keep (by exact List.sublist_append_right [_, _, _, _, _] L), HQ5.out, HO5.out, HP5.out, HSO5.out, HS5.out⟩)
theorem Done_2 {w0 w : World} {L : List (Nat × Array Value)} {R : List (Nat × Value × List Value)} (hv : Mem w0 w L R) {av la fn fc cn cc : Nat} {fa ca : Option Addr} {free : List Nat} {chs : List Chn} {b0 b1 b2 b3 f0 f1 f2 f3 : Bool} {h0 h1 h2 h3 s0 s1 s2 s3 : Nat} {mb mc nf1 nc1 la1 us hd ln x : Nat} {M : List Nat} (hm : InM R mb 0 1700 mc M) (hq : BlkQ R (.slice fa fn fc) (.slice ca cn cc) free chs [(b0, h0, f0, (s0 : Int)), (b1, h1, f1, (s1 : Int)), (b2, h2, f2, (s2 : Int)), (b3, h3, f3, (s3 : Int))]) (hus : getN M 294 2 = us) (hla : la + 1 = la1) (hla6 : la1 < 65536) (hlu : la < us) (hun : us ≤ la + cn) (hid : getN M (0 + (backN 16 + (4 + 8 * (la % 16)))) 4 = hd) (hlen : getN M (0 + (backN 16 + (4 + 8 * (la % 16))) + 4) 4 = ln) (hln : ln = 1) {c0 : Chn} {rest : List Chn} (hch : chs = c0 :: rest) (hh : c0.h = hd) (hr : ln ≤ c0.rm) (hf1 : fn + c0.ds.length = nf1) (hc1 : cn = nc1 + 1) (hu6 : us < 65536) (hix : idxF (fun r : Rq => r.1 && r.2.1 == hd) [(b0, h0, f0, (s0 : Int)), (b1, h1, f1, (s1 : Int)), (b2, h2, f2, (s2 : Int)), (b3, h3, f3, (s3 : Int))] = 2) (hx : getN M 1348 1 = x) :
   Calls Tryz.prog 23 #[.agg #[.slice (some ⟨mb, 0, none⟩) 1700 mc], .agg #[.int .i64 0, .int .i64 16, .slice fa fn fc, .int .u16 av, .int .u16 la, .slice ca cn cc, .int .i64 500, .bool b0, .int .i64 h0, .bool f0, .int .i64 s0, .bool b1, .int .i64 h1, .bool f1, .int .i64 s1, .bool b2, .int .i64 h2, .bool f2, .int .i64 s2, .bool b3, .int .i64 h3, .bool f3, .int .i64 s3]] w (DoneP w0 L R (fun fa5 fc5 ca5 cc5 => #[.int .i64 0, .int .i64 16, .slice fa5 nf1 fc5, .int .u16 av, .int .u16 la1, .slice ca5 nc1 cc5, .int .i64 500, .bool b0, .int .i64 h0, .bool f0, .int .i64 s0, .bool b1, .int .i64 h1, .bool f1, .int .i64 s1, .bool false, .int .i64 0, .bool false, .int .i64 0, .bool b3, .int .i64 h3, .bool f3, .int .i64 s3]) 2 x nf1 nc1 free c0 rest) := by
 have HM := Lib.hid hm
 have HQ := Lib.hid hq
 have HUS := Lib.hid hus
 have HLA1 := Lib.hid hla
 have HLA6 := Lib.hid hla6
 have HLU := Lib.hid hlu
 have HUN := Lib.hid hun
 have HID := Lib.hid hid
 have HLEN := Lib.hid hlen
 have HCH := Lib.hid hch
 have HHD := Lib.hid hh
 have HRM := Lib.hid hr
 have HF1 := Lib.hid hf1
 have HC1 := Lib.hid hc1
 have HU6 := Lib.hid hu6
 have HIX := Lib.hid hix
 have HX := Lib.hid hx
 have H4 : Hid (([(b0, h0, f0, (s0 : Int)), (b1, h1, f1, (s1 : Int)), (b2, h2, f2, (s2 : Int)), (b3, h3, f3, (s3 : Int))] : List Rq).length ≤ 100000) := Lib.hid (by show 4 ≤ 100000; decide)
 have HSC : Hid (∀ (fa5 ca5 : Option Addr) (fc5 cc5 : Nat), ∀ i, i < 4 * 4 → (#[.int .i64 0, .int .i64 16, .slice fa5 nf1 fc5, .int .u16 av, .int .u16 la1, .slice ca5 nc1 cc5, .int .i64 500, .bool b0, .int .i64 h0, .bool f0, .int .i64 s0, .bool b1, .int .i64 h1, .bool f1, .int .i64 s1, .bool b2, .int .i64 h2, .bool f2, .int .i64 s2, .bool b3, .int .i64 h3, .bool f3, .int .i64 s3] : Array Value)[7 + i]? = (cellsR [(b0, h0, f0, (s0 : Int)), (b1, h1, f1, (s1 : Int)), (b2, h2, f2, (s2 : Int)), (b3, h3, f3, (s3 : Int))])[i]?) := Lib.hid (fun fa5 ca5 fc5 cc5 i hi => by
   rcases (show i = 0 ∨ i = 1 ∨ i = 2 ∨ i = 3 ∨ i = 4 ∨ i = 5 ∨ i = 6 ∨ i = 7 ∨ i = 8 ∨ i = 9 ∨ i = 10 ∨ i = 11 ∨ i = 12 ∨ i = 13 ∨ i = 14 ∨ i = 15 from by omega) with rfl | rfl | rfl | rfl | rfl | rfl | rfl | rfl | rfl | rfl | rfl | rfl | rfl | rfl | rfl | rfl <;> rfl)
 have y0 : ((ln : Int) == 1) = true := by rw [beq_iff_eq]; omega
 have y1 : ((ln : Int) != 1) = false := by rw [bne, y0]; rfl
 clear hm hq hus hla hla6 hlu hun hid hlen hln hch hh hr hf1 hc1 hu6 hix hx
 go_enter Tryz.func23, Tryz.ntmps23
 go_wp2_with (first
   | ((with_reducible refine at_box (T := 26) (dst := some 2) ?_); refine wl_newb rfl #[.slice (some ⟨mb, 0, none⟩) 1700 mc] 26 (fun _ => rfl) ?_; intro b_2 w2 hm2; replace hv := hv.madeAt hm2; clear hm2)
   | ((with_reducible refine at_box (T := 58) (dst := some 3) ?_); refine wl_newb rfl #[.int .i64 0, .int .i64 16, .slice fa fn fc, .int .u16 av, .int .u16 la, .slice ca cn cc, .int .i64 500, .bool b0, .int .i64 h0, .bool f0, .int .i64 s0, .bool b1, .int .i64 h1, .bool f1, .int .i64 s1, .bool b2, .int .i64 h2, .bool f2, .int .i64 s2, .bool b3, .int .i64 h3, .bool f3, .int .i64 s3] 58 (fun _ => rfl) ?_; intro b_3 w2 hm2; replace hv := hv.madeAt hm2; clear hm2)
   | ((with_reducible refine at_alloc (T := 58) (dst := some 4) ?_); refine wl_newb rfl #[.int .i64 0, .int .i64 0, .slice none 0 0, .int .u16 0, .int .u16 0, .slice none 0 0, .int .i64 0, .bool false, .int .i64 0, .bool false, .int .i64 0, .bool false, .int .i64 0, .bool false, .int .i64 0, .bool false, .int .i64 0, .bool false, .int .i64 0, .bool false, .int .i64 0, .bool false, .int .i64 0] 58 (fun _ => rfl) ?_; intro b_4 w2 hm2; replace hv := hv.madeAt hm2; clear hm2)
   | ((with_reducible refine at_load (T := 58) ?_); refine wl_ldv rfl b_3 rfl _ hv.vars.ro 23 _ Tryz.underlying58 rfl infoBk23 (by decide) rfl ?_)
   | (go_at_call 25; (with_reducible refine (BCheck_ok hv HQ.out).mono ?_); rintro e w1 ⟨rfl, hn1⟩; replace hv := hv.new hn1; clear hn1)
   | ((with_reducible refine at_load (T := 26) ?_); refine wl_ldv rfl b_2 rfl _ hv.vars.ro 1 _ Tryz.underlying26 rfl infoM (by decide) rfl ?_)
   | ((with_reducible refine at_load (T := 30) ?_); refine wl_ldp rfl b_3 0 rfl _ hv.vars.ro 6 _ Tryz.underlying30 rfl infoQ (by decide) (by show 0 + 6 ≤ 23; decide) #[.int .i64 0, .int .i64 16, .slice fa fn fc, .int .u16 av, .int .u16 la, .slice ca cn cc] rfl ?_)
   | (go_at_call 32; (refine (Poll_B hv HM.out HQ.out.q HQ.out.ok HUS.out HLA1.out HLA6.out HLU.out HUN.out HID.out HLEN.out HCH.out HHD.out HRM.out HF1.out HC1.out HU6.out).mono ?_); rintro e w1 ⟨fa5, fc5, ca5, cc5, free5, R5, rfl, hv1, hq1, ho1, hp1, hso1, hs1⟩; replace hv := hv1; have HQ5 := Lib.hid hq1; have HO5 := Lib.hid ho1; have HP5 := Lib.hid hp1; have HSO5 := Lib.hid hso1; have HS5 := Lib.hid hs1; clear hv1 hq1 ho1 hp1 hso1 hs1)
   | ((with_reducible refine at_alloc (T := 30) (dst := some 8) ?_); refine wl_newb rfl #[.int .i64 0, .int .i64 0, .slice none 0 0, .int .u16 0, .int .u16 0, .slice none 0 0] 30 (fun _ => rfl) ?_; intro b_8 w2 hm2; replace hv := hv.madeAt hm2; clear hm2)
   | ((with_reducible refine at_alloc (T := 3) (dst := some 9) ?_); refine wl_newb rfl #[.int .i64 0] 3 (fun _ => rfl) ?_; intro b_9 w2 hm2; replace hv := hv.madeAt hm2; clear hm2)
   | ((with_reducible refine at_store (T := 30) ?_); refine wl_stv rfl b_8 rfl _ rfl _ hv.vars.ro hv.vars.so 6 infoQ rfl rfl (by simp [Value.oneCell']) ?_; intro w2 hw2; replace hv := hv.sets (by repeat first | exact .z | apply SetM.s) hw2; clear hw2)
   | ((with_reducible refine at_store (T := 3) ?_); refine wl_stc rfl b_9 0 rfl (.int .i64 hd) rfl _ hv.vars.ro hv.vars.so (by kernel_rfl) rfl (by show 0 < 1; decide) ?_; intro w2 hw2; replace hv := hv.sets (by repeat first | exact .z | apply SetM.s) hw2; clear hw2)
   | ((with_reducible refine at_load (T := 30) ?_); refine wl_ldv rfl b_8 rfl _ hv.vars.ro 6 _ Tryz.underlying30 rfl infoQ (by decide) rfl ?_)
   | ((with_reducible refine at_store (T := 30) ?_); refine wl_stp rfl b_3 0 rfl _ rfl _ hv.vars.ro hv.vars.so 6 infoQ rfl (by show 0 + 6 ≤ 23; decide) (by simp [Value.oneCell']) #[.int .i64 0, .int .i64 16, .slice fa5 nf1 fc5, .int .u16 av, .int .u16 la1, .slice ca5 nc1 cc5, .int .i64 500, .bool b0, .int .i64 h0, .bool f0, .int .i64 s0, .bool b1, .int .i64 h1, .bool f1, .int .i64 s1, .bool b2, .int .i64 h2, .bool f2, .int .i64 s2, .bool b3, .int .i64 h3, .bool f3, .int .i64 s3] (splice_23_0_6 _ _ _ _ _ _ _ _ _ _ _ _ _ _ _ _ _ _ _ _ _ _ _ _ _ _ _ _ _) ?_; intro w2 hw2; replace hv := hv.sets (by repeat first | exact .z | apply SetM.s) hw2; clear hw2)
   | (go_at_call 45; have HRD := rd_partK (o := 7) (n := 4) (k := 4) (l := cellsR [(b0, h0, f0, (s0 : Int)), (b1, h1, f1, (s1 : Int)), (b2, h2, f2, (s2 : Int)), (b3, h3, f3, (s3 : Int))]) (hv.vars.ro (b := b_3)) (hv.vars.so (b := b_3)) rfl (HSC.out _ _ _ _) (by unfold maxLen; omega); (refine (IndexR_any H4.out (f := 46) (cap := #[.pointer (some ⟨b_9, 0, none⟩)]) (fun r => r.1 && r.2.1 == hd) (Go.Proofs.enters_of Tryz.func46 (by kernel_rfl) rfl) _ HRD (fun c hc w1 hn => had_any c.1 c.2.1 hd b_9 c.2.2.1 c.2.2.2 w1 ((New.row hn (hv.vars.lt (b := b_9) (by repeat first | exact mz | apply ms))).trans (hv.vars.ro (b := b_9))) (Nat.lt_of_lt_of_le (hv.vars.lt (b := b_9) (by repeat first | exact mz | apply ms)) hn.size))).mono ?_); rw [HIX.out]; rintro e w1 ⟨rfl, hn1⟩; replace hv := hv.new hn1; clear hn1 HRD)
   | ((with_reducible refine at_build (T := 55) ?_); refine wl_build rfl _ rfl built_zrq ?_)
   | ((with_reducible refine at_store (T := 55) ?_); refine wl_stp rfl b_3 15 rfl _ rfl _ hv.vars.ro hv.vars.so 4 infoRq4 rfl (by show 15 + 4 ≤ 23; decide) (by simp [Value.oneCell']) #[.int .i64 0, .int .i64 16, .slice fa5 nf1 fc5, .int .u16 av, .int .u16 la1, .slice ca5 nc1 cc5, .int .i64 500, .bool b0, .int .i64 h0, .bool f0, .int .i64 s0, .bool b1, .int .i64 h1, .bool f1, .int .i64 s1, .bool false, .int .i64 0, .bool false, .int .i64 0, .bool b3, .int .i64 h3, .bool f3, .int .i64 s3] (splice_23_15_4 _ _ _ _ _ _ _ _ _ _ _ _ _ _ _ _ _ _ _ _ _ _ _ _ _ _ _) ?_; intro w2 hw2; replace hv := hv.sets (by repeat first | exact .z | apply SetM.s) hw2; clear hw2)
   | ((with_reducible refine at_load (T := 3) ?_); refine wl_ldc rfl b_3 6 rfl _ hv.vars.ro _ Tryz.underlying3 rfl (.int .i64 500) rfl ?_)
   | (go_at_call 47; (refine (Num_B (p := 1348) hv (HM.out.mono HS5.out) (by first | rfl | decide) (by decide) HX.out).mono ?_); rintro e w1 ⟨rfl, hn1⟩; replace hv := hv.new hn1; clear hn1)
   | ((with_reducible refine at_load (T := 58) ?_); refine wl_ldv rfl b_3 rfl _ hv.vars.ro 23 _ Tryz.underlying58 rfl infoBk23 (by decide) rfl ?_)
   | ((with_reducible refine at_store (T := 58) ?_); refine wl_stv rfl b_4 rfl _ rfl _ hv.vars.ro hv.vars.so 23 infoBk23 rfl rfl (by simp [Value.oneCell']) ?_; intro w2 hw2; replace hv := hv.sets (by repeat first | exact .z | apply SetM.s) hw2; clear hw2))
 all_goals try simp only [Exit.inBlock, Exit.then]
 all_goals first
   | (refine ret_cttt (v := .agg #[.int .i64 0, .int .i64 16, .slice fa5 nf1 fc5, .int .u16 av, .int .u16 la1, .slice ca5 nc1 cc5, .int .i64 500, .bool b0, .int .i64 h0, .bool f0, .int .i64 s0, .bool b1, .int .i64 h1, .bool f1, .int .i64 s1, .bool false, .int .i64 0, .bool false, .int .i64 0, .bool b3, .int .i64 h3, .bool f3, .int .i64 s3]) (v1 := .int .i64 2) (v2 := .int .i64 0) (v3 := .int .i64 0) rfl rfl (read_row _ b_4 58 _ (hv.vars.ro (b := b_4)) 23 _ Tryz.underlying58 rfl infoBk23 (by decide) rfl) rfl rfl rfl rfl ?_
      exact ⟨fa5, fc5, ca5, cc5, free5, R5, 0, rfl, by rw [if_pos (by assumption)], hv.keep (by exact List.sublist_append_right [_, _, _, _, _] L), HQ5.out, HO5.out, HP5.out, HSO5.out, HS5.out⟩)
   | (refine ret_cttt (v := .agg #[.int .i64 0, .int .i64 16, .slice fa5 nf1 fc5, .int .u16 av, .int .u16 la1, .slice ca5 nc1 cc5, .int .i64 500, .bool b0, .int .i64 h0, .bool f0, .int .i64 s0, .bool b1, .int .i64 h1, .bool f1, .int .i64 s1, .bool false, .int .i64 0, .bool false, .int .i64 0, .bool b3, .int .i64 h3, .bool f3, .int .i64 s3]) (v1 := .int .i64 2) (v2 := .int .i64 90) (v3 := .int .i64 0) rfl rfl (read_row _ b_4 58 _ (hv.vars.ro (b := b_4)) 23 _ Tryz.underlying58 rfl infoBk23 (by decide) rfl) rfl rfl rfl rfl ?_
      exact ⟨fa5, fc5, ca5, cc5, free5, R5, 90, rfl, by rw [if_neg (by assumption)], hv.keep (by exact List.sublist_append_right [_, _, _, _, _] L), HQ5.out, HO5.out, HP5.out, HSO5.out, HS5.out⟩)
theorem Done_3 {w0 w : World} {L : List (Nat × Array Value)} {R : List (Nat × Value × List Value)} (hv : Mem w0 w L R) {av la fn fc cn cc : Nat} {fa ca : Option Addr} {free : List Nat} {chs : List Chn} {b0 b1 b2 b3 f0 f1 f2 f3 : Bool} {h0 h1 h2 h3 s0 s1 s2 s3 : Nat} {mb mc nf1 nc1 la1 us hd ln x : Nat} {M : List Nat} (hm : InM R mb 0 1700 mc M) (hq : BlkQ R (.slice fa fn fc) (.slice ca cn cc) free chs [(b0, h0, f0, (s0 : Int)), (b1, h1, f1, (s1 : Int)), (b2, h2, f2, (s2 : Int)), (b3, h3, f3, (s3 : Int))]) (hus : getN M 294 2 = us) (hla : la + 1 = la1) (hla6 : la1 < 65536) (hlu : la < us) (hun : us ≤ la + cn) (hid : getN M (0 + (backN 16 + (4 + 8 * (la % 16)))) 4 = hd) (hlen : getN M (0 + (backN 16 + (4 + 8 * (la % 16))) + 4) 4 = ln) (hln : ln = 1) {c0 : Chn} {rest : List Chn} (hch : chs = c0 :: rest) (hh : c0.h = hd) (hr : ln ≤ c0.rm) (hf1 : fn + c0.ds.length = nf1) (hc1 : cn = nc1 + 1) (hu6 : us < 65536) (hix : idxF (fun r : Rq => r.1 && r.2.1 == hd) [(b0, h0, f0, (s0 : Int)), (b1, h1, f1, (s1 : Int)), (b2, h2, f2, (s2 : Int)), (b3, h3, f3, (s3 : Int))] = 3) (hx : getN M 1636 1 = x) :
   Calls Tryz.prog 23 #[.agg #[.slice (some ⟨mb, 0, none⟩) 1700 mc], .agg #[.int .i64 0, .int .i64 16, .slice fa fn fc, .int .u16 av, .int .u16 la, .slice ca cn cc, .int .i64 500, .bool b0, .int .i64 h0, .bool f0, .int .i64 s0, .bool b1, .int .i64 h1, .bool f1, .int .i64 s1, .bool b2, .int .i64 h2, .bool f2, .int .i64 s2, .bool b3, .int .i64 h3, .bool f3, .int .i64 s3]] w (DoneP w0 L R (fun fa5 fc5 ca5 cc5 => #[.int .i64 0, .int .i64 16, .slice fa5 nf1 fc5, .int .u16 av, .int .u16 la1, .slice ca5 nc1 cc5, .int .i64 500, .bool b0, .int .i64 h0, .bool f0, .int .i64 s0, .bool b1, .int .i64 h1, .bool f1, .int .i64 s1, .bool b2, .int .i64 h2, .bool f2, .int .i64 s2, .bool false, .int .i64 0, .bool false, .int .i64 0]) 3 x nf1 nc1 free c0 rest) := by
 have HM := Lib.hid hm
 have HQ := Lib.hid hq
 have HUS := Lib.hid hus
 have HLA1 := Lib.hid hla
 have HLA6 := Lib.hid hla6
 have HLU := Lib.hid hlu
 have HUN := Lib.hid hun
 have HID := Lib.hid hid
 have HLEN := Lib.hid hlen
 have HCH := Lib.hid hch
 have HHD := Lib.hid hh
 have HRM := Lib.hid hr
 have HF1 := Lib.hid hf1
 have HC1 := Lib.hid hc1
 have HU6 := Lib.hid hu6
 have HIX := Lib.hid hix
 have HX := Lib.hid hx
 have H4 : Hid (([(b0, h0, f0, (s0 : Int)), (b1, h1, f1, (s1 : Int)), (b2, h2, f2, (s2 : Int)), (b3, h3, f3, (s3 : Int))] : List Rq).length ≤ 100000) := Lib.hid (by show 4 ≤ 100000; decide)
 have HSC : Hid (∀ (fa5 ca5 : Option Addr) (fc5 cc5 : Nat), ∀ i, i < 4 * 4 → (#[.int .i64 0, .int .i64 16, .slice fa5 nf1 fc5, .int .u16 av, .int .u16 la1, .slice ca5 nc1 cc5, .int .i64 500, .bool b0, .int .i64 h0, .bool f0, .int .i64 s0, .bool b1, .int .i64 h1, .bool f1, .int .i64 s1, .bool b2, .int .i64 h2, .bool f2, .int .i64 s2, .bool b3, .int .i64 h3, .bool f3, .int .i64 s3] : Array Value)[7 + i]? = (cellsR [(b0, h0, f0, (s0 : Int)), (b1, h1, f1, (s1 : Int)), (b2, h2, f2, (s2 : Int)), (b3, h3, f3, (s3 : Int))])[i]?) := Lib.hid (fun fa5 ca5 fc5 cc5 i hi => by
   rcases (show i = 0 ∨ i = 1 ∨ i = 2 ∨ i = 3 ∨ i = 4 ∨ i = 5 ∨ i = 6 ∨ i = 7 ∨ i = 8 ∨ i = 9 ∨ i = 10 ∨ i = 11 ∨ i = 12 ∨ i = 13 ∨ i = 14 ∨ i = 15 from by omega) with rfl | rfl | rfl | rfl | rfl | rfl | rfl | rfl | rfl | rfl | rfl | rfl | rfl | rfl | rfl | rfl <;> rfl)
 have y0 : ((ln : Int) == 1) = true := by rw [beq_iff_eq]; omega
 have y1 : ((ln : Int) != 1) = false := by rw [bne, y0]; rfl
 clear hm hq hus hla hla6 hlu hun hid hlen hln hch hh hr hf1 hc1 hu6 hix hx
 go_enter Tryz.func23, Tryz.ntmps23
 go_wp2_with (first
   | ((with_reducible refine at_box (T := 26) (dst := some 2) ?_); refine wl_newb rfl #[.slice (some ⟨mb, 0, none⟩) 1700 mc] 26 (fun _ => rfl) ?_; intro b_2 w2 hm2; replace hv := hv.madeAt hm2; clear hm2)
   | ((with_reducible refine at_box (T := 58) (dst := some 3) ?_); refine wl_newb rfl #[.int .i64 0, .int .i64 16, .slice fa fn fc, .int .u16 av, .int .u16 la, .slice ca cn cc, .int .i64 500, .bool b0, .int .i64 h0, .bool f0, .int .i64 s0, .bool b1, .int .i64 h1, .bool f1, .int .i64 s1, .bool b2, .int .i64 h2, .bool f2, .int .i64 s2, .bool b3, .int .i64 h3, .bool f3, .int .i64 s3] 58 (fun _ => rfl) ?_; intro b_3 w2 hm2; replace hv := hv.madeAt hm2; clear hm2)
   | ((with_reducible refine at_alloc (T := 58) (dst := some 4) ?_); refine wl_newb rfl #[.int .i64 0, .int .i64 0, .slice none 0 0, .int .u16 0, .int .u16 0, .slice none 0 0, .int .i64 0, .bool false, .int .i64 0, .bool false, .int .i64 0, .bool false, .int .i64 0, .bool false, .int .i64 0, .bool false, .int .i64 0, .bool false, .int .i64 0, .bool false, .int .i64 0, .bool false, .int .i64 0] 58 (fun _ => rfl) ?_; intro b_4 w2 hm2; replace hv := hv.madeAt hm2; clear hm2)
   | ((with_reducible refine at_load (T := 58) ?_); refine wl_ldv rfl b_3 rfl _ hv.vars.ro 23 _ Tryz.underlying58 rfl infoBk23 (by decide) rfl ?_)
   | (go_at_call 25; (with_reducible refine (BCheck_ok hv HQ.out).mono ?_); rintro e w1 ⟨rfl, hn1⟩; replace hv := hv.new hn1; clear hn1)
   | ((with_reducible refine at_load (T := 26) ?_); refine wl_ldv rfl b_2 rfl _ hv.vars.ro 1 _ Tryz.underlying26 rfl infoM (by decide) rfl ?_)
   | ((with_reducible refine at_load (T := 30) ?_); refine wl_ldp rfl b_3 0 rfl _ hv.vars.ro 6 _ Tryz.underlying30 rfl infoQ (by decide) (by show 0 + 6 ≤ 23; decide) #[.int .i64 0, .int .i64 16, .slice fa fn fc, .int .u16 av, .int .u16 la, .slice ca cn cc] rfl ?_)
   | (go_at_call 32; (refine (Poll_B hv HM.out HQ.out.q HQ.out.ok HUS.out HLA1.out HLA6.out HLU.out HUN.out HID.out HLEN.out HCH.out HHD.out HRM.out HF1.out HC1.out HU6.out).mono ?_); rintro e w1 ⟨fa5, fc5, ca5, cc5, free5, R5, rfl, hv1, hq1, ho1, hp1, hso1, hs1⟩; replace hv := hv1; have HQ5 := Lib.hid hq1; have HO5 := Lib.hid ho1; have HP5 := Lib.hid hp1; have HSO5 := Lib.hid hso1; have HS5 := Lib.hid hs1; clear hv1 hq1 ho1 hp1 hso1 hs1)
   | ((with_reducible refine at_alloc (T := 30) (dst := some 8) ?_); refine wl_newb rfl #[.int .i64 0, .int .i64 0, .slice none 0 0, .int .u16 0, .int .u16 0, .slice none 0 0] 30 (fun _ => rfl) ?_; intro b_8 w2 hm2; replace hv := hv.madeAt hm2; clear hm2)
   | ((with_reducible refine at_alloc (T := 3) (dst := some 9) ?_); refine wl_newb rfl #[.int .i64 0] 3 (fun _ => rfl) ?_; intro b_9 w2 hm2; replace hv := hv.madeAt hm2; clear hm2)
   | ((with_reducible refine at_store (T := 30) ?_); refine wl_stv rfl b_8 rfl _ rfl _ hv.vars.ro hv.vars.so 6 infoQ rfl rfl (by simp [Value.oneCell']) ?_; intro w2 hw2; replace hv := hv.sets (by repeat first | exact .z | apply SetM.s) hw2; clear hw2)
   | ((with_reducible refine at_store (T := 3) ?_); refine wl_stc rfl b_9 0 rfl (.int .i64 hd) rfl _ hv.vars.ro hv.vars.so (by kernel_rfl) rfl (by show 0 < 1; decide) ?_; intro w2 hw2; replace hv := hv.sets (by repeat first | exact .z | apply SetM.s) hw2; clear hw2)
   | ((with_reducible refine at_load (T := 30) ?_); refine wl_ldv rfl b_8 rfl _ hv.vars.ro 6 _ Tryz.underlying30 rfl infoQ (by decide) rfl ?_)
   | ((with_reducible refine at_store (T := 30) ?_); refine wl_stp rfl b_3 0 rfl _ rfl _ hv.vars.ro hv.vars.so 6 infoQ rfl (by show 0 + 6 ≤ 23; decide) (by simp [Value.oneCell']) #[.int .i64 0, .int .i64 16, .slice fa5 nf1 fc5, .int .u16 av, .int .u16 la1, .slice ca5 nc1 cc5, .int .i64 500, .bool b0, .int .i64 h0, .bool f0, .int .i64 s0, .bool b1, .int .i64 h1, .bool f1, .int .i64 s1, .bool b2, .int .i64 h2, .bool f2, .int .i64 s2, .bool b3, .int .i64 h3, .bool f3, .int .i64 s3] (splice_23_0_6 _ _ _ _ _ _ _ _ _ _ _ _ _ _ _ _ _ _ _ _ _ _ _ _ _ _ _ _ _) ?_; intro w2 hw2; replace hv := hv.sets (by repeat first | exact .z | apply SetM.s) hw2; clear hw2)
   | (go_at_call 45; have HRD := rd_partK (o := 7) (n := 4) (k := 4) (l := cellsR [(b0, h0, f0, (s0 : Int)), (b1, h1, f1, (s1 : Int)), (b2, h2, f2, (s2 : Int)), (b3, h3, f3, (s3 : Int))]) (hv.vars.ro (b := b_3)) (hv.vars.so (b := b_3)) rfl (HSC.out _ _ _ _) (by unfold maxLen; omega); (refine (IndexR_any H4.out (f := 46) (cap := #[.pointer (some ⟨b_9, 0, none⟩)]) (fun r => r.1 && r.2.1 == hd) (Go.Proofs.enters_of Tryz.func46 (by kernel_rfl) rfl) _ HRD (fun c hc w1 hn => had_any c.1 c.2.1 hd b_9 c.2.2.1 c.2.2.2 w1 ((New.row hn (hv.vars.lt (b := b_9) (by repeat first | exact mz | apply ms))).trans (hv.vars.ro (b := b_9))) (Nat.lt_of_lt_of_le (hv.vars.lt (b := b_9) (by repeat first | exact mz | apply ms)) hn.size))).mono ?_); rw [HIX.out]; rintro e w1 ⟨rfl, hn1⟩; replace hv := hv.new hn1; clear hn1 HRD)
   | ((with_reducible refine at_build (T := 55) ?_); refine wl_build rfl _ rfl built_zrq ?_)
   | ((with_reducible refine at_store (T := 55) ?_); refine wl_stp rfl b_3 19 rfl _ rfl _ hv.vars.ro hv.vars.so 4 infoRq4 rfl (by show 19 + 4 ≤ 23; decide) (by simp [Value.oneCell']) #[.int .i64 0, .int .i64 16, .slice fa5 nf1 fc5, .int .u16 av, .int .u16 la1, .slice ca5 nc1 cc5, .int .i64 500, .bool b0, .int .i64 h0, .bool f0, .int .i64 s0, .bool b1, .int .i64 h1, .bool f1, .int .i64 s1, .bool b2, .int .i64 h2, .bool f2, .int .i64 s2, .bool false, .int .i64 0, .bool false, .int .i64 0] (splice_23_19_4 _ _ _ _ _ _ _ _ _ _ _ _ _ _ _ _ _ _ _ _ _ _ _ _ _ _ _) ?_; intro w2 hw2; replace hv := hv.sets (by repeat first | exact .z | apply SetM.s) hw2; clear hw2)
   | ((with_reducible refine at_load (T := 3) ?_); refine wl_ldc rfl b_3 6 rfl _ hv.vars.ro _ Tryz.underlying3 rfl (.int .i64 500) rfl ?_)
   | (go_at_call 47; (refine (Num_B (p := 1636) hv (HM.out.mono HS5.out) (by first | rfl | decide) (by decide) HX.out).mono ?_); rintro e w1 ⟨rfl, hn1⟩; replace hv := hv.new hn1; clear hn1)
   | ((with_reducible refine at_load (T := 58) ?_); refine wl_ldv rfl b_3 rfl _ hv.vars.ro 23 _ Tryz.underlying58 rfl infoBk23 (by decide) rfl ?_)
   | ((with_reducible refine at_store (T := 58) ?_); refine wl_stv rfl b_4 rfl _ rfl _ hv.vars.ro hv.vars.so 23 infoBk23 rfl rfl (by simp [Value.oneCell']) ?_; intro w2 hw2; replace hv := hv.sets (by repeat first | exact .z | apply SetM.s) hw2; clear hw2))
 all_goals try simp only [Exit.inBlock, Exit.then]
 all_goals first
   | (refine ret_cttt (v := .agg #[.int .i64 0, .int .i64 16, .slice fa5 nf1 fc5, .int .u16 av, .int .u16 la1, .slice ca5 nc1 cc5, .int .i64 500, .bool b0, .int .i64 h0, .bool f0, .int .i64 s0, .bool b1, .int .i64 h1, .bool f1, .int .i64 s1, .bool b2, .int .i64 h2, .bool f2, .int .i64 s2, .bool false, .int .i64 0, .bool false, .int .i64 0]) (v1 := .int .i64 3) (v2 := .int .i64 0) (v3 := .int .i64 0) rfl rfl (read_row _ b_4 58 _ (hv.vars.ro (b := b_4)) 23 _ Tryz.underlying58 rfl infoBk23 (by decide) rfl) rfl rfl rfl rfl ?_
      exact ⟨fa5, fc5, ca5, cc5, free5, R5, 0, rfl, by rw [if_pos (by assumption)], hv.keep (by exact List.sublist_append_right [_, _, _, _, _] L), HQ5.out, HO5.out, HP5.out, HSO5.out, HS5.out⟩)
   | (refine ret_cttt (v := .agg #[.int .i64 0, .int .i64 16, .slice fa5 nf1 fc5, .int .u16 av, .int .u16 la1, .slice ca5 nc1 cc5, .int .i64 500, .bool b0, .int .i64 h0, .bool f0, .int .i64 s0, .bool b1, .int .i64 h1, .bool f1, .int .i64 s1, .bool b2, .int .i64 h2, .bool f2, .int .i64 s2, .bool false, .int .i64 0, .bool false, .int .i64 0]) (v1 := .int .i64 3) (v2 := .int .i64 90) (v3 := .int .i64 0) rfl rfl (read_row _ b_4 58 _ (hv.vars.ro (b := b_4)) 23 _ Tryz.underlying58 rfl infoBk23 (by decide) rfl) rfl rfl rfl rfl ?_
      exact ⟨fa5, fc5, ca5, cc5, free5, R5, 90, rfl, by rw [if_neg (by assumption)], hv.keep (by exact List.sublist_append_right [_, _, _, _, _] L), HQ5.out, HO5.out, HP5.out, HSO5.out, HS5.out⟩)
theorem Done_none {w0 w : World} {L : List (Nat × Array Value)} {R : List (Nat × Value × List Value)} (hv : Mem w0 w L R) {av la fn fc cn cc : Nat} {fa ca : Option Addr} {free : List Nat} {chs : List Chn} {b0 b1 b2 b3 f0 f1 f2 f3 : Bool} {h0 h1 h2 h3 s0 s1 s2 s3 : Nat} {mb mc : Nat} {M : List Nat} (hm : InM R mb 0 1700 mc M) (hq : BlkQ R (.slice fa fn fc) (.slice ca cn cc) free chs [(b0, h0, f0, (s0 : Int)), (b1, h1, f1, (s1 : Int)), (b2, h2, f2, (s2 : Int)), (b3, h3, f3, (s3 : Int))]) (hus : getN M 294 2 = la) (hla : la < 65536) :
   Calls Tryz.prog 23 #[.agg #[.slice (some ⟨mb, 0, none⟩) 1700 mc], .agg #[.int .i64 0, .int .i64 16, .slice fa fn fc, .int .u16 av, .int .u16 la, .slice ca cn cc, .int .i64 500, .bool b0, .int .i64 h0, .bool f0, .int .i64 s0, .bool b1, .int .i64 h1, .bool f1, .int .i64 s1, .bool b2, .int .i64 h2, .bool f2, .int .i64 s2, .bool b3, .int .i64 h3, .bool f3, .int .i64 s3]] w fun e w' => e = .returned (.tuple #[.agg #[.int .i64 0, .int .i64 16, .slice fa fn fc, .int .u16 av, .int .u16 la, .slice ca cn cc, .int .i64 500, .bool b0, .int .i64 h0, .bool f0, .int .i64 s0, .bool b1, .int .i64 h1, .bool f1, .int .i64 s1, .bool b2, .int .i64 h2, .bool f2, .int .i64 s2, .bool b3, .int .i64 h3, .bool f3, .int .i64 s3], .int .i64 0, .int .i64 0, .int .i64 7]) ∧ Mem w0 w' L R := by
 have HM := Lib.hid hm
 have HQ := Lib.hid hq
 have HUS := Lib.hid hus
 have HLA := Lib.hid hla
 clear hm hq hus hla
 go_enter Tryz.func23, Tryz.ntmps23
 go_wp2_with (first
   | ((with_reducible refine at_box (T := 26) (dst := some 2) ?_); refine wl_newb rfl #[.slice (some ⟨mb, 0, none⟩) 1700 mc] 26 (fun _ => rfl) ?_; intro b_2 w2 hm2; replace hv := hv.madeAt hm2; clear hm2)
   | ((with_reducible refine at_box (T := 58) (dst := some 3) ?_); refine wl_newb rfl #[.int .i64 0, .int .i64 16, .slice fa fn fc, .int .u16 av, .int .u16 la, .slice ca cn cc, .int .i64 500, .bool b0, .int .i64 h0, .bool f0, .int .i64 s0, .bool b1, .int .i64 h1, .bool f1, .int .i64 s1, .bool b2, .int .i64 h2, .bool f2, .int .i64 s2, .bool b3, .int .i64 h3, .bool f3, .int .i64 s3] 58 (fun _ => rfl) ?_; intro b_3 w2 hm2; replace hv := hv.madeAt hm2; clear hm2)
   | ((with_reducible refine at_alloc (T := 58) (dst := some 4) ?_); refine wl_newb rfl #[.int .i64 0, .int .i64 0, .slice none 0 0, .int .u16 0, .int .u16 0, .slice none 0 0, .int .i64 0, .bool false, .int .i64 0, .bool false, .int .i64 0, .bool false, .int .i64 0, .bool false, .int .i64 0, .bool false, .int .i64 0, .bool false, .int .i64 0, .bool false, .int .i64 0, .bool false, .int .i64 0] 58 (fun _ => rfl) ?_; intro b_4 w2 hm2; replace hv := hv.madeAt hm2; clear hm2)
   | ((with_reducible refine at_load (T := 58) ?_); refine wl_ldv rfl b_3 rfl _ hv.vars.ro 23 _ Tryz.underlying58 rfl infoBk23 (by decide) rfl ?_)
   | (go_at_call 25; (with_reducible refine (BCheck_ok hv HQ.out).mono ?_); rintro e w1 ⟨rfl, hn1⟩; replace hv := hv.new hn1; clear hn1)
   | ((with_reducible refine at_load (T := 26) ?_); refine wl_ldv rfl b_2 rfl _ hv.vars.ro 1 _ Tryz.underlying26 rfl infoM (by decide) rfl ?_)
   | ((with_reducible refine at_load (T := 30) ?_); refine wl_ldp rfl b_3 0 rfl _ hv.vars.ro 6 _ Tryz.underlying30 rfl infoQ (by decide) (by show 0 + 6 ≤ 23; decide) #[.int .i64 0, .int .i64 16, .slice fa fn fc, .int .u16 av, .int .u16 la, .slice ca cn cc] rfl ?_)
   | (go_at_call 32; (with_reducible refine (Pollno_B hv HM.out HQ.out.q HQ.out.ok HUS.out HLA.out).mono ?_); rintro e w1 ⟨rfl, hn1⟩; replace hv := hv.new hn1; clear hn1)
   | ((with_reducible refine at_alloc (T := 30) (dst := some 8) ?_); refine wl_newb rfl #[.int .i64 0, .int .i64 0, .slice none 0 0, .int .u16 0, .int .u16 0, .slice none 0 0] 30 (fun _ => rfl) ?_; intro b_8 w2 hm2; replace hv := hv.madeAt hm2; clear hm2)
   | ((with_reducible refine at_alloc (T := 3) (dst := some 9) ?_); refine wl_newb rfl #[.int .i64 0] 3 (fun _ => rfl) ?_; intro b_9 w2 hm2; replace hv := hv.madeAt hm2; clear hm2)
   | ((with_reducible refine at_store (T := 30) ?_); refine wl_stv rfl b_8 rfl _ rfl _ hv.vars.ro hv.vars.so 6 infoQ rfl rfl (by simp [Value.oneCell']) ?_; intro w2 hw2; replace hv := hv.sets (by repeat first | exact .z | apply SetM.s) hw2; clear hw2)
   | ((with_reducible refine at_store (T := 3) ?_); refine wl_stc rfl b_9 0 rfl (.int .i64 0) rfl _ hv.vars.ro hv.vars.so (by kernel_rfl) rfl (by show 0 < 1; decide) ?_; intro w2 hw2; replace hv := hv.sets (by repeat first | exact .z | apply SetM.s) hw2; clear hw2)
   | ((with_reducible refine at_load (T := 30) ?_); refine wl_ldv rfl b_8 rfl _ hv.vars.ro 6 _ Tryz.underlying30 rfl infoQ (by decide) rfl ?_)
   | ((with_reducible refine at_store (T := 30) ?_); refine wl_stp rfl b_3 0 rfl _ rfl _ hv.vars.ro hv.vars.so 6 infoQ rfl (by show 0 + 6 ≤ 23; decide) (by simp [Value.oneCell']) #[.int .i64 0, .int .i64 16, .slice fa fn fc, .int .u16 av, .int .u16 la, .slice ca cn cc, .int .i64 500, .bool b0, .int .i64 h0, .bool f0, .int .i64 s0, .bool b1, .int .i64 h1, .bool f1, .int .i64 s1, .bool b2, .int .i64 h2, .bool f2, .int .i64 s2, .bool b3, .int .i64 h3, .bool f3, .int .i64 s3] (splice_23_0_6 _ _ _ _ _ _ _ _ _ _ _ _ _ _ _ _ _ _ _ _ _ _ _ _ _ _ _ _ _) ?_; intro w2 hw2; replace hv := hv.sets (by repeat first | exact .z | apply SetM.s) hw2; clear hw2)
   | ((with_reducible refine at_store (T := 58) ?_); refine wl_stv rfl b_4 rfl _ rfl _ hv.vars.ro hv.vars.so 23 infoBk23 rfl rfl (by simp [Value.oneCell']) ?_; intro w2 hw2; replace hv := hv.sets (by repeat first | exact .z | apply SetM.s) hw2; clear hw2))
 try simp only [Exit.inBlock, Exit.then]
 refine ret_cttt (v := .agg #[.int .i64 0, .int .i64 16, .slice fa fn fc, .int .u16 av, .int .u16 la, .slice ca cn cc, .int .i64 500, .bool b0, .int .i64 h0, .bool f0, .int .i64 s0, .bool b1, .int .i64 h1, .bool f1, .int .i64 s1, .bool b2, .int .i64 h2, .bool f2, .int .i64 s2, .bool b3, .int .i64 h3, .bool f3, .int .i64 s3]) (v1 := .int .i64 0) (v2 := .int .i64 0) (v3 := .int .i64 7) rfl rfl (read_row _ b_4 58 _ (hv.vars.ro (b := b_4)) 23 _ Tryz.underlying58 rfl infoBk23 (by decide) rfl) rfl rfl rfl rfl ?_
 exact ⟨rfl, hv.keep (by exact List.sublist_append_right [_, _, _, _, _] L)⟩
end Go.Proofs.YtjmibgomkgkhnaaGreat
