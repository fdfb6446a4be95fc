import Derived.Test.YtjmibgomkgkhnaaGreatVbF
set_option linter.unusedSimpArgs false
set_option linter.unusedVariables false
set_option maxRecDepth 100000
set_option maxHeartbeats 16000000
section
/-
 Layer 9's head says yes.
-/
namespace Go.Proofs.Qu
open Go Go.RowKit Go.Proofs.Nm
theorem BlkQ.zero {R : List (Nat × Value × List Value)} {fv cv : Value} {free : List Nat} (hq : InQ R fv cv free []) (ho : OkQ 16 free []) : BlkQ R fv cv free [] [(false, 0, false, ((0 : Nat) : Int)), (false, 0, false, ((0 : Nat) : Int)), (false, 0, false, ((0 : Nat) : Int)), (false, 0, false, ((0 : Nat) : Int))] :=
 ⟨hq, ho, fun r hr _ => by
   simp only [List.mem_cons, List.not_mem_nil, or_false] at hr
   rcases hr with rfl | rfl | rfl | rfl <;> exact ⟨rfl, rfl, rfl⟩, List.Perm.refl _⟩
theorem range16_lt : ∀ d ∈ List.range 16, d < 16 := fun d hd => List.mem_range.1 hd
def HdM1 : List Nat := addM (askM (List.replicate 1700 0) 500 1 1 (List.replicate 256 7)) 0 16 0 (List.range 16) [(500, 16, false), (516, 256, false), (772, 1, true)]
theorem HdM1_facts : PW HdM1 0 500 1 (List.replicate 256 7) ∧ getN HdM1 258 2 = 1 ∧ getN HdM1 260 2 = 0 ∧ HdM1.length = 1700 ∧ getN HdM1 294 2 = 0 := by
 have h := write_new (M := List.replicate 1700 0) (D := List.replicate 256 7) (free := List.range 16) (p := 500) (s := 1) (h := 0) (av := 0) List.length_replicate List.length_replicate (by decide) (by decide) (by decide) List.nodup_range range16_lt rfl (by decide)
 obtain ⟨h1, h2, h3, h4, h5⟩ := h
 rw [zeros_getN2 (by decide)] at h5
 exact ⟨h1, h2, h3, h4, h5⟩
end Go.Proofs.Qu
namespace Go.Proofs.YtjmibgomkgkhnaaGreat
open Go.Proofs.Qu Go.Proofs.Nm Go.RowKit Go.Proofs
theorem built_srv16 : Tryz.prog.built 38 [(0, .int .i64 0), (1, .int .i64 16)] = some #[.int .i64 0, .int .i64 16, .int .u16 0, .int .u16 0] := by kernel_rfl
theorem RServe16 (w : World) : Calls Tryz.prog 9 #[.int .i64 0, .int .i64 16] w fun e w' => e = .returned (.agg #[.int .i64 0, .int .i64 16, .int .u16 0, .int .u16 0]) ∧ New w w' := by
 have hv := Mem.nil w
 go_enter Tryz.func9, Tryz.ntmps9
 go_wp2_with (first
   | ((with_reducible refine at_alloc (T := 38) (dst := some 4) ?_); refine wl_newb rfl #[.int .i64 0, .int .i64 0, .int .u16 0, .int .u16 0] 38 (fun _ => rfl) ?_; intro b_4 w2 hm2; replace hv := hv.madeAt hm2; clear hm2)
   | ((with_reducible refine at_build (T := 38) ?_); refine wl_build rfl _ rfl built_srv16 ?_)
   | ((with_reducible refine at_store (T := 38) ?_); refine wl_stv rfl b_4 rfl _ rfl _ hv.vars.ro hv.vars.so 4 infoS4 rfl rfl (by simp [Value.oneCell']) ?_; intro w2 hw2; replace hv := hv.sets (by repeat first | exact .z | apply SetM.s) hw2; clear hw2))
 first
   | (go_ret; exact ⟨rfl, hv.below⟩)
   | (try simp only [Exit.inBlock, Exit.then]
      refine ret_cell1 (v := .agg #[.int .i64 0, .int .i64 16, .int .u16 0, .int .u16 0]) rfl rfl (read_row _ b_4 38 _ (hv.vars.ro (b := b_4)) 4 _ Tryz.underlying38 rfl infoS4 (by decide) rfl) rfl ?_
      exact ⟨rfl, hv.below⟩)
theorem some_sec {w0 w : World} {L : List (Nat × Array Value)} {R : List (Nat × Value × List Value)} (hv : Mem w0 w L R) (c : Nat) {W : Value → List (Nat × Value × List Value) → Prop} (h : ∀ w1 R1 b, Mem w0 w1 L R1 → (∀ x ∈ R, x ∈ R1) → (1, Value.slice (some ⟨b, 0, none⟩) 256 256, cellsB (List.replicate 256 c)) ∈ R1 → ∃ v R', W v R') : ∃ v R', W v R' := by
 have h0 : Calls Tryz.prog 21 #[.int .u8 c] w fun e w' => ∃ v R', e = .returned v ∧ (fun (_ : Value) (_ : List (Nat × Value × List Value)) => ∃ v R', W v R') v R' ∧ True := by
   refine (sector_M hv c rfl).mono ?_
   rintro e w' ⟨b, rfl, hv1⟩
   exact ⟨_, R, rfl, h _ _ b hv1 (fun x hx => Mem.s hx) Mem.z, trivial⟩
 obtain ⟨v, R', h1⟩ := Bny.some_of h0
 exact h1
theorem heads09 (w : World) : Calls Tryz.prog 19 #[] w fun e w' => e = .returned (.bool true) ∧ New w w' := by
 have hv := Mem.nil w
 obtain ⟨R, hR0⟩ : ∃ R : List (Nat × Value × List Value), R = [] := ⟨_, rfl⟩
 rw [← hR0] at hv
 obtain ⟨z0, hz0⟩ : ∃ z : Nat, z = 0 := ⟨0, rfl⟩
 have HZ0 := Lib.hid hz0
 clear hz0 hR0
 go_enter Tryz.func19, Tryz.ntmps19
 simp only [List.append_eq, List.cons_append, List.nil_append]
 go_wp2_with (first
   | ((with_reducible refine at_mkslice (T := 24) ?_); refine wl_mkz rfl 1700 rfl rfl (by decide) ?_; intro bz w2 hm2; have hv1 := Mem.yield (L1 := []) (hv.madeAt hm2) (zeros_row bz 1700 (by decide)); simp only [List.nil_append] at hv1; replace hv := hv1; clear hv1 hm2; have HMZ : Hid (InM ((1, .slice (some ⟨bz, 0, none⟩) 1700 1700, cellsB (List.replicate 1700 0)) :: R) bz 0 1700 1700 (List.replicate 1700 0)) := Lib.hid ⟨Mem.z, List.length_replicate, by decide, by decide, zeros_good 1700⟩)
   | ((with_reducible refine at_build (T := 26) ?_); refine wl_build rfl _ rfl (built_mem _ _ _) ?_)
   | (go_at_call 17; (refine (BNew_K hv HMZ.out).mono ?_); rintro e w1 ⟨vb, vc, fa, fc, R1, rfl, hv1, hm1, hq1, ho1, hs1⟩; rw [zeros_put] at hm1; replace hv := hv1; have HM1 := Lib.hid hm1; have HQ1 := Lib.hid hq1; have HO1 := Lib.hid ho1; have HS1 := Lib.hid hs1; clear hv1 hm1 hq1 ho1 hs1)
   | ((with_reducible refine at_alloc (T := 26) (dst := some 1) ?_); refine wl_newb rfl #[.slice none 0 0] 26 (fun _ => rfl) ?_; intro b_1 w2 hm2; replace hv := hv.madeAt hm2; clear hm2)
   | ((with_reducible refine at_alloc (T := 58) (dst := some 2) ?_); refine wl_newb rfl #[.int .i64 0, .int .i64 0, .slice none 0 0, .int .u16 0, .int .u16 0, .slice none 0 0, .int .i64 0, .bool false, .int .i64 0, .bool false, .int .i64 0, .bool false, .int .i64 0, .bool false, .int .i64 0, .bool false, .int .i64 0, .bool false, .int .i64 0, .bool false, .int .i64 0, .bool false, .int .i64 0] 58 (fun _ => rfl) ?_; intro b_2 w2 hm2; replace hv := hv.madeAt hm2; clear hm2)
   | ((with_reducible refine at_store (T := 26) ?_); refine wl_stv rfl b_1 rfl _ rfl _ hv.vars.ro hv.vars.so 1 infoM rfl rfl (by simp [Value.oneCell']) ?_; intro w2 hw2; replace hv := hv.sets (by repeat first | exact .z | apply SetM.s) hw2; clear hw2)
   | ((with_reducible refine at_store (T := 58) ?_); refine wl_stv rfl b_2 rfl _ rfl _ hv.vars.ro hv.vars.so 23 infoBk23 rfl rfl (by simp [Value.oneCell']) ?_; intro w2 hw2; replace hv := hv.sets (by repeat first | exact .z | apply SetM.s) hw2; clear hw2)
   | (go_at_call 18; (refine (RDNew_ok hv 4 (by decide) (by decide)).mono ?_); rintro e w1 ⟨sa, sc, ss, R2, rfl, hv1, hd1, hsl, hs1⟩; replace hv := hv1; have HD2 := Lib.hid hd1; have HSL := Lib.hid hsl; have HS2 := Lib.hid hs1; clear hv1 hd1 hsl hs1)
   | ((with_reducible refine at_alloc (T := 63) (dst := some 4) ?_); refine wl_newb rfl #[.slice none 0 0, .slice none 0 0] 63 (fun _ => rfl) ?_; intro b_4 w2 hm2; replace hv := hv.madeAt hm2; clear hm2)
   | ((with_reducible refine at_store (T := 63) ?_); refine wl_stv rfl b_4 rfl _ rfl _ hv.vars.ro hv.vars.so 2 infoD2 rfl rfl (by simp [Value.oneCell']) ?_; intro w2 hw2; replace hv := hv.sets (by repeat first | exact .z | apply SetM.s) hw2; clear hw2))
 have HM2 := Lib.hid (HM1.out.mono HS2.out)
 have HB2 := Lib.hid (BlkQ.zero (HQ1.out.mono HS2.out) HO1.out)
 have HSS : Hid (∃ v R', SecW 7 v R') := Lib.hid (Bny.some_of (sector_W hv (fun x hx => hx) 7 rfl))
 have HSW : Hid (∃ v R', WrW R2 (fun fa5 fc5 ca5 cc5 => #[.int .i64 0, .int .i64 16, .slice fa5 13 fc5, .int .u16 ((1 : Nat) : Int), .int .u16 ((0 : Nat) : Int), .slice ca5 1 cc5, .int .i64 500, .bool true, .int .i64 ((0 : Nat) : Int), .bool false, .int .i64 ((1 : Nat) : Int), .bool false, .int .i64 ((0 : Nat) : Int), .bool false, .int .i64 ((0 : Nat) : Int), .bool false, .int .i64 ((0 : Nat) : Int), .bool false, .int .i64 ((0 : Nat) : Int), .bool false, .int .i64 ((0 : Nat) : Int), .bool false, .int .i64 ((0 : Nat) : Int)]) 0 HdM1 13 1 3 (List.range 16) [] 0 v R') := Lib.hid (some_sec hv 7 fun w1 R1 b hm hs hr => Bny.some_of (Write_0W (R0 := R2) (b0 := false) (h0 := 0) (f0 := false) (s0 := 0) (b1 := false) (h1 := 0) (f1 := false) (s1 := 0) (b2 := false) (h2 := 0) (f2 := false) (s2 := 0) (b3 := false) (h3 := 0) (f3 := false) (s3 := 0) (free := List.range 16) (chs := []) (av := 0) (la := 0) (fn := 16) (cn := 0) (nf1 := 13) (nc1 := 1) (av1 := 1) (hd := 0) (s_ := 1) (p := 500) (pd := 516) (ps := 772) (M := List.replicate 1700 0) (D := List.replicate 256 7) hm hs HM2.out HB2.out rfl rfl rfl rfl (by decide) (by decide) rfl rfl rfl rfl hr (sec_good (by decide))))
 replace hv : Mem w _ ([(b_4, _), (b_2, _), (b_1, _)] ++ []) R2 := hv
 try simp only [Act.put]
 refine Bny.wp_region_walk _ _ [⟨[1002], none⟩, ⟨[1001], none⟩, ⟨[], some 2⟩, ⟨[2], some 3⟩, ⟨[], none⟩, ⟨[], none⟩, ⟨[], none⟩, ⟨[], none⟩, ⟨[], none⟩, ⟨[1002], some 1002⟩, ⟨[1001], some 1001⟩, ⟨[], none⟩, ⟨[], none⟩] [.val, .val, .mem (SecW 7), .mem (WrW R2 (fun fa5 fc5 ca5 cc5 => #[.int .i64 0, .int .i64 16, .slice fa5 13 fc5, .int .u16 ((1 : Nat) : Int), .int .u16 ((0 : Nat) : Int), .slice ca5 1 cc5, .int .i64 500, .bool true, .int .i64 ((0 : Nat) : Int), .bool false, .int .i64 ((1 : Nat) : Int), .bool false, .int .i64 ((0 : Nat) : Int), .bool false, .int .i64 ((0 : Nat) : Int), .bool false, .int .i64 ((0 : Nat) : Int), .bool false, .int .i64 ((0 : Nat) : Int), .bool false, .int .i64 ((0 : Nat) : Int), .bool false, .int .i64 ((0 : Nat) : Int)]) 0 HdM1 13 1 3 (List.range 16) [] 0), .pure, .pure, .pure, .pure, .pure, .put, .put, .pure, .pure] (by kernel_rfl) (by kernel_rfl) hv ?_
 simp only [List.length_cons, List.length_nil, Nat.zero_add, Any.someVals]
 iterate 13 apply Exists.intro
 repeat (first
   | (refine Bny.E_off rfl ?_; simp only [Act.put, sia, scs, scz])
   | ((with_reducible refine Bny.at_estore (T := 26) ?_); refine Bny.E_putv (T := 26) rfl rfl rfl rfl rfl rfl 1 infoM rfl rfl (by simp [Value.oneCell']) ?_; simp only [Act.put, sia, scs, scz])
   | ((with_reducible refine Bny.at_estore (T := 58) ?_); refine Bny.E_putv (T := 58) rfl rfl rfl rfl rfl rfl 23 infoBk23 rfl rfl (by simp [Value.oneCell']) ?_; simp only [Act.put, sia, scs, scz])
   | ((with_reducible refine Bny.at_ecallf (f := 21) ?_); refine Bny.E_callmem rfl rfl rfl (Go.Proofs.enters_of Tryz.func21 (by kernel_rfl) rfl) rfl [.int .u8 7] rfl HSS.out [] (fun x hx => (List.not_mem_nil hx).elim) (fun w0 w L R' hm hs => sector_W (R0 := []) hm (fun x hx => (List.not_mem_nil hx).elim) 7 rfl) ?_; rintro v R8 ⟨sb, rfl, hsr⟩; have HSR := Lib.hid hsr; clear hsr; simp only [Act.put, sia, scs, scz])
   | ((with_reducible refine Bny.at_ecallf (f := 20) ?_); refine Bny.E_callmem rfl rfl rfl (Go.Proofs.enters_of Tryz.func20 (by kernel_rfl) rfl) rfl [.agg #[.slice (some ⟨vb, 0, none⟩) 1700 vc], .agg #[.int .i64 0, .int .i64 16, .slice fa 16 fc, .int .u16 0, .int .u16 0, .slice none 0 0, .int .i64 500, .bool false, .int .i64 0, .bool false, .int .i64 0, .bool false, .int .i64 0, .bool false, .int .i64 0, .bool false, .int .i64 0, .bool false, .int .i64 0, .bool false, .int .i64 0, .bool false, .int .i64 0], .int .i64 1, .slice (some ⟨sb, 0, none⟩) 256 256] rfl HSW.out ((1, Value.slice (some ⟨sb, 0, none⟩) 256 256, cellsB (List.replicate 256 7)) :: R2) (fun x hx => (List.mem_cons.1 hx).elim (fun e => .inr ⟨2, by decide, by rw [e]; exact HSR.out⟩) (fun h => .inl h)) (fun w0 w L R' hm hs => Write_0W (R0 := R2) (b0 := false) (h0 := 0) (f0 := false) (s0 := 0) (b1 := false) (h1 := 0) (f1 := false) (s1 := 0) (b2 := false) (h2 := 0) (f2 := false) (s2 := 0) (b3 := false) (h3 := 0) (f3 := false) (s3 := 0) (free := List.range 16) (chs := []) (av := 0) (la := 0) (fn := 16) (cn := 0) (nf1 := 13) (nc1 := 1) (av1 := 1) (hd := 0) (s_ := 1) (p := 500) (pd := 516) (ps := 772) (M := List.replicate 1700 0) (D := List.replicate 256 7) hm (fun x hx => hs x (Mem.s hx)) HM2.out HB2.out rfl rfl rfl rfl (by decide) (by decide) rfl rfl rfl rfl (hs _ Mem.z) (sec_good (by decide))) ?_; rintro v R3 ⟨vb5, vc5, fa5, fc5, ca5, cc5, c5, rfl, hm5, hq5, ho5, k1, k2, k3, hs5⟩; have HM5 := Lib.hid hm5; have HQ5 := Lib.hid hq5; have HO5 := Lib.hid ho5; have K1 := Lib.hid k1; have K2 := Lib.hid k2; have K3 := Lib.hid k3; have HS5 := Lib.hid hs5; clear hm5 hq5 ho5 k1 k2 k3 hs5; simp only [Act.put, sia, scs, scz])
   | (apply Bny.E_pureq rfl rfl rfl
      case h => intro K hK; go_big_quiet_op; (refine hK _ ?_; rfl)
      case hr => exact fun _ => rfl
      simp only [Act.put, sia, scs, scz])
   | (apply Bny.E_val rfl rfl rfl rfl
      case h =>
        intro E' hA K hK
        first
          | ((with_reducible refine Bny.at_qload (T := 26) ?_); refine Bny.q_ldv 1002 hA (by decide) rfl rfl 1 _ Tryz.underlying26 rfl infoM (by decide) rfl ?_; refine hK _ ?_; rfl)
          | ((with_reducible refine Bny.at_qload (T := 58) ?_); refine Bny.q_ldv 1001 hA (by decide) rfl rfl 23 _ Tryz.underlying58 rfl infoBk23 (by decide) rfl ?_; refine hK _ ?_; rfl)
          | (go_big_quiet_op; first
            | (refine hK _ ?_; rfl)
            | (refine ⟨_, fun _ _ => rfl, ?_⟩; refine hK _ ?_; rfl)
            | (apply Exists.intro; refine ⟨fun w1 hw1 => ?_, ?_⟩; · (first
                | fail)
               refine hK _ ?_; rfl))
      case hD => rfl
      simp only [Act.put, sia, scs, scz]))
 try any_goals exact undef
 refine Bny.E_nil ?_
 intro w9 hE9
 replace hv : Mem w w9 ([(b_4, #[.slice sa 4 sc, .slice none 0 0]), (b_2, #[.int .i64 0, .int .i64 16, .slice fa5 13 fc5, .int .u16 ((1 : Nat) : Int), .int .u16 ((0 : Nat) : Int), .slice ca5 1 cc5, .int .i64 500, .bool true, .int .i64 ((0 : Nat) : Int), .bool false, .int .i64 ((1 : Nat) : Int), .bool false, .int .i64 ((0 : Nat) : Int), .bool false, .int .i64 ((0 : Nat) : Int), .bool false, .int .i64 ((0 : Nat) : Int), .bool false, .int .i64 ((0 : Nat) : Int), .bool false, .int .i64 ((0 : Nat) : Int), .bool false, .int .i64 ((0 : Nat) : Int)]), (b_1, #[.slice (some ⟨vb5, 0, none⟩) 1700 vc5])] ++ []) R3 := hE9.mem1 [1000, 1001, 1002] (by decide) 3 rfl
 clear hE9
 simp only [List.cons_append, List.nil_append] at hv
 obtain ⟨P1, P2, P3, P4, P5⟩ := HdM1_facts
 have HB5 : Hid (BlkQ R3 (.slice fa5 13 fc5) (.slice ca5 1 cc5) ((List.range 16).drop 3) [c5] [(true, 0, false, ((1 : Nat) : Int)), (false, 0, false, ((0 : Nat) : Int)), (false, 0, false, ((0 : Nat) : Int)), (false, 0, false, ((0 : Nat) : Int))]) := Lib.hid ⟨HQ5.out, HO5.out, fun r hr hb => by
   simp only [List.mem_cons, List.not_mem_nil, or_false] at hr
   rcases hr with rfl | rfl | rfl | rfl <;> first | exact ⟨rfl, rfl, rfl⟩ | exact absurd hb (by show ¬ (true = false); decide), by
   show List.Perm [((0 : Nat) : Int)] [((c5.h : Nat) : Int)]
   rw [K1.out]⟩
 have P1 := Lib.hid P1
 have P2 := Lib.hid P2
 have P3 := Lib.hid P3
 have P4 := Lib.hid P4
 have P5 := Lib.hid P5
 go_wp2_with (first
   | ((with_reducible refine at_load (T := 26) ?_); refine wl_ldv rfl b_1 rfl _ hv.vars.ro 1 _ Tryz.underlying26 rfl infoM (by decide) rfl ?_)
   | ((with_reducible refine at_load (T := 58) ?_); refine wl_ldv rfl b_2 rfl _ hv.vars.ro 23 _ Tryz.underlying58 rfl infoBk23 (by decide) rfl ?_)
   | (go_at_call 40; (refine (Flush_1 (b0 := true) (h0 := 0) (f0 := false) (s0 := 1) (b1 := false) (h1 := 0) (f1 := false) (s1 := 0) (b2 := false) (h2 := 0) (f2 := false) (s2 := 0) (b3 := false) (h3 := 0) (f3 := false) (s3 := 0) (free := (List.range 16).drop 3) (chs := [c5]) (av := 1) (la := 0) (fn := 13) (cn := 1) (nf1 := 11) (nc1 := 2) (av1 := 2) (hd := 3) (p := 788) (ps := 1060) (M := HdM1) hv HM5.out HB5.out rfl rfl rfl HZ0.out (by decide) rfl rfl rfl rfl).mono ?_); rintro e w1 ⟨vb6, vc6, fa6, fc6, ca6, cc6, c6, R4, rfl, hv1, hm1, hq1, ho1, k1, k2, k3, hs1⟩; replace hv := hv1; have HM6 := Lib.hid hm1; have HQ6 := Lib.hid hq1; have HO6 := Lib.hid ho1; have K4 := Lib.hid k1; have K5 := Lib.hid k2; have K6 := Lib.hid k3; have HS6 := Lib.hid hs1; clear hv1 hm1 hq1 ho1 k1 k2 k3 hs1)
   | ((with_reducible refine at_store (T := 26) ?_); refine wl_stv rfl b_1 rfl _ rfl _ hv.vars.ro hv.vars.so 1 infoM rfl rfl (by simp [Value.oneCell']) ?_; intro w2 hw2; replace hv := hv.sets (by repeat first | exact .z | apply SetM.s) hw2; clear hw2)
   | ((with_reducible refine at_store (T := 58) ?_); refine wl_stv rfl b_2 rfl _ rfl _ hv.vars.ro hv.vars.so 23 infoBk23 rfl rfl (by simp [Value.oneCell']) ?_; intro w2 hw2; replace hv := hv.sets (by repeat first | exact .z | apply SetM.s) hw2; clear hw2))
 obtain ⟨Q1, Q2, Q3, Q4, Q5⟩ := flush_new (M := HdM1) (free := (List.range 16).drop 3) (p := 788) (h := 3) (av := 1) (s := z0) P4.out (by decide) (by decide) (by decide) (by decide) rfl (by decide)
 obtain ⟨Q6, Q7⟩ := flush_old (av := 1) (s := z0) P1.out P4.out (free := (List.range 16).drop 3) (p := 788) (h := 3) (by decide) (by decide) (by decide) (by decide) rfl (by decide) (by decide) (by decide) (by decide) (sl := 0) (by decide) (by decide)
 obtain ⟨M2, hM2⟩ : ∃ M2, addM (askF HdM1 788 4 z0) 0 16 1 ((List.range 16).drop 3) [(788, 16, false), (788 + 272, 1, true)] = M2 := ⟨_, rfl⟩
 rw [hM2] at Q1 Q2 Q3 Q4 Q5 Q6 Q7
 have HMM : Hid (InM R4 vb6 0 1700 vc6 M2) := Lib.hid (by rw [← hM2]; exact HM6.out)
 have G1 : Hid (getN M2 258 2 = 2) := Lib.hid Q2
 have G2 : Hid (getN M2 (0 + (16 * 16 + (4 + 2 * (0 % 16)))) 2 = 0) := Lib.hid (Q7.trans P3.out)
 have GP := Lib.hid Q6
 have HD4 := Lib.hid (HD2.out.mono fun x hx => HS6.out x (HS5.out x hx))
 have HSV : Hid (∃ v R', SrvW R4 M2 772 0 0 1 1 0 1 sa 4 sc 0 ss [] (List.replicate 256 7) v R') := Lib.hid (Bny.some_of (Serve_W (R0 := R4) (st := 0) (sn_ := 0) (sn1 := 1) (us := 0) (us1 := 1) (av := 2) (hd := 0) (p := 500) (ps := 772) (an := 0) (s_ := 1) (cs := []) (ca := none) (cn := 0) (cc := 0) (sn := 4) (M := M2) (D := List.replicate 256 7) hv (fun x hx => hx) HD4.out HMM.out (by decide) rfl G1.out (by decide) G2.out GP.out (by decide) rfl (by decide) ⟨rfl, by decide⟩ rfl (by decide) (by decide) (by decide)))
 have U1 := Lib.hid Q1
 have U2 := Lib.hid (Q3 : getN M2 (0 + (16 * 16 + (4 + 2 * (1 % 16)))) 2 = 3)
 have U3 := Lib.hid Q4
 clear Q1 Q2 Q3 Q4 Q5 Q6 Q7 hM2 HM6
 go_wp2
 replace hv : Mem w _ ([(b_4, _), (b_2, _), (b_1, _)] ++ []) R4 := hv
 try simp only [Act.put]
 refine Bny.wp_region_walk _ _ [⟨[1002], none⟩, ⟨[], none⟩, ⟨[1000], none⟩, ⟨[], some 3⟩, ⟨[], none⟩, ⟨[], none⟩, ⟨[], none⟩, ⟨[], none⟩, ⟨[], none⟩, ⟨[], some 9⟩, ⟨[1002], some 1002⟩, ⟨[9], some 9⟩, ⟨[1000], some 1000⟩, ⟨[], none⟩] [.val, .val, .val, .mem (SrvW R4 M2 772 0 0 1 1 0 1 sa 4 sc 0 ss [] (List.replicate 256 7)), .pure, .pure, .pure, .pure, .pure, .lay #[.int .i64 0, .int .i64 0, .int .u16 0, .int .u16 0], .put, .put, .put, .pure] (by kernel_rfl) (by kernel_rfl) hv ?_
 simp only [List.length_cons, List.length_nil, Nat.zero_add, Any.someVals]
 iterate 14 apply Exists.intro
 repeat (first
   | (refine Bny.E_off rfl ?_; simp only [Act.put, sia, scs, scz])
   | ((with_reducible refine Bny.at_ealloc ?_); refine Bny.E_lay (t := 38) rfl rfl rfl (fun _ => rfl) ?_; intro b_10; simp only [Act.put, sia, scs, scz])
   | ((with_reducible refine Bny.at_estore (T := 26) ?_); refine Bny.E_putv (T := 26) rfl rfl rfl rfl rfl rfl 1 infoM rfl rfl (by simp [Value.oneCell']) ?_; simp only [Act.put, sia, scs, scz])
   | ((with_reducible refine Bny.at_estore (T := 38) ?_); refine Bny.E_putv (T := 38) rfl rfl rfl rfl rfl rfl 4 infoS4 rfl rfl (by simp [Value.oneCell']) ?_; simp only [Act.put, sia, scs, scz])
   | ((with_reducible refine Bny.at_estore (T := 63) ?_); refine Bny.E_putv (T := 63) rfl rfl rfl rfl rfl rfl 2 infoD2 rfl rfl (by simp [Value.oneCell']) ?_; simp only [Act.put, sia, scs, scz])
   | ((with_reducible refine Bny.at_ecallf (f := 22) ?_); refine Bny.E_callmem rfl rfl rfl (Go.Proofs.enters_of Tryz.func22 (by kernel_rfl) rfl) rfl [.agg #[.slice (some ⟨vb6, 0, none⟩) 1700 vc6], .agg #[.int .i64 0, .int .i64 16, .int .u16 0, .int .u16 0], .agg #[.slice sa 4 sc, .slice none 0 0], .int .i64 0] rfl HSV.out R4 (fun x hx => .inl hx) (fun w0 w L R' hm hs => Serve_W (R0 := R4) (st := 0) (sn_ := 0) (sn1 := 1) (us := 0) (us1 := 1) (av := 2) (hd := 0) (p := 500) (ps := 772) (an := 0) (s_ := 1) (cs := []) (ca := none) (cn := 0) (cc := 0) (sn := 4) (M := M2) (D := List.replicate 256 7) hm hs HD4.out HMM.out (by decide) rfl G1.out (by decide) G2.out GP.out (by decide) rfl (by decide) ⟨rfl, by decide⟩ rfl (by decide) (by decide) (by decide)) ?_; rintro v R5 ⟨vb7, vc7, a2, cn2, c2, ans, cs2, rfl, hm7, hd7, ha7, hw7, hs7⟩; have HM7 := Lib.hid hm7; have HD7 := Lib.hid hd7; have HW7 := Lib.hid hw7; have HS7 := Lib.hid hs7; clear hm7 hd7 ha7 hw7 hs7; simp only [Act.put, sia, scs, scz])
   | (apply Bny.E_pureq rfl rfl rfl
      case h => intro K hK; go_big_quiet_op; (refine hK _ ?_; rfl)
      case hr => exact fun _ => rfl
      simp only [Act.put, sia, scs, scz])
   | (apply Bny.E_val rfl rfl rfl rfl
      case h =>
        intro E' hA K hK
        first
          | ((with_reducible refine Bny.at_qload (T := 26) ?_); refine Bny.q_ldv 1002 hA (by decide) rfl rfl 1 _ Tryz.underlying26 rfl infoM (by decide) rfl ?_; refine hK _ ?_; rfl)
          | ((with_reducible refine Bny.at_qload (T := 63) ?_); refine Bny.q_ldv 1000 hA (by decide) rfl rfl 2 _ Tryz.underlying63 rfl infoD2 (by decide) rfl ?_; refine hK _ ?_; rfl)
          | (go_big_quiet_op; first
            | (refine hK _ ?_; rfl)
            | (refine ⟨_, fun _ _ => rfl, ?_⟩; refine hK _ ?_; rfl)
            | (apply Exists.intro; refine ⟨fun w1 hw1 => ?_, ?_⟩; · (first
                | (go_at_call 9; exact Bny.calls_VE (RServe16 _) hw1))
               refine hK _ ?_; rfl))
      case hD => rfl
      simp only [Act.put, sia, scs, scz]))
 try any_goals exact undef
 refine Bny.E_nil ?_
 intro w9 hE9
 replace hv : Mem w w9 ([(b_10, #[.int .i64 0, .int .i64 16, .int .u16 (1 : Nat), .int .u16 (1 : Nat)]), (b_4, #[.slice sa 4 sc, .slice a2 cn2 c2]), (b_2, #[.int .i64 0, .int .i64 16, .slice fa6 11 fc6, .int .u16 ((2 : Nat) : Int), .int .u16 ((0 : Nat) : Int), .slice ca6 2 cc6, .int .i64 500, .bool true, .int .i64 ((0 : Nat) : Int), .bool false, .int .i64 ((1 : Nat) : Int), .bool true, .int .i64 ((3 : Nat) : Int), .bool true, .int .i64 ((z0 : Nat) : Int), .bool false, .int .i64 ((0 : Nat) : Int), .bool false, .int .i64 ((0 : Nat) : Int), .bool false, .int .i64 ((0 : Nat) : Int), .bool false, .int .i64 ((0 : Nat) : Int)]), (b_1, #[.slice (some ⟨vb7, 0, none⟩) 1700 vc7])] ++ []) R5 := hE9.mem1 [9, 1000, 1001, 1002] (by decide) 3 rfl
 clear hE9
 simp only [List.cons_append, List.nil_append] at hv
 obtain ⟨rfl, rfl, dv, rfl⟩ : ans = 0 ∧ cn2 = 1 ∧ ∃ dv, cs2 = [(1, dv, List.replicate 256 7)] := by
   rcases HW7.out with ⟨e1, _, _, e3, dv, e4⟩ | ⟨_, h, _⟩
   · exact ⟨e1, e3, dv, e4⟩
   · exact absurd ⟨rfl, by decide⟩ h
 have HRD : Hid (readD ss [(1, dv, List.replicate 256 7)] 1 = (dv, List.replicate 256 7)) := Lib.hid (by
   rw [show [(1, dv, List.replicate 256 7)] = [] ++ [(1, dv, List.replicate 256 7)] from rfl, readD_snoc, if_pos rfl])
 obtain ⟨V1, V2, V3, V4, V5, V6⟩ := serve_new (M := M2) (us := 0) (id := 0) (ps := 772) (an := 0) U3.out (by decide) (by decide) (by decide) (by decide) (by decide)
 have V7 := serve_slot (M := M2) (us := 0) (id := 0) (ps := 772) (an := 0) (sl := 1) U3.out (by decide) (by decide) (by decide)
 have V8 := U1.out.serve (us := 0) (id := 0) (ps := 772) (an := 0) U3.out (by decide) (by decide) (by decide)
 obtain ⟨M3, hM3⟩ : ∃ M3, returnM (putB M2 772 [0]) 0 16 0 0 1 = M3 := ⟨_, rfl⟩
 rw [hM3] at V1 V2 V3 V4 V5 V6 V7 V8
 have HMM3 : Hid (InM R5 vb7 0 1700 vc7 M3) := Lib.hid (by rw [← hM3]; exact HM7.out)
 clear HM7 hM3
 have HB6 : Hid (BlkQ R5 (.slice fa6 11 fc6) (.slice ca6 2 cc6) (((List.range 16).drop 3).drop 2) ([c5] ++ [c6]) [(true, 0, false, ((1 : Nat) : Int)), (true, 3, true, ((z0 : Nat) : Int)), (false, 0, false, ((0 : Nat) : Int)), (false, 0, false, ((0 : Nat) : Int))]) := Lib.hid ⟨HQ6.out.mono HS7.out, HO6.out, fun r hr hb => by
   simp only [List.mem_cons, List.not_mem_nil, or_false] at hr
   rcases hr with rfl | rfl | rfl | rfl <;> first | exact ⟨rfl, rfl, rfl⟩ | exact absurd hb (by show ¬ (true = false); decide), by
   show List.Perm [((0 : Nat) : Int), ((3 : Nat) : Int)] [((c5.h : Nat) : Int), ((c6.h : Nat) : Int)]
   rw [K1.out, K4.out]⟩
 have J1 : Hid (getN M3 294 2 = 1) := Lib.hid V2
 have J2 := Lib.hid V3
 have J3 := Lib.hid V4
 have J4 := Lib.hid V5
 have J5 : Hid (getN M3 258 2 = 2) := Lib.hid (V6.trans G1.out)
 have J6 : Hid (getN M3 (0 + (16 * 16 + (4 + 2 * (1 % 16)))) 2 = 3) := Lib.hid (V7.trans U2.out)
 have J7 : Hid (ChainAt 1700 M3 0 16 3 [(788, 16, false), (1060, 1, true)]) := Lib.hid (V8.chain (by decide) (by decide))
 have K7 : Hid (1 ≤ c5.rm) := Lib.hid (by rw [K3.out]; exact Nat.le_refl 1)
 have K8 : Hid (11 + c5.ds.length = 14) := Lib.hid (by rw [K2.out]; rfl)
 have K9 : Hid (1 ≤ c6.rm) := Lib.hid (by rw [K6.out]; exact Nat.le_refl 1)
 have K10 : Hid (14 + c6.ds.length = 16) := Lib.hid (by rw [K5.out]; rfl)
 have HBF1 : Hid (∀ (R6 : List (Nat × Value × List Value)) (fa8 : Option Addr) (fc8 : Nat) (ca8 : Option Addr) (cc8 : Nat) (free8 : List Nat), InQ R6 (.slice fa8 14 fc8) (.slice ca8 1 cc8) free8 [c6] → OkQ 16 free8 [c6] → BlkQ R6 (.slice fa8 14 fc8) (.slice ca8 1 cc8) free8 [c6] [(false, 0, false, ((0 : Nat) : Int)), (true, 3, true, ((z0 : Nat) : Int)), (false, 0, false, ((0 : Nat) : Int)), (false, 0, false, ((0 : Nat) : Int))]) := Lib.hid (fun R6 fa8 fc8 ca8 cc8 free8 h1 h2 => ⟨h1, h2, fun r hr hb => by
   simp only [List.mem_cons, List.not_mem_nil, or_false] at hr
   rcases hr with rfl | rfl | rfl | rfl <;> first | exact ⟨rfl, rfl, rfl⟩ | exact absurd hb (by show ¬ (true = false); decide), by
   show List.Perm [((3 : Nat) : Int)] [((c6.h : Nat) : Int)]
   rw [K4.out]⟩)
 obtain ⟨X1, X2, X3, X4, X5, X6⟩ := serve_new (M := M3) (us := 1) (id := 3) (ps := 1060) (an := 5) V1 (by decide) (by decide) (by decide) (by decide) (by decide)
 have J8 : Hid (getN (returnM (putB M3 1060 [5]) 0 16 1 3 1) 294 2 = 2) := Lib.hid X2
 have J9 := Lib.hid X3
 have J10 := Lib.hid X4
 have J11 := Lib.hid X5
 clear V1 V2 V3 V4 V5 V6 V7 V8 X1 X2 X3 X4 X5 X6
 go_wp2_with (first
   | ((with_reducible refine at_load (T := 26) ?_); refine wl_ldv rfl b_1 rfl _ hv.vars.ro 1 _ Tryz.underlying26 rfl infoM (by decide) rfl ?_)
   | (first | ((with_reducible refine at_load (T := 58) ?_); refine wl_ldv rfl b_2 rfl _ hv.vars.ro 23 _ Tryz.underlying58 rfl infoBk23 (by decide) rfl ?_) | ((with_reducible refine at_load (T := 58) ?_); refine wl_ldv rfl b_12 rfl _ hv.vars.ro 23 _ Tryz.underlying58 rfl infoBk23 (by decide) rfl ?_) | ((with_reducible refine at_load (T := 58) ?_); refine wl_ldv rfl b_19 rfl _ hv.vars.ro 23 _ Tryz.underlying58 rfl infoBk23 (by decide) rfl ?_))
   | (go_at_call 23; (refine (Done_0 (b0 := true) (h0 := 0) (f0 := false) (s0 := 1) (b1 := true) (h1 := 3) (f1 := true) (s1 := z0) (b2 := false) (h2 := 0) (f2 := false) (s2 := 0) (b3 := false) (h3 := 0) (f3 := false) (s3 := 0) (free := ((List.range 16).drop 3).drop 2) (chs := [c5] ++ [c6]) (av := 2) (la := 0) (fn := 11) (cn := 2) (nf1 := 14) (nc1 := 1) (la1 := 1) (us := 1) (hd := 0) (ln := 1) (x := 0) (c0 := c5) (rest := [c6]) (M := M3) hv HMM3.out HB6.out J1.out rfl (by decide) (by decide) (by decide) J2.out J3.out rfl rfl K1.out K7.out K8.out rfl (by decide) rfl J4.out).mono ?_); rintro e w1 ⟨fa8, fc8, ca8, cc8, free8, R6, e1, rfl, he1, hv1, hq1, ho1, hp1, hso1, hs1⟩; rw [if_pos rfl] at he1; subst he1; replace hv := hv1; have HQ8 := Lib.hid hq1; have HO8 := Lib.hid ho1; have HS8 := Lib.hid hs1; have HB8 := Lib.hid (HBF1.out _ _ _ _ _ _ hq1 ho1); clear hv1 hq1 ho1 hp1 hso1 hs1)
   | ((with_reducible refine at_alloc (T := 58) (dst := some 12) ?_); refine wl_newb rfl #[.int .i64 0, .int .i64 0, .slice none 0 0, .int .u16 0, .int .u16 0, .slice none 0 0, .int .i64 0, .bool false, .int .i64 0, .bool false, .int .i64 0, .bool false, .int .i64 0, .bool false, .int .i64 0, .bool false, .int .i64 0, .bool false, .int .i64 0, .bool false, .int .i64 0, .bool false, .int .i64 0] 58 (fun _ => rfl) ?_; intro b_12 w2 hm2; replace hv := hv.madeAt hm2; clear hm2)
   | (first | ((with_reducible refine at_store (T := 58) ?_); refine wl_stv rfl b_12 rfl _ rfl _ hv.vars.ro hv.vars.so 23 infoBk23 rfl rfl (by simp [Value.oneCell']) ?_; intro w2 hw2; replace hv := hv.sets (by repeat first | exact .z | apply SetM.s) hw2; clear hw2) | ((with_reducible refine at_store (T := 58) ?_); refine wl_stv rfl b_19 rfl _ rfl _ hv.vars.ro hv.vars.so 23 infoBk23 rfl rfl (by simp [Value.oneCell']) ?_; intro w2 hw2; replace hv := hv.sets (by repeat first | exact .z | apply SetM.s) hw2; clear hw2) | ((with_reducible refine at_store (T := 58) ?_); refine wl_stv rfl b_23 rfl _ rfl _ hv.vars.ro hv.vars.so 23 infoBk23 rfl rfl (by simp [Value.oneCell']) ?_; intro w2 hw2; replace hv := hv.sets (by repeat first | exact .z | apply SetM.s) hw2; clear hw2))
   | ((with_reducible refine at_load (T := 63) ?_); refine wl_ldv rfl b_4 rfl _ hv.vars.ro 2 _ Tryz.underlying63 rfl infoD2 (by decide) rfl ?_)
   | (go_at_call 24; have hk9 := RDRead_ok hv (HD7.out.mono HS8.out) (at_ := 1) (by decide); rw [HRD.out] at hk9; (refine hk9.mono ?_); clear hk9; rintro e w1 ⟨rfl, hn1⟩; replace hv := hv.new hn1; clear hn1; have HPV := Lib.hid ((HD7.out.mono HS8.out).cd _ (List.mem_singleton_self _)))
   | ((with_reducible refine at_load (T := 38) ?_); refine wl_ldv rfl b_10 rfl _ hv.vars.ro 4 _ Tryz.underlying38 rfl infoS4 (by decide) rfl ?_)
   | (go_at_call 22; (refine (Serve_d (sn_ := 1) (sn1 := 2) (us := 1) (us1 := 2) (av := 2) (hd := 3) (p := 788) (ps := 1060) (an := 5) (sn := 4) (M := M3) hv (HD7.out.mono HS8.out) (HMM3.out.mono HS8.out) (by decide) rfl J5.out (by decide) J6.out J7.out (by decide) rfl (by decide) ⟨rfl, by decide⟩ rfl (by decide) (by decide)).mono ?_); rintro e w1 ⟨vb9, vc9, R7, rfl, hv1, hm1, hd1, hs1⟩; replace hv := hv1; have HM9 := Lib.hid hm1; have HD9 := Lib.hid hd1; have HS9 := Lib.hid hs1; have HB9 := Lib.hid (HB8.out.mono hs1); clear hv1 hm1 hd1 hs1)
   | ((with_reducible refine at_store (T := 26) ?_); refine wl_stv rfl b_1 rfl _ rfl _ hv.vars.ro hv.vars.so 1 infoM rfl rfl (by simp [Value.oneCell']) ?_; intro w2 hw2; replace hv := hv.sets (by repeat first | exact .z | apply SetM.s) hw2; clear hw2)
   | ((with_reducible refine at_store (T := 38) ?_); refine wl_stv rfl b_10 rfl _ rfl _ hv.vars.ro hv.vars.so 4 infoS4 rfl rfl (by simp [Value.oneCell']) ?_; intro w2 hw2; replace hv := hv.sets (by repeat first | exact .z | apply SetM.s) hw2; clear hw2)
   | ((with_reducible refine at_store (T := 63) ?_); refine wl_stv rfl b_4 rfl _ rfl _ hv.vars.ro hv.vars.so 2 infoD2 rfl rfl (by simp [Value.oneCell']) ?_; intro w2 hw2; replace hv := hv.sets (by repeat first | exact .z | apply SetM.s) hw2; clear hw2)
   | (go_at_call 23; (refine (Done_1 (b0 := false) (h0 := 0) (f0 := false) (s0 := 0) (b1 := true) (h1 := 3) (f1 := true) (s1 := z0) (b2 := false) (h2 := 0) (f2 := false) (s2 := 0) (b3 := false) (h3 := 0) (f3 := false) (s3 := 0) (free := free8) (chs := [c6]) (av := 2) (la := 1) (fn := 14) (cn := 1) (nf1 := 16) (nc1 := 0) (la1 := 2) (us := 2) (hd := 3) (ln := 1) (x := 5) (c0 := c6) (rest := []) (M := returnM (putB M3 1060 [5]) 0 16 1 3 1) hv HM9.out HB9.out J8.out rfl (by decide) (by decide) (by decide) J9.out J10.out rfl rfl K4.out K9.out K10.out rfl (by decide) rfl J11.out).mono ?_); rintro e w1 ⟨faa, fca, caa, cca, freea, Ra, e1, rfl, he1, hv1, hq1, ho1, hp1, hso1, hs1⟩; rw [if_neg (by decide)] at he1; subst he1; replace hv := hv1; have HSa := Lib.hid hs1; have HBa := Lib.hid (BlkQ.zero hq1 ho1); have HMa := Lib.hid (HM9.out.mono hs1); clear hv1 hq1 ho1 hp1 hso1 hs1)
   | ((with_reducible refine at_alloc (T := 58) (dst := some 19) ?_); refine wl_newb rfl #[.int .i64 0, .int .i64 0, .slice none 0 0, .int .u16 0, .int .u16 0, .slice none 0 0, .int .i64 0, .bool false, .int .i64 0, .bool false, .int .i64 0, .bool false, .int .i64 0, .bool false, .int .i64 0, .bool false, .int .i64 0, .bool false, .int .i64 0, .bool false, .int .i64 0, .bool false, .int .i64 0] 58 (fun _ => rfl) ?_; intro b_19 w2 hm2; replace hv := hv.madeAt hm2; clear hm2)
   | (go_at_call 23; (refine (Done_none (b0 := false) (h0 := 0) (f0 := false) (s0 := 0) (b1 := false) (h1 := 0) (f1 := false) (s1 := 0) (b2 := false) (h2 := 0) (f2 := false) (s2 := 0) (b3 := false) (h3 := 0) (f3 := false) (s3 := 0) (free := freea) (chs := []) (av := 2) (la := 2) (fn := 16) (cn := 0) (M := returnM (putB M3 1060 [5]) 0 16 1 3 1) hv HMa.out HBa.out J8.out (by decide)).mono ?_); rintro e w1 ⟨rfl, hv1⟩; replace hv := hv1; clear hv1)
   | ((with_reducible refine at_alloc (T := 58) (dst := some 23) ?_); refine wl_newb rfl #[.int .i64 0, .int .i64 0, .slice none 0 0, .int .u16 0, .int .u16 0, .slice none 0 0, .int .i64 0, .bool false, .int .i64 0, .bool false, .int .i64 0, .bool false, .int .i64 0, .bool false, .int .i64 0, .bool false, .int .i64 0, .bool false, .int .i64 0, .bool false, .int .i64 0, .bool false, .int .i64 0] 58 (fun _ => rfl) ?_; intro b_23 w2 hm2; replace hv := hv.madeAt hm2; clear hm2)
   | (go_at_call 21; (refine (sector_M hv 7 rfl).mono ?_); rintro e w1 ⟨sb9, rfl, hv1⟩; replace hv := hv1; clear hv1)
   | (go_at_call 16; (refine (Bytes_any _ _ (List.replicate 256 7) (List.replicate 256 7) _ (hv.rd (Mem.s (HSa.out _ (HS9.out _ HPV.out.2.1)))) (hv.rd Mem.z) (sec_good (by decide)) (sec_good (by decide))).mono ?_); rintro e w1 ⟨rfl, rfl⟩)
   | (go_at_call 25; (refine (BCheck_ok (b0 := false) (h0 := 0) (f0 := false) (s0 := 0) (b1 := false) (h1 := 0) (f1 := false) (s1 := 0) (b2 := false) (h2 := 0) (f2 := false) (s2 := 0) (b3 := false) (h3 := 0) (f3 := false) (s3 := 0) (free := freea) (chs := []) (av := 2) (la := 2) (fn := 16) (cn := 0) hv (HBa.out.mono fun x hx => Mem.s hx)).mono ?_); rintro e w1 ⟨rfl, hn1⟩; replace hv := hv.new hn1; clear hn1)
   | ((with_reducible refine at_load (T := 61) ?_); refine wl_ldc rfl b_4 1 rfl _ hv.vars.ro _ Tryz.underlying61 rfl (.slice a2 1 c2) rfl ?_)
   | ((with_reducible refine at_load (T := 27) ?_); refine wl_ldc rfl b_10 3 rfl _ hv.vars.ro _ Tryz.underlying27 rfl (.int .u16 2) rfl ?_))
 go_ret
 exact ⟨rfl, hv.below⟩
end Go.Proofs.YtjmibgomkgkhnaaGreat
end

section
/-
 Four requests that wait (layer 9): what stands in memory, which places are busy. No program in sight.
-/
namespace Go.Proofs.Qu
open Go Go.RowKit Go.Proofs.Nm
structure MF (M : List Nat) (k f : Nat) (D : Nat → List Nat) : Prop where
 len : M.length = 1700
 ai : getN M 258 2 = k
 ui : getN M 294 2 = f
 pw : ∀ i, f ≤ i → i < k → getN M (0 + (16 * 16 + (4 + 2 * (i % 16)))) 2 = 3 * i ∧ PW M (3 * i) (500 + 288 * i) i (D i)
 us : ∀ i, i < f → getN M (0 + (backN 16 + (4 + 8 * (i % 16)))) 4 = 3 * i ∧ getN M (0 + (backN 16 + (4 + 8 * (i % 16))) + 4) 4 = 1
theorem MF.new (D : Nat → List Nat) : MF (List.replicate 1700 0) 0 0 D :=
 ⟨List.length_replicate, zeros_getN2 (by decide), zeros_getN2 (by decide), fun i _ h => absurd h (Nat.not_lt_zero _), fun i h => absurd h (Nat.not_lt_zero _)⟩
theorem MF.write {M : List Nat} {k p pd ps : Nat} {D : Nat → List Nat} (H : MF M k 0 D) (hk : k < 4) (hp : 500 + 288 * k = p) (hpd : p + 16 = pd) (hps : p + 272 = ps) (hD : (D k).length = 256) {free : List Nat} (hf : free = (List.range 16).drop (3 * k)) :
   MF (addM (askM M p 1 k (D k)) 0 16 k free [(p, 16, false), (pd, 256, false), (ps, 1, true)]) (k + 1) 0 D := by
 subst hf hpd hps hp
 have hnd : ((List.range 16).drop (3 * k)).Nodup := (List.drop_sublist _ _).nodup List.nodup_range
 have hlt : ∀ d ∈ (List.range 16).drop (3 * k), d < 16 := fun d hd => List.mem_range.1 (List.mem_of_mem_drop hd)
 have ht : ((List.range 16).drop (3 * k)).take 3 = [3 * k, 3 * k + 1, 3 * k + 2] := by
   rcases (show k = 0 ∨ k = 1 ∨ k = 2 ∨ k = 3 from by omega) with rfl | rfl | rfl | rfl <;> rfl
 obtain ⟨h1, h2, h3, h4, h5⟩ := write_new (M := M) (s := k) (h := 3 * k) (av := k) (p := 500 + 288 * k) H.len hD (by omega) (by omega) (by omega) hnd hlt ht (by omega)
 refine ⟨h4, by rw [h2]; omega, by rw [h5]; exact H.ui, fun i g1 g2 => ?_, fun i h => absurd h (Nat.not_lt_zero _)⟩
 rcases Nat.lt_or_ge i k with h | h
 · obtain ⟨e1, e2⟩ := H.pw i g1 h
   exact ⟨(write_slot H.len hD (by omega) (by omega) hnd hlt ht (by omega) (by omega)).trans e1, write_old e2 H.len hD (by omega) (by omega) hnd hlt ht (by omega) (by omega) (by omega) (by omega)⟩
 · obtain rfl : i = k := by omega
   exact ⟨h3, h1⟩
theorem MF.serve {M : List Nat} {k f hd ps ans f1 : Nat} {D : Nat → List Nat} (H : MF M k f D) (hf : f < k) (hk : k ≤ 4) (hhd : 3 * f = hd) (hps : 500 + 288 * f + 272 = ps) (ha : ans < 256) (hf1 : f + 1 = f1) :
   MF (returnM (putB M ps [ans]) 0 16 f hd 1) k f1 D := by
 subst hhd hps hf1
 obtain ⟨h1, h2, h3, h4, h5, h6⟩ := serve_new (M := M) (us := f) (id := 3 * f) (ps := 500 + 288 * f + 272) (an := ans) H.len (by omega) (by omega) (by omega) ha (by omega)
 refine ⟨h1, by rw [h6]; exact H.ai, h2, fun i g1 g2 => ?_, fun i g => ?_⟩
 · obtain ⟨e1, e2⟩ := H.pw i (by omega) g2
   exact ⟨(serve_slot H.len (by omega) (by omega) (by omega)).trans e1, serve_old e2 H.len (by omega) (by omega) (by omega) (by omega) (by omega)⟩
 · rcases Nat.lt_or_ge i f with h | h
   · obtain ⟨e1, e2⟩ := H.us i h
     have u1 := serve_used (M := M) (us := f) (id := 3 * f) (ps := 500 + 288 * f + 272) (an := ans) (sl := i % 16) (k := 0) H.len (by omega) (by omega) (by omega) (by omega) (.inl rfl)
     have u2 := serve_used (M := M) (us := f) (id := 3 * f) (ps := 500 + 288 * f + 272) (an := ans) (sl := i % 16) (k := 4) H.len (by omega) (by omega) (by omega) (by omega) (.inr rfl)
     rw [Nat.add_zero] at u1
     exact ⟨u1.trans e1, u2.trans e2⟩
   · obtain rfl : i = f := by omega
     exact ⟨h3, h4⟩
def sb (g k j : Nat) : Bool := decide (g ≤ j ∧ j < k)
def sh (g k j : Nat) : Nat := if g ≤ j ∧ j < k then 3 * j else 0
def sq (g k j : Nat) : Nat := if g ≤ j ∧ j < k then j else 0
structure SlE (g k j : Nat) (b : Bool) (h s : Nat) : Prop where
 b : b = sb g k j
 h : h = sh g k j
 s : s = sq g k j
theorem SlE.zero {j : Nat} : SlE 0 0 j false 0 0 := ⟨by unfold sb; rw [decide_eq_false (by omega)], by unfold sh; rw [if_neg (by omega)], by unfold sq; rw [if_neg (by omega)]⟩
theorem SlE.more {g k j : Nat} {b : Bool} {h s : Nat} (H : SlE g k j b h s) (hj : j ≠ k) : SlE g (k + 1) j b h s := by
 obtain ⟨h1, h2, h3⟩ := H
 have e : (g ≤ j ∧ j < k + 1) = (g ≤ j ∧ j < k) := propext (by omega)
 exact ⟨by rw [h1]; unfold sb; simp only [e], by rw [h2]; unfold sh; simp only [e], by rw [h3]; unfold sq; simp only [e]⟩
theorem SlE.now {g k : Nat} (hg : g ≤ k) {h : Nat} (hh : h = 3 * k) : SlE g (k + 1) k true h k := by
 have e : g ≤ k ∧ k < k + 1 := by omega
 exact ⟨by unfold sb; rw [decide_eq_true e], by unfold sh; rw [if_pos e]; exact hh, by unfold sq; rw [if_pos e]⟩
theorem SlE.less {g k j : Nat} {b : Bool} {h s : Nat} (H : SlE g k j b h s) (hj : j ≠ g) : SlE (g + 1) k j b h s := by
 obtain ⟨h1, h2, h3⟩ := H
 have e : (g + 1 ≤ j ∧ j < k) = (g ≤ j ∧ j < k) := propext (by omega)
 exact ⟨by rw [h1]; unfold sb; simp only [e], by rw [h2]; unfold sh; simp only [e], by rw [h3]; unfold sq; simp only [e]⟩
theorem SlE.done {g k : Nat} : SlE (g + 1) k g false 0 0 := by
 have e : ¬ (g + 1 ≤ g ∧ g < k) := by omega
 exact ⟨by unfold sb; rw [decide_eq_false e], by unfold sh; rw [if_neg e], by unfold sq; rw [if_neg e]⟩
theorem SlE.off {g k j : Nat} {b : Bool} {h s : Nat} (H : SlE g k j b h s) (hb : b = false) : h = 0 ∧ s = 0 := by
 obtain ⟨h1, h2, h3⟩ := H
 rw [hb] at h1
 have e : ¬ (g ≤ j ∧ j < k) := of_decide_eq_false h1.symm
 exact ⟨by rw [h2]; unfold sh; rw [if_neg e], by rw [h3]; unfold sq; rw [if_neg e]⟩
theorem SlE.out {k j : Nat} {b : Bool} {h s : Nat} (H : SlE k k j b h s) : b = false ∧ h = 0 ∧ s = 0 := by
 have hb : b = false := by rw [H.b]; unfold sb; exact decide_eq_false (by omega)
 exact ⟨hb, (H.off hb).1, (H.off hb).2⟩
structure SlF (g k : Nat) (b0 b1 b2 b3 : Bool) (h0 h1 h2 h3 s0 s1 s2 s3 : Nat) : Prop where
 e0 : SlE g k 0 b0 h0 s0
 e1 : SlE g k 1 b1 h1 s1
 e2 : SlE g k 2 b2 h2 s2
 e3 : SlE g k 3 b3 h3 s3
abbrev SLx (b0 b1 b2 b3 : Bool) (h0 h1 h2 h3 s0 s1 s2 s3 : Nat) : List Rq := [(b0, h0, false, (s0 : Int)), (b1, h1, false, (s1 : Int)), (b2, h2, false, (s2 : Int)), (b3, h3, false, (s3 : Int))]
def ChF (chs : List Chn) (g k : Nat) : Prop := chs.map (fun c => (c.h, c.ds, c.rm)) = (List.range' g (k - g)).map (fun i => (3 * i, [3 * i, 3 * i + 1, 3 * i + 2], 1))
theorem ChF.heads {chs : List Chn} {g k : Nat} (H : ChF chs g k) : chs.map (fun c => ((c.h : Nat) : Int)) = (List.range' g (k - g)).map (fun i => ((3 * i : Nat) : Int)) := by
 have := congrArg (List.map fun x : Nat × List Nat × Nat => ((x.1 : Nat) : Int)) H
 rw [List.map_map, List.map_map] at this
 exact this
theorem ChF.len {chs : List Chn} {g k : Nat} (H : ChF chs g k) : chs.length = k - g := by
 have := congrArg List.length H
 rw [List.length_map, List.length_map, List.length_range'] at this
 exact this
theorem ChF.snoc {chs : List Chn} {k : Nat} {c : Chn} (H : ChF chs 0 k) (h1 : c.h = 3 * k) (h2 : c.ds = [3 * k, 3 * k + 1, 3 * k + 2]) (h3 : c.rm = 1) : ChF (chs ++ [c]) 0 (k + 1) := by
 unfold ChF at *
 rw [List.map_append, H, Nat.sub_zero, Nat.sub_zero, List.range'_1_concat, List.map_append]
 simp [h1, h2, h3]
theorem ChF.cons {chs : List Chn} {g k : Nat} (H : ChF chs g k) (hg : g < k) : ∃ c0 rest, chs = c0 :: rest ∧ c0.h = 3 * g ∧ c0.ds = [3 * g, 3 * g + 1, 3 * g + 2] ∧ c0.rm = 1 ∧ ChF rest (g + 1) k := by
 have hl := H.len
 cases chs with
 | nil => simp only [List.length_nil] at hl; omega
 | cons c0 rest =>
   unfold ChF at H
   obtain ⟨m, hm⟩ : ∃ m, k - g = m + 1 := ⟨k - g - 1, by omega⟩
   rw [hm, List.range'_succ, List.map_cons, List.map_cons, List.cons.injEq, Prod.mk.injEq, Prod.mk.injEq] at H
   refine ⟨c0, rest, rfl, H.1.1, H.1.2.1, H.1.2.2, ?_⟩
   unfold ChF
   rw [show k - (g + 1) = m from by omega]
   exact H.2
theorem ChF.nil {chs : List Chn} {k : Nat} (H : ChF chs k k) : chs = [] := by
 have := H.len
 exact List.eq_nil_of_length_eq_zero (by omega)
section
variable {g k : Nat} {b0 b1 b2 b3 : Bool} {h0 h1 h2 h3 s0 s1 s2 s3 : Nat}
theorem SlF.heads (H : SlF g k b0 b1 b2 b3 h0 h1 h2 h3 s0 s1 s2 s3) (hg : g ≤ k) (hk : k ≤ 4) : hdR (SLx b0 b1 b2 b3 h0 h1 h2 h3 s0 s1 s2 s3) 4 = (List.range' g (k - g)).map (fun i => ((3 * i : Nat) : Int)) := by
 obtain ⟨⟨rfl, rfl, rfl⟩, ⟨rfl, rfl, rfl⟩, ⟨rfl, rfl, rfl⟩, ⟨rfl, rfl, rfl⟩⟩ := H
 rcases (show k = 0 ∨ k = 1 ∨ k = 2 ∨ k = 3 ∨ k = 4 from by omega) with rfl | rfl | rfl | rfl | rfl <;>
 rcases (show g = 0 ∨ g = 1 ∨ g = 2 ∨ g = 3 ∨ g = 4 from by omega) with rfl | rfl | rfl | rfl | rfl <;> first | rfl | omega
theorem SlF.free (H : SlF 0 k b0 b1 b2 b3 h0 h1 h2 h3 s0 s1 s2 s3) (hk : k < 4) : idxF (fun r : Rq => !r.1) (SLx b0 b1 b2 b3 h0 h1 h2 h3 s0 s1 s2 s3) = (k : Int) := by
 obtain ⟨⟨rfl, rfl, rfl⟩, ⟨rfl, rfl, rfl⟩, ⟨rfl, rfl, rfl⟩, ⟨rfl, rfl, rfl⟩⟩ := H
 rcases (show k = 0 ∨ k = 1 ∨ k = 2 ∨ k = 3 from by omega) with rfl | rfl | rfl | rfl <;> rfl
theorem SlF.full (H : SlF 0 4 b0 b1 b2 b3 h0 h1 h2 h3 s0 s1 s2 s3) : idxF (fun r : Rq => !r.1) (SLx b0 b1 b2 b3 h0 h1 h2 h3 s0 s1 s2 s3) = -1 := by
 obtain ⟨⟨rfl, rfl, rfl⟩, ⟨rfl, rfl, rfl⟩, ⟨rfl, rfl, rfl⟩, ⟨rfl, rfl, rfl⟩⟩ := H
 rfl
theorem SlF.idx (H : SlF g k b0 b1 b2 b3 h0 h1 h2 h3 s0 s1 s2 s3) (hg : g < k) (hk : k ≤ 4) {hd : Nat} (hh : hd = 3 * g) : idxF (fun r : Rq => r.1 && r.2.1 == hd) (SLx b0 b1 b2 b3 h0 h1 h2 h3 s0 s1 s2 s3) = (g : Int) := by
 subst hh
 obtain ⟨⟨rfl, rfl, rfl⟩, ⟨rfl, rfl, rfl⟩, ⟨rfl, rfl, rfl⟩, ⟨rfl, rfl, rfl⟩⟩ := H
 rcases (show k = 1 ∨ k = 2 ∨ k = 3 ∨ k = 4 from by omega) with rfl | rfl | rfl | rfl <;>
 rcases (show g = 0 ∨ g = 1 ∨ g = 2 ∨ g = 3 from by omega) with rfl | rfl | rfl | rfl <;> first | rfl | omega
theorem SlF.blk {R : List (Nat × Value × List Value)} {fv cv : Value} {free : List Nat} {chs : List Chn} (H : SlF g k b0 b1 b2 b3 h0 h1 h2 h3 s0 s1 s2 s3) (hg : g ≤ k) (hk : k ≤ 4) (hq : InQ R fv cv free chs) (ho : OkQ 16 free chs) (hc : ChF chs g k) : BlkQ R fv cv free chs (SLx b0 b1 b2 b3 h0 h1 h2 h3 s0 s1 s2 s3) := by
 refine ⟨hq, ho, fun r hr hb => ?_, by rw [H.heads hg hk, hc.heads]⟩
 simp only [List.mem_cons, List.not_mem_nil, or_false] at hr
 rcases hr with rfl | rfl | rfl | rfl
 · have := H.e0.off hb; exact ⟨this.1, rfl, by show (s0 : Int) = 0; rw [this.2]; rfl⟩
 · have := H.e1.off hb; exact ⟨this.1, rfl, by show (s1 : Int) = 0; rw [this.2]; rfl⟩
 · have := H.e2.off hb; exact ⟨this.1, rfl, by show (s2 : Int) = 0; rw [this.2]; rfl⟩
 · have := H.e3.off hb; exact ⟨this.1, rfl, by show (s3 : Int) = 0; rw [this.2]; rfl⟩
end
end Go.Proofs.Qu
end
