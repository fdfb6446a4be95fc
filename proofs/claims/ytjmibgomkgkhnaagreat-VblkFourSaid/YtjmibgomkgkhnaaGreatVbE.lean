/-
 A disk's device (layer 9): what it does.
-/
import Derived.Test.YtjmibgomkgkhnaaGreatVbA
import Derived.Test.YtjmibgomkgkhnaaGreatVbU
import Derived.Test.YtjmibgomkgkhnaaGreatBnp
set_option maxRecDepth 100000
set_option maxHeartbeats 16000000
set_option linter.unusedVariables false
set_option linter.unusedSimpArgs false
namespace Go
open Go.RowKit
section
variable {P : Program} {fn : Func} {R : Ending → World → Prop} {a : Act} {w : World}
theorem ret_ccct {p p' p2 t1 : Tmp} {ty ty' ty2 : TypeId} {ad ad' ad2 : Addr} {v v' v2 v1 : Value} (h : fn.results = #[.cell p ty, .cell p' ty', .cell p2 ty2, .tmp t1]) (hp : a.tmps.getD p undef = .pointer (some ad)) (hp2 : a.tmps.getD p' undef = .pointer (some ad')) (hp3 : a.tmps.getD p2 undef = .pointer (some ad2)) (hl : (loadVar ty ad).run P w = .ok v w) (hl2 : (loadVar ty' ad').run P w = .ok v' w) (hl3 : (loadVar ty2 ad2).run P w = .ok v2 w)
   (h1 : a.tmps.getD t1 undef = v1) (hd : a.defers = []) (hR : R (.returned (.tuple #[v, v', v2, v1])) w) : bodyPost P fn R .ret a w :=
 bodyPost_ret (v := .tuple #[v, v', v2, v1]) (by have q1 : a.tmps[p]?.getD undef = .pointer (some ad) := by simpa using hp
                                                 have q2 : a.tmps[p']?.getD undef = .pointer (some ad') := by simpa using hp2
                                                 have q3 : a.tmps[p2]?.getD undef = .pointer (some ad2) := by simpa using hp3
                                                 have q4 : a.tmps[t1]?.getD undef = v1 := by simpa using h1
                                                 simp [results, h, q1, q2, q3, asAddr, hl, hl2, hl3, q4]) hd hR
end
end Go
namespace Go.Proofs.Qu
open Go Go.RowKit Go.Proofs.Nm
def GetBW (R0 : List (Nat × Value × List Value)) (n : Nat) (D : List Nat) (v : Value) (R' : List (Nat × Value × List Value)) : Prop :=
 ∃ gb gc, v = .tuple #[.slice (some ⟨gb, 0, none⟩) n gc, .int .i64 0] ∧ (1, .slice (some ⟨gb, 0, none⟩) n gc, cellsB D) ∈ R' ∧ ∀ x ∈ R0, x ∈ R'
theorem and31 {s : Nat} (h : s < 256) : bits .and .u64 (s : Int) 2147483647 = (s : Int) := by
 rw [show ((2147483647 : Int)) = ((2147483647 : Nat) : Int) from rfl, bits_and_u64_nat _ _ (by omega) (by decide)]
 have := Nat.and_two_pow_sub_one_eq_mod s 31
 have e : s &&& 2147483647 = s := by
   have h2 : (2 ^ 31 - 1 : Nat) = 2147483647 := by decide
   rw [h2] at this
   rw [this, Nat.mod_eq_of_lt (by omega)]
 rw [e]
end Go.Proofs.Qu
namespace Go.Proofs.YtjmibgomkgkhnaaGreat
open Go.Proofs.Qu Go.Proofs.Nm Go.RowKit Go.Proofs
theorem NumR_4 {vb vc p x : Nat} {pi : Int} {M : List Nat} {R0 : List (Nat × Value × List Value)} (hm : InM R0 vb 0 1700 vc M) (hpi : pi = (p : Nat)) (hp : p + 4 ≤ 1700) (hx : getN M p 4 = x) (w : World) (hr : Rd w 1 (.slice (some ⟨vb, 0, none⟩) 1700 vc) (cellsB M)) : Calls Tryz.prog 47 #[.agg #[.slice (some ⟨vb, 0, none⟩) 1700 vc], .int .i64 pi, .int .i64 4] w fun e w' => e = .returned (.tuple #[.int .u64 x, .int .i64 0]) ∧ New w w' := by
 subst hpi hx
 exact Num_w hm.len hm.pos hm.most hm.good p 4 (by decide) (by decide) hp w hr
theorem NumR_8 {vb vc p x : Nat} {pi : Int} {M : List Nat} {R0 : List (Nat × Value × List Value)} (hm : InM R0 vb 0 1700 vc M) (hpi : pi = (p : Nat)) (hp : p + 8 ≤ 1700) (hx : getN M p 8 = x) (w : World) (hr : Rd w 1 (.slice (some ⟨vb, 0, none⟩) 1700 vc) (cellsB M)) : Calls Tryz.prog 47 #[.agg #[.slice (some ⟨vb, 0, none⟩) 1700 vc], .int .i64 pi, .int .i64 8] w fun e w' => e = .returned (.tuple #[.int .u64 x, .int .i64 0]) ∧ New w w' := by
 subst hpi hx
 exact Num_w hm.len hm.pos hm.most hm.good p 8 (by decide) (by decide) hp w hr
theorem Get_BW {w0 w : World} {L : List (Nat × Array Value)} {R R0 : List (Nat × Value × List Value)} (hv : Mem w0 w L R) (hR : ∀ x ∈ R0, x ∈ R) {vb vc p : Nat} {M D : List Nat} (hm : InM R0 vb 0 1700 vc M) (hp : p + 256 ≤ 1700) (hg : getB M p 256 = D) : Calls Tryz.prog 27 #[.agg #[.slice (some ⟨vb, 0, none⟩) 1700 vc], .int .i64 p, .int .i64 256] w fun e w' => ∃ v R', e = .returned v ∧ GetBW R0 256 D v R' ∧ Mem w0 w' L R' ∧ ∀ x ∈ R, x ∈ R' := by
 refine (Get_ok hv (hm.mono hR) p 256 (by decide) hp).mono ?_
 rintro e w' ⟨b, c, R', rfl, hv1, hi, hs⟩
 rw [hg] at hi
 exact ⟨_, R', rfl, ⟨b, c, rfl, hi, fun x hx => hs x (hR x hx)⟩, hv1, hs⟩
theorem perf_yes {w0 w : World} {L : List (Nat × Array Value)} {R : List (Nat × Value × List Value)} (hv : Mem w0 w L R) {sa ca : Option Addr} {sn sc cn cc vb vc gb go gc p p8 pd ps kd s_ : Nat} {ss : List (Value × List Nat)} {cs : List Wr} {M D : List Nat} (hd : DiskQ R (.slice sa sn sc) (.slice ca cn cc) ss cs) (hm : InM R vb 0 1700 vc M) (hl : (3, .slice (some ⟨gb, go, none⟩) 3 gc, cellsPt [(p, 16, false), (pd, 256, false), (ps, 1, true)]) ∈ R) (h8 : p + 8 = p8) (hpd : p + 16 = pd) (hpe : p + 288 ≤ 1700) (hk : getN M p 4 = kd) (hk1 : kd = 1) (hs : getN M p8 8 = s_) (hs2 : s_ < 256) (hg : getB M pd 256 = D) (hat : s_ < sn) (hcn : cn + 1 < 512) :
   Calls Tryz.prog 44 #[.agg #[.slice (some ⟨vb, 0, none⟩) 1700 vc], .slice (some ⟨gb, go, none⟩) 3 gc, .agg #[.slice sa sn sc, .slice ca cn cc]] w fun e w' => ∃ a2 c2 dv R', e = .returned (.tuple #[.agg #[.slice sa sn sc, .slice a2 (cn + 1) c2], .int .i64 0]) ∧ Mem w0 w' L R' ∧ DiskQ R' (.slice sa sn sc) (.slice a2 (cn + 1) c2) ss (cs ++ [(s_, dv, D)]) ∧ ∀ x ∈ R, x ∈ R' := by
 have HD := Lib.hid hd
 have HM := Lib.hid hm
 have HL := Lib.hid hl
 have HK := Lib.hid hk
 have HS := Lib.hid hs
 have HG := Lib.hid hg
 have HGD : Hid (goodB D) := Lib.hid (by rw [← hg]; exact getB_good hm.good)
 have HAT := Lib.hid hat
 have HCN := Lib.hid hcn
 have HP4 : Hid (p + 4 ≤ 1700) := Lib.hid (by omega)
 have HP8 : Hid (p8 + 8 ≤ 1700) := Lib.hid (by omega)
 have HPD : Hid (pd + 256 ≤ 1700) := Lib.hid (by omega)
 have q1 : IntKind.i64.wrap ((p : Int) + 8) = (p8 : Int) := by rw [IntWalk.i64_in _ (by omega)]; omega
 have q2 : bits .and .u64 (s_ : Int) 2147483647 = (s_ : Int) := and31 hs2
 have q3 : IntKind.i64.wrap (s_ : Int) = (s_ : Int) := IntWalk.i64_in _ (by omega)
 have y1 : ((kd : Int) == 4) = false := by rw [hk1]; decide
 have y2 : ((kd : Int) == 1) = true := by rw [hk1]; decide
 have HSO : Hid (∃ v R', GetBW R 256 D v R') := Lib.hid (Bny.some_of (Get_BW hv (fun x hx => hx) hm HPD.out hg))
 clear hd hm hl h8 hpd hpe hk hk1 hs hs2 hg hat hcn
 go_enter Tryz.func44, Tryz.ntmps44
 go_wp2_with (first
   | ((with_reducible refine at_box (T := 26) (dst := some 3) ?_); refine wl_newb rfl #[.slice (some ⟨vb, 0, none⟩) 1700 vc] 26 (fun _ => rfl) ?_; intro b_3 w2 hm2; replace hv := hv.madeAt hm2; clear hm2)
   | ((with_reducible refine at_box (T := 63) (dst := some 5) ?_); refine wl_newb rfl #[.slice sa sn sc, .slice ca cn cc] 63 (fun _ => rfl) ?_; intro b_5 w2 hm2; replace hv := hv.madeAt hm2; clear hm2)
   | ((with_reducible refine at_alloc (T := 63) (dst := some 6) ?_); refine wl_newb rfl #[.slice none 0 0, .slice none 0 0] 63 (fun _ => rfl) ?_; intro b_6 w2 hm2; replace hv := hv.madeAt hm2; clear hm2))
 replace hv : Mem w0 _ ([(b_6, _), (b_5, _), (b_3, _)] ++ L) R := hv
 try simp only [Act.put]
 refine Bny.wp_region_walk _ _ [⟨[1002], none⟩, ⟨[], none⟩, ⟨[], none⟩, ⟨[], none⟩, ⟨[], none⟩, ⟨[], none⟩, ⟨[], none⟩, ⟨[], none⟩, ⟨[], none⟩, ⟨[], none⟩, ⟨[], none⟩] [.val, .val, .val, .val, .val, .val, .val, .val, .val, .val, .val] (by kernel_rfl) (by kernel_rfl) hv ?_
 simp only [List.length_cons, List.length_nil, Nat.zero_add, Any.someVals]
 iterate 11 apply Exists.intro
 repeat (first
   | (refine Bny.E_off rfl ?_; simp only [Act.put, sia, scs, scz])
   | (apply Bny.E_pureq rfl rfl rfl
      case h => intro K hK; go_big_quiet_op; (refine hK _ ?_; rfl)
      case hr => exact fun _ => rfl
      simp only [Act.put, sia, scs, scz])
   | (apply Bny.E_val rfl rfl rfl rfl
      case h =>
        intro E' hA K hK
        first
          | ((with_reducible refine Bny.at_qload (T := 26) ?_); refine Bny.q_ldv 1002 hA (by decide) rfl rfl 1 _ Tryz.underlying26 rfl infoM (by decide) rfl ?_; refine hK _ ?_; rfl)
          | ((with_reducible refine Bny.at_qload (T := 3) ?_); refine Bny.q_rd (.inl HL.out) hA 0 rfl _ Tryz.underlying3 rfl (.int .i64 p) rfl ?_; refine hK _ ?_; rfl)
          | (go_big_quiet_op; first
            | (refine hK _ ?_; rfl)
            | (refine ⟨_, fun _ _ => rfl, ?_⟩; refine hK _ ?_; rfl)
            | (apply Exists.intro; refine ⟨fun w1 hw1 => ?_, ?_⟩; · (first
                | (go_at_call 47; exact Bny.calls_VE (NumR_4 (p := p) HM.out rfl HP4.out HK.out _ (Bny.Known.rd (ks := []) (.inl HM.out.rd) (Bny.agree.refl _ _) hw1)) hw1))
               refine hK _ ?_; rfl))
      case hD => rfl
      simp only [Act.put, sia, scs, scz]))
 try any_goals exact undef
 refine Bny.E_nil ?_
 intro w9 hE9
 replace hv : Mem w0 w9 ([(b_6, #[.slice none 0 0, .slice none 0 0]), (b_5, #[.slice sa sn sc, .slice ca cn cc]), (b_3, #[.slice (some ⟨vb, 0, none⟩) 1700 vc])] ++ L) R := hE9.mem0 [1000, 1001, 1002] (by decide)
 clear hE9
 simp only [List.cons_append, List.nil_append] at hv
 go_wp2
 replace hv : Mem w0 _ ([(b_6, _), (b_5, _), (b_3, _)] ++ L) R := hv
 try simp only [Act.put]
 refine Bny.wp_region_walk _ _ [⟨[1002], none⟩, ⟨[], none⟩, ⟨[], none⟩, ⟨[], none⟩, ⟨[], none⟩, ⟨[], none⟩, ⟨[], none⟩, ⟨[], none⟩, ⟨[], none⟩, ⟨[], none⟩, ⟨[], none⟩, ⟨[], none⟩] [.val, .val, .val, .val, .val, .val, .val, .val, .val, .val, .val, .val] (by kernel_rfl) (by kernel_rfl) hv ?_
 simp only [List.length_cons, List.length_nil, Nat.zero_add, Any.someVals]
 iterate 12 apply Exists.intro
 repeat (first
   | (refine Bny.E_off rfl ?_; simp only [Act.put, sia, scs, scz])
   | (apply Bny.E_pureq rfl rfl rfl
      case h => intro K hK; go_big_quiet_op; (refine hK _ ?_; rfl)
      case hr => exact fun _ => rfl
      simp only [Act.put, sia, scs, scz])
   | (apply Bny.E_val rfl rfl rfl rfl
      case h =>
        intro E' hA K hK
        first
          | ((with_reducible refine Bny.at_qload (T := 26) ?_); refine Bny.q_ldv 1002 hA (by decide) rfl rfl 1 _ Tryz.underlying26 rfl infoM (by decide) rfl ?_; refine hK _ ?_; rfl)
          | ((with_reducible refine Bny.at_qload (T := 3) ?_); refine Bny.q_rd (.inl HL.out) hA 0 rfl _ Tryz.underlying3 rfl (.int .i64 p) rfl ?_; refine hK _ ?_; rfl)
          | (go_big_quiet_op; first
            | (refine hK _ ?_; rfl)
            | (refine ⟨_, fun _ _ => rfl, ?_⟩; refine hK _ ?_; rfl)
            | (apply Exists.intro; refine ⟨fun w1 hw1 => ?_, ?_⟩; · (first
                | (go_at_call 47; exact Bny.calls_VE (NumR_8 (p := p8) HM.out rfl HP8.out HS.out _ (Bny.Known.rd (ks := []) (.inl HM.out.rd) (Bny.agree.refl _ _) hw1)) hw1))
               refine hK _ ?_; rfl))
      case hD => rfl
      simp only [Act.put, sia, scs, scz]))
 try any_goals exact undef
 refine Bny.E_nil ?_
 intro w9 hE9
 replace hv : Mem w0 w9 ([(b_6, #[.slice none 0 0, .slice none 0 0]), (b_5, #[.slice sa sn sc, .slice ca cn cc]), (b_3, #[.slice (some ⟨vb, 0, none⟩) 1700 vc])] ++ L) R := hE9.mem0 [1000, 1001, 1002] (by decide)
 clear hE9
 simp only [List.cons_append, List.nil_append] at hv
 go_wp2_with (first
   | ((with_reducible refine at_load (T := 3) ?_); refine wl_rd rfl (c := cellsPt [(p, 16, false), (pd, 256, false), (ps, 1, true)]) (hv.rd HL.out) 4 rfl _ Tryz.underlying3 rfl (.int .i64 256) rfl ?_))
 replace hv : Mem w0 _ ([(b_6, _), (b_5, _), (b_3, _)] ++ L) R := hv
 try simp only [Act.put]
 refine Bny.wp_region_walk _ _ [⟨[1002], none⟩, ⟨[], none⟩, ⟨[], none⟩, ⟨[], none⟩, ⟨[], none⟩, ⟨[], some 5⟩, ⟨[], none⟩, ⟨[], none⟩, ⟨[], none⟩, ⟨[], none⟩, ⟨[], none⟩] [.val, .val, .val, .val, .val, .mem (GetBW R 256 D), .pure, .pure, .pure, .pure, .pure] (by kernel_rfl) (by kernel_rfl) hv ?_
 simp only [List.length_cons, List.length_nil, Nat.zero_add, Any.someVals]
 iterate 11 apply Exists.intro
 repeat (first
   | (refine Bny.E_off rfl ?_; simp only [Act.put, sia, scs, scz])
   | ((with_reducible refine Bny.at_ecallf (f := 27) ?_); refine Bny.E_callmem rfl rfl rfl (Go.Proofs.enters_of Tryz.func27 (by kernel_rfl) rfl) rfl [.agg #[.slice (some ⟨vb, 0, none⟩) 1700 vc], .int .i64 pd, .int .i64 256] rfl HSO.out R (fun x hx => .inl hx) (fun w0 w L R' hm hs => Get_BW hm hs HM.out HPD.out HG.out) ?_; rintro v R3 ⟨g3b, g3c, rfl, hg3, hs3⟩; have HG3 := Lib.hid hg3; have HS3 := Lib.hid hs3; clear hg3 hs3; simp only [Act.put, sia, scs, scz])
   | (apply Bny.E_pureq rfl rfl rfl
      case h => intro K hK; go_big_quiet_op; (refine hK _ ?_; rfl)
      case hr => exact fun _ => rfl
      simp only [Act.put, sia, scs, scz])
   | (apply Bny.E_val rfl rfl rfl rfl
      case h =>
        intro E' hA K hK
        first
          | ((with_reducible refine Bny.at_qload (T := 26) ?_); refine Bny.q_ldv 1002 hA (by decide) rfl rfl 1 _ Tryz.underlying26 rfl infoM (by decide) rfl ?_; refine hK _ ?_; rfl)
          | ((with_reducible refine Bny.at_qload (T := 3) ?_); refine Bny.q_rd (.inl HL.out) hA 3 rfl _ Tryz.underlying3 rfl (.int .i64 pd) rfl ?_; refine hK _ ?_; rfl)
          | (go_big_quiet_op; first
            | (refine hK _ ?_; rfl)
            | (refine ⟨_, fun _ _ => rfl, ?_⟩; refine hK _ ?_; rfl)
            | (apply Exists.intro; refine ⟨fun w1 hw1 => ?_, ?_⟩; · (first
                | fail)
               refine hK _ ?_; rfl))
      case hD => rfl
      simp only [Act.put, sia, scs, scz]))
 try any_goals exact undef
 refine Bny.E_nil ?_
 intro w9 hE9
 replace hv : Mem w0 w9 ([(b_6, #[.slice none 0 0, .slice none 0 0]), (b_5, #[.slice sa sn sc, .slice ca cn cc]), (b_3, #[.slice (some ⟨vb, 0, none⟩) 1700 vc])] ++ L) R3 := hE9.mem1 [1000, 1001, 1002] (by decide) 5 rfl
 clear hE9
 simp only [List.cons_append, List.nil_append] at hv
 go_wp2_with (first
   | ((with_reducible refine at_load (T := 63) ?_); refine wl_ldv rfl b_5 rfl _ hv.vars.ro 2 _ Tryz.underlying63 rfl infoD2 (by decide) rfl ?_)
   | (go_at_call 79; (refine (DWrite_ok hv (HD.out.mono HS3.out) HAT.out HCN.out HG3.out HGD.out).mono ?_); rintro e w1 ⟨a2, c2, dv, R4, rfl, hv1, hd4, hs4⟩; replace hv := hv1; have HD4 := Lib.hid hd4; have HS4 := Lib.hid hs4; clear hv1 hd4 hs4)
   | ((with_reducible refine at_store (T := 63) ?_); refine wl_stv rfl b_6 rfl _ rfl _ hv.vars.ro hv.vars.so 2 infoD2 rfl rfl (by simp [Value.oneCell']) ?_; intro w2 hw2; replace hv := hv.sets (by repeat first | exact .z | apply SetM.s) hw2; clear hw2))
 try simp only [Exit.inBlock, Exit.then]
 refine ret_cell2 (v := .agg #[.slice sa sn sc, .slice a2 (cn + 1) c2]) (v1 := .int .i64 0) rfl rfl (read_row _ b_6 63 _ (hv.vars.ro (b := b_6)) 2 _ Tryz.underlying63 rfl infoD2 (by decide) rfl) rfl rfl ?_
 exact ⟨a2, c2, dv, R4, rfl, hv.keep (by exact List.sublist_append_right [_, _, _] L), HD4.out, fun x hx => HS4.out x (HS3.out x hx)⟩
theorem perf_no {w0 w : World} {L : List (Nat × Array Value)} {R : List (Nat × Value × List Value)} (hv : Mem w0 w L R) {sa ca : Option Addr} {sn sc cn cc vb vc gb go gc p p8 pd ps kd s_ : Nat} {ss : List (Value × List Nat)} {cs : List Wr} {M D : List Nat} (hd : DiskQ R (.slice sa sn sc) (.slice ca cn cc) ss cs) (hm : InM R vb 0 1700 vc M) (hl : (3, .slice (some ⟨gb, go, none⟩) 3 gc, cellsPt [(p, 16, false), (pd, 256, false), (ps, 1, true)]) ∈ R) (h8 : p + 8 = p8) (hpd : p + 16 = pd) (hpe : p + 288 ≤ 1700) (hk : getN M p 4 = kd) (hk1 : kd = 1) (hs : getN M p8 8 = s_) (hs2 : s_ < 256) (hg : getB M pd 256 = D) (hat : ¬ s_ < sn) :
   Calls Tryz.prog 44 #[.agg #[.slice (some ⟨vb, 0, none⟩) 1700 vc], .slice (some ⟨gb, go, none⟩) 3 gc, .agg #[.slice sa sn sc, .slice ca cn cc]] w fun e w' => ∃ R', e = .returned (.tuple #[.agg #[.slice sa sn sc, .slice ca cn cc], .int .i64 50]) ∧ Mem w0 w' L R' ∧ ∀ x ∈ R, x ∈ R' := by
 have HD := Lib.hid hd
 have HM := Lib.hid hm
 have HL := Lib.hid hl
 have HK := Lib.hid hk
 have HS := Lib.hid hs
 have HG := Lib.hid hg
 have HGD : Hid (goodB D) := Lib.hid (by rw [← hg]; exact getB_good hm.good)
 have HAT := Lib.hid hat
 have HP4 : Hid (p + 4 ≤ 1700) := Lib.hid (by omega)
 have HP8 : Hid (p8 + 8 ≤ 1700) := Lib.hid (by omega)
 have HPD : Hid (pd + 256 ≤ 1700) := Lib.hid (by omega)
 have q1 : IntKind.i64.wrap ((p : Int) + 8) = (p8 : Int) := by rw [IntWalk.i64_in _ (by omega)]; omega
 have q2 : bits .and .u64 (s_ : Int) 2147483647 = (s_ : Int) := and31 hs2
 have q3 : IntKind.i64.wrap (s_ : Int) = (s_ : Int) := IntWalk.i64_in _ (by omega)
 have y1 : ((kd : Int) == 4) = false := by rw [hk1]; decide
 have y2 : ((kd : Int) == 1) = true := by rw [hk1]; decide
 have HSO : Hid (∃ v R', GetBW R 256 D v R') := Lib.hid (Bny.some_of (Get_BW hv (fun x hx => hx) hm HPD.out hg))
 clear hd hm hl h8 hpd hpe hk hk1 hs hs2 hg hat
 go_enter Tryz.func44, Tryz.ntmps44
 go_wp2_with (first
   | ((with_reducible refine at_box (T := 26) (dst := some 3) ?_); refine wl_newb rfl #[.slice (some ⟨vb, 0, none⟩) 1700 vc] 26 (fun _ => rfl) ?_; intro b_3 w2 hm2; replace hv := hv.madeAt hm2; clear hm2)
   | ((with_reducible refine at_box (T := 63) (dst := some 5) ?_); refine wl_newb rfl #[.slice sa sn sc, .slice ca cn cc] 63 (fun _ => rfl) ?_; intro b_5 w2 hm2; replace hv := hv.madeAt hm2; clear hm2)
   | ((with_reducible refine at_alloc (T := 63) (dst := some 6) ?_); refine wl_newb rfl #[.slice none 0 0, .slice none 0 0] 63 (fun _ => rfl) ?_; intro b_6 w2 hm2; replace hv := hv.madeAt hm2; clear hm2))
 replace hv : Mem w0 _ ([(b_6, _), (b_5, _), (b_3, _)] ++ L) R := hv
 try simp only [Act.put]
 refine Bny.wp_region_walk _ _ [⟨[1002], none⟩, ⟨[], none⟩, ⟨[], none⟩, ⟨[], none⟩, ⟨[], none⟩, ⟨[], none⟩, ⟨[], none⟩, ⟨[], none⟩, ⟨[], none⟩, ⟨[], none⟩, ⟨[], none⟩] [.val, .val, .val, .val, .val, .val, .val, .val, .val, .val, .val] (by kernel_rfl) (by kernel_rfl) hv ?_
 simp only [List.length_cons, List.length_nil, Nat.zero_add, Any.someVals]
 iterate 11 apply Exists.intro
 repeat (first
   | (refine Bny.E_off rfl ?_; simp only [Act.put, sia, scs, scz])
   | (apply Bny.E_pureq rfl rfl rfl
      case h => intro K hK; go_big_quiet_op; (refine hK _ ?_; rfl)
      case hr => exact fun _ => rfl
      simp only [Act.put, sia, scs, scz])
   | (apply Bny.E_val rfl rfl rfl rfl
      case h =>
        intro E' hA K hK
        first
          | ((with_reducible refine Bny.at_qload (T := 26) ?_); refine Bny.q_ldv 1002 hA (by decide) rfl rfl 1 _ Tryz.underlying26 rfl infoM (by decide) rfl ?_; refine hK _ ?_; rfl)
          | ((with_reducible refine Bny.at_qload (T := 3) ?_); refine Bny.q_rd (.inl HL.out) hA 0 rfl _ Tryz.underlying3 rfl (.int .i64 p) rfl ?_; refine hK _ ?_; rfl)
          | (go_big_quiet_op; first
            | (refine hK _ ?_; rfl)
            | (refine ⟨_, fun _ _ => rfl, ?_⟩; refine hK _ ?_; rfl)
            | (apply Exists.intro; refine ⟨fun w1 hw1 => ?_, ?_⟩; · (first
                | (go_at_call 47; exact Bny.calls_VE (NumR_4 (p := p) HM.out rfl HP4.out HK.out _ (Bny.Known.rd (ks := []) (.inl HM.out.rd) (Bny.agree.refl _ _) hw1)) hw1))
               refine hK _ ?_; rfl))
      case hD => rfl
      simp only [Act.put, sia, scs, scz]))
 try any_goals exact undef
 refine Bny.E_nil ?_
 intro w9 hE9
 replace hv : Mem w0 w9 ([(b_6, #[.slice none 0 0, .slice none 0 0]), (b_5, #[.slice sa sn sc, .slice ca cn cc]), (b_3, #[.slice (some ⟨vb, 0, none⟩) 1700 vc])] ++ L) R := hE9.mem0 [1000, 1001, 1002] (by decide)
 clear hE9
 simp only [List.cons_append, List.nil_append] at hv
 go_wp2
 replace hv : Mem w0 _ ([(b_6, _), (b_5, _), (b_3, _)] ++ L) R := hv
 try simp only [Act.put]
 refine Bny.wp_region_walk _ _ [⟨[1002], none⟩, ⟨[], none⟩, ⟨[], none⟩, ⟨[], none⟩, ⟨[], none⟩, ⟨[], none⟩, ⟨[], none⟩, ⟨[], none⟩, ⟨[], none⟩, ⟨[], none⟩, ⟨[], none⟩, ⟨[], none⟩] [.val, .val, .val, .val, .val, .val, .val, .val, .val, .val, .val, .val] (by kernel_rfl) (by kernel_rfl) hv ?_
 simp only [List.length_cons, List.length_nil, Nat.zero_add, Any.someVals]
 iterate 12 apply Exists.intro
 repeat (first
   | (refine Bny.E_off rfl ?_; simp only [Act.put, sia, scs, scz])
   | (apply Bny.E_pureq rfl rfl rfl
      case h => intro K hK; go_big_quiet_op; (refine hK _ ?_; rfl)
      case hr => exact fun _ => rfl
      simp only [Act.put, sia, scs, scz])
   | (apply Bny.E_val rfl rfl rfl rfl
      case h =>
        intro E' hA K hK
        first
          | ((with_reducible refine Bny.at_qload (T := 26) ?_); refine Bny.q_ldv 1002 hA (by decide) rfl rfl 1 _ Tryz.underlying26 rfl infoM (by decide) rfl ?_; refine hK _ ?_; rfl)
          | ((with_reducible refine Bny.at_qload (T := 3) ?_); refine Bny.q_rd (.inl HL.out) hA 0 rfl _ Tryz.underlying3 rfl (.int .i64 p) rfl ?_; refine hK _ ?_; rfl)
          | (go_big_quiet_op; first
            | (refine hK _ ?_; rfl)
            | (refine ⟨_, fun _ _ => rfl, ?_⟩; refine hK _ ?_; rfl)
            | (apply Exists.intro; refine ⟨fun w1 hw1 => ?_, ?_⟩; · (first
                | (go_at_call 47; exact Bny.calls_VE (NumR_8 (p := p8) HM.out rfl HP8.out HS.out _ (Bny.Known.rd (ks := []) (.inl HM.out.rd) (Bny.agree.refl _ _) hw1)) hw1))
               refine hK _ ?_; rfl))
      case hD => rfl
      simp only [Act.put, sia, scs, scz]))
 try any_goals exact undef
 refine Bny.E_nil ?_
 intro w9 hE9
 replace hv : Mem w0 w9 ([(b_6, #[.slice none 0 0, .slice none 0 0]), (b_5, #[.slice sa sn sc, .slice ca cn cc]), (b_3, #[.slice (some ⟨vb, 0, none⟩) 1700 vc])] ++ L) R := hE9.mem0 [1000, 1001, 1002] (by decide)
 clear hE9
 simp only [List.cons_append, List.nil_append] at hv
 go_wp2_with (first
   | ((with_reducible refine at_load (T := 3) ?_); refine wl_rd rfl (c := cellsPt [(p, 16, false), (pd, 256, false), (ps, 1, true)]) (hv.rd HL.out) 4 rfl _ Tryz.underlying3 rfl (.int .i64 256) rfl ?_))
 replace hv : Mem w0 _ ([(b_6, _), (b_5, _), (b_3, _)] ++ L) R := hv
 try simp only [Act.put]
 refine Bny.wp_region_walk _ _ [⟨[1002], none⟩, ⟨[], none⟩, ⟨[], none⟩, ⟨[], none⟩, ⟨[], none⟩, ⟨[], some 5⟩, ⟨[], none⟩, ⟨[], none⟩, ⟨[], none⟩, ⟨[], none⟩, ⟨[], none⟩] [.val, .val, .val, .val, .val, .mem (GetBW R 256 D), .pure, .pure, .pure, .pure, .pure] (by kernel_rfl) (by kernel_rfl) hv ?_
 simp only [List.length_cons, List.length_nil, Nat.zero_add, Any.someVals]
 iterate 11 apply Exists.intro
 repeat (first
   | (refine Bny.E_off rfl ?_; simp only [Act.put, sia, scs, scz])
   | ((with_reducible refine Bny.at_ecallf (f := 27) ?_); refine Bny.E_callmem rfl rfl rfl (Go.Proofs.enters_of Tryz.func27 (by kernel_rfl) rfl) rfl [.agg #[.slice (some ⟨vb, 0, none⟩) 1700 vc], .int .i64 pd, .int .i64 256] rfl HSO.out R (fun x hx => .inl hx) (fun w0 w L R' hm hs => Get_BW hm hs HM.out HPD.out HG.out) ?_; rintro v R3 ⟨g3b, g3c, rfl, hg3, hs3⟩; have HG3 := Lib.hid hg3; have HS3 := Lib.hid hs3; clear hg3 hs3; simp only [Act.put, sia, scs, scz])
   | (apply Bny.E_pureq rfl rfl rfl
      case h => intro K hK; go_big_quiet_op; (refine hK _ ?_; rfl)
      case hr => exact fun _ => rfl
      simp only [Act.put, sia, scs, scz])
   | (apply Bny.E_val rfl rfl rfl rfl
      case h =>
        intro E' hA K hK
        first
          | ((with_reducible refine Bny.at_qload (T := 26) ?_); refine Bny.q_ldv 1002 hA (by decide) rfl rfl 1 _ Tryz.underlying26 rfl infoM (by decide) rfl ?_; refine hK _ ?_; rfl)
          | ((with_reducible refine Bny.at_qload (T := 3) ?_); refine Bny.q_rd (.inl HL.out) hA 3 rfl _ Tryz.underlying3 rfl (.int .i64 pd) rfl ?_; refine hK _ ?_; rfl)
          | (go_big_quiet_op; first
            | (refine hK _ ?_; rfl)
            | (refine ⟨_, fun _ _ => rfl, ?_⟩; refine hK _ ?_; rfl)
            | (apply Exists.intro; refine ⟨fun w1 hw1 => ?_, ?_⟩; · (first
                | fail)
               refine hK _ ?_; rfl))
      case hD => rfl
      simp only [Act.put, sia, scs, scz]))
 try any_goals exact undef
 refine Bny.E_nil ?_
 intro w9 hE9
 replace hv : Mem w0 w9 ([(b_6, #[.slice none 0 0, .slice none 0 0]), (b_5, #[.slice sa sn sc, .slice ca cn cc]), (b_3, #[.slice (some ⟨vb, 0, none⟩) 1700 vc])] ++ L) R3 := hE9.mem1 [1000, 1001, 1002] (by decide) 5 rfl
 clear hE9
 simp only [List.cons_append, List.nil_append] at hv
 go_wp2_with (first
   | ((with_reducible refine at_load (T := 63) ?_); refine wl_ldv rfl b_5 rfl _ hv.vars.ro 2 _ Tryz.underlying63 rfl infoD2 (by decide) rfl ?_)
   | (go_at_call 79; (refine (DWrite_no hv (HD.out.mono HS3.out) HAT.out).mono ?_); rintro e w1 ⟨rfl, hn1⟩; replace hv := hv.new hn1; clear hn1)
   | ((with_reducible refine at_store (T := 63) ?_); refine wl_stv rfl b_6 rfl _ rfl _ hv.vars.ro hv.vars.so 2 infoD2 rfl rfl (by simp [Value.oneCell']) ?_; intro w2 hw2; replace hv := hv.sets (by repeat first | exact .z | apply SetM.s) hw2; clear hw2))
 try simp only [Exit.inBlock, Exit.then]
 refine ret_cell2 (v := .agg #[.slice sa sn sc, .slice ca cn cc]) (v1 := .int .i64 50) rfl rfl (read_row _ b_6 63 _ (hv.vars.ro (b := b_6)) 2 _ Tryz.underlying63 rfl infoD2 (by decide) rfl) rfl rfl ?_
 exact ⟨R3, rfl, hv.keep (by exact List.sublist_append_right [_, _, _] L), HS3.out⟩
theorem Serve_a {w0 w : World} {L : List (Nat × Array Value)} {R : List (Nat × Value × List Value)} (hv : Mem w0 w L R) {sa ca : Option Addr} {sn sc cn cc vb vc sn_ sn1 us us1 av hd p p8 pd ps kd s_ : Nat} {st : Int} {ss : List (Value × List Nat)} {cs : List Wr} {M D : List Nat} (hd_ : DiskQ R (.slice sa sn sc) (.slice ca cn cc) ss cs) (hm : InM R vb 0 1700 vc M) (hsn : sn_ < 65535) (hsn1 : sn_ + 1 = sn1) (g1 : getN M 258 2 = av) (gne : av ≠ sn_) (g2 : getN M (0 + (16 * 16 + (4 + 2 * (sn_ % 16)))) 2 = hd) (gc : ChainAt 1700 M 0 16 hd [(p, 16, false), (pd, 256, false), (ps, 1, true)]) (hus : us < 65535) (hus1 : us + 1 = us1) (hhd : hd < 16) (hps : p + 272 = ps ∧ p + 288 ≤ 1700) (hst : IntKind.u8.wrap st = 0) (hk : getN M p 4 = kd) (hk1 : kd = 1) (h8 : p + 8 = p8) (hpd : p + 16 = pd) (hs : getN M p8 8 = s_) (hs2 : s_ < 256) (hg : getB M pd 256 = D) (hat : s_ < sn) (hcn : cn + 1 < 512) :
   Calls Tryz.prog 22 #[.agg #[.slice (some ⟨vb, 0, none⟩) 1700 vc], .agg #[.int .i64 0, .int .i64 16, .int .u16 sn_, .int .u16 us], .agg #[.slice sa sn sc, .slice ca cn cc], .int .i64 st] w fun e w' => ∃ a2 c2 dv vb4 vc4 R', e = .returned (.tuple #[.agg #[.slice (some ⟨vb4, 0, none⟩) 1700 vc4], .agg #[.int .i64 0, .int .i64 16, .int .u16 sn1, .int .u16 us1], .agg #[.slice sa sn sc, .slice a2 (cn + 1) c2], .int .i64 0]) ∧ Mem w0 w' L R' ∧ InM R' vb4 0 1700 vc4 (returnM (putB M ps [0]) 0 16 us hd 1) ∧ DiskQ R' (.slice sa sn sc) (.slice a2 (cn + 1) c2) ss (cs ++ [(s_, dv, D)]) ∧ ∀ x ∈ R, x ∈ R' := by
 have HD := Lib.hid hd_
 have HM := Lib.hid hm
 have HSN := Lib.hid hsn
 have HSN1 := Lib.hid hsn1
 have G1 := Lib.hid g1
 have GNE := Lib.hid gne
 have G2 := Lib.hid g2
 have GC := Lib.hid gc
 have HUS := Lib.hid hus
 have HUS1 := Lib.hid hus1
 have HHD := Lib.hid hhd
 have HLM : Hid (([(p, 16, false), (pd, 256, false), (ps, 1, true)] : List Pt).length = 3) := Lib.hid rfl
 have HM16 : Hid (3 ≤ 16) := Lib.hid (by decide)
 have HM0 : Hid (0 < 3) := Lib.hid (by decide)
 have HG5 : Hid (goodB [0]) := Lib.hid (by intro x hx; rw [List.mem_singleton.1 hx]; decide)
 have HN1 : Hid (0 < [0].length) := Lib.hid (by show 0 < 1; decide)
 have HPS : Hid (ps + [0].length ≤ 1700) := Lib.hid (by show ps + 1 ≤ 1700; omega)
 have HK := Lib.hid hk
 have HK1 := Lib.hid hk1
 have HP8 := Lib.hid h8
 have HPD := Lib.hid hpd
 have HPE : Hid (p + 288 ≤ 1700) := Lib.hid (by omega)
 have HS := Lib.hid hs
 have HS2 := Lib.hid hs2
 have HG := Lib.hid hg
 have HAT := Lib.hid hat
 have HCN := Lib.hid hcn
 clear hd_ hm hsn hsn1 g1 gne g2 gc hus hus1 hhd hps hk hk1 h8 hpd hs hs2 hg hat hcn
 go_enter Tryz.func22, Tryz.ntmps22
 go_wp2_with (first
   | ((with_reducible refine at_box (T := 26) (dst := some 4) ?_); refine wl_newb rfl #[.slice (some ⟨vb, 0, none⟩) 1700 vc] 26 (fun _ => rfl) ?_; intro b_4 w2 hm2; replace hv := hv.madeAt hm2; clear hm2)
   | ((with_reducible refine at_box (T := 38) (dst := some 5) ?_); refine wl_newb rfl #[.int .i64 0, .int .i64 16, .int .u16 sn_, .int .u16 us] 38 (fun _ => rfl) ?_; intro b_5 w2 hm2; replace hv := hv.madeAt hm2; clear hm2)
   | ((with_reducible refine at_box (T := 63) (dst := some 6) ?_); refine wl_newb rfl #[.slice sa sn sc, .slice ca cn cc] 63 (fun _ => rfl) ?_; intro b_6 w2 hm2; replace hv := hv.madeAt hm2; clear hm2)
   | ((with_reducible refine at_alloc (T := 26) (dst := some 8) ?_); refine wl_newb rfl #[.slice none 0 0] 26 (fun _ => rfl) ?_; intro b_8 w2 hm2; replace hv := hv.madeAt hm2; clear hm2)
   | ((with_reducible refine at_alloc (T := 38) (dst := some 9) ?_); refine wl_newb rfl #[.int .i64 0, .int .i64 0, .int .u16 0, .int .u16 0] 38 (fun _ => rfl) ?_; intro b_9 w2 hm2; replace hv := hv.madeAt hm2; clear hm2)
   | ((with_reducible refine at_alloc (T := 63) (dst := some 10) ?_); refine wl_newb rfl #[.slice none 0 0, .slice none 0 0] 63 (fun _ => rfl) ?_; intro b_10 w2 hm2; replace hv := hv.madeAt hm2; clear hm2)
   | ((with_reducible refine at_load (T := 26) ?_); refine wl_ldv rfl b_4 rfl _ hv.vars.ro 1 _ Tryz.underlying26 rfl infoM (by decide) rfl ?_)
   | ((with_reducible refine at_load (T := 38) ?_); refine wl_ldv rfl b_5 rfl _ hv.vars.ro 4 _ Tryz.underlying38 rfl infoS4 (by decide) rfl ?_)
   | (go_at_call 29; (with_reducible refine (Next_B hv [(p, 16, false), (pd, 256, false), (ps, 1, true)] HM.out HSN.out HSN1.out G1.out GNE.out G2.out GC.out HLM.out HM16.out HM0.out).mono ?_); rintro e w1 ⟨gb, go, gc, R1, rfl, hv1, hl1, hs1⟩; replace hv := hv1; have HL := Lib.hid hl1; have HS1 := Lib.hid hs1; have HM1 := Lib.hid (HM.out.mono hs1); have HD1 := Lib.hid (HD.out.mono hs1); clear hv1 hl1 hs1)
   | ((with_reducible refine at_store (T := 38) ?_); refine wl_stv rfl b_5 rfl _ rfl _ hv.vars.ro hv.vars.so 4 infoS4 rfl rfl (by simp [Value.oneCell']) ?_; intro w2 hw2; replace hv := hv.sets (by repeat first | exact .z | apply SetM.s) hw2; clear hw2)
   | ((with_reducible refine at_load (T := 91) ?_); refine wl_rdv rfl (c := cellsPt [(p, 16, false), (pd, 256, false), (ps, 1, true)]) (hv.rd HL.out) 6 rfl 3 _ Tryz.underlying91 rfl infoB3 (by decide) #[.int .i64 ps, .int .i64 1, .bool true] rfl rfl ?_)
   | ((with_reducible refine at_alloc (T := 91) (dst := some 15) ?_); refine wl_newb rfl #[.int .i64 0, .int .i64 0, .bool false] 91 (fun _ => rfl) ?_; intro b_15 w2 hm2; replace hv := hv.madeAt hm2; clear hm2)
   | ((with_reducible refine at_store (T := 91) ?_); refine wl_stv rfl b_15 rfl _ rfl _ hv.vars.ro hv.vars.so 3 infoB3 rfl rfl (by simp [Value.oneCell']) ?_; intro w2 hw2; replace hv := hv.sets (by repeat first | exact .z | apply SetM.s) hw2; clear hw2)
   | ((with_reducible refine at_load (T := 3) ?_); refine wl_rd rfl (c := cellsPt [(p, 16, false), (pd, 256, false), (ps, 1, true)]) (hv.rd HL.out) 1 rfl _ Tryz.underlying3 rfl (.int .i64 16) rfl ?_)
   | ((with_reducible refine at_load (T := 3) ?_); refine wl_ldc rfl b_15 1 rfl _ hv.vars.ro _ Tryz.underlying3 rfl (.int .i64 1) rfl ?_)
   | ((with_reducible refine at_load (T := 4) ?_); refine wl_ldc rfl b_15 2 rfl _ hv.vars.ro _ Tryz.underlying4 rfl (.bool true) rfl ?_)
   | ((with_reducible refine at_load (T := 26) ?_); refine wl_ldv rfl b_4 rfl _ hv.vars.ro 1 _ Tryz.underlying26 rfl infoM (by decide) rfl ?_)
   | ((with_reducible refine at_load (T := 63) ?_); refine wl_ldv rfl b_6 rfl _ hv.vars.ro 2 _ Tryz.underlying63 rfl infoD2 (by decide) rfl ?_)
   | (go_at_call 44; (refine (perf_yes hv HD1.out HM1.out HL.out HP8.out HPD.out HPE.out HK.out HK1.out HS.out HS2.out HG.out HAT.out HCN.out).mono ?_); rintro e w1 ⟨a2, c2, dv, R2, rfl, hv1, hd1, hs1⟩; replace hv := hv1; have HD2 := Lib.hid hd1; have HS9 := Lib.hid hs1; have HM2 := Lib.hid (HM1.out.mono hs1); clear hv1 hd1 hs1)
   | ((with_reducible refine at_alloc (T := 63) (dst := some 17) ?_); refine wl_newb rfl #[.slice none 0 0, .slice none 0 0] 63 (fun _ => rfl) ?_; intro b_17 w2 hm2; replace hv := hv.madeAt hm2; clear hm2)
   | ((with_reducible refine at_store (T := 63) ?_); refine wl_stv rfl b_17 rfl _ rfl _ hv.vars.ro hv.vars.so 2 infoD2 rfl rfl (by simp [Value.oneCell']) ?_; intro w2 hw2; replace hv := hv.sets (by repeat first | exact .z | apply SetM.s) hw2; clear hw2)
   | ((with_reducible refine at_load (T := 63) ?_); refine wl_ldv rfl b_17 rfl _ hv.vars.ro 2 _ Tryz.underlying63 rfl infoD2 (by decide) rfl ?_)
   | ((with_reducible refine at_store (T := 63) ?_); refine wl_stv rfl b_6 rfl _ rfl _ hv.vars.ro hv.vars.so 2 infoD2 rfl rfl (by simp [Value.oneCell']) ?_; intro w2 hw2; replace hv := hv.sets (by repeat first | exact .z | apply SetM.s) hw2; clear hw2)
   | ((with_reducible refine at_load (T := 26) ?_); refine wl_ldv rfl b_4 rfl _ hv.vars.ro 1 _ Tryz.underlying26 rfl infoM (by decide) rfl ?_)
   | ((with_reducible refine at_load (T := 3) ?_); refine wl_ldc rfl b_15 0 rfl _ hv.vars.ro _ Tryz.underlying3 rfl (.int .i64 ps) rfl ?_)
   | (go_at_call 30; have hv1 := hv.bsl' (k := 1) (n := 1) (c := cellsB [0]) ⟨rfl, made_alloc _ #[.int .u8 0] 5⟩ rfl rfl (by unfold maxLen; omega); replace hv := hv1; clear hv1; (refine (Put_ok hv (HM2.out.mono fun x hx => Mem.s hx) ps Mem.z HG5.out HN1.out HPS.out).mono ?_); rintro e w1 ⟨vb3, vc3, R3, rfl, hv1, hm1, hs1⟩; replace hv := hv1; have HM3 := Lib.hid hm1; have HS3 : Hid (∀ x ∈ R2, x ∈ R3) := Lib.hid (fun x hx => hs1 x (Mem.s hx)); clear hv1 hm1 hs1)
   | ((with_reducible refine at_store (T := 26) ?_); refine wl_stv rfl b_4 rfl _ rfl _ hv.vars.ro hv.vars.so 1 infoM rfl rfl (by simp [Value.oneCell']) ?_; intro w2 hw2; replace hv := hv.sets (by repeat first | exact .z | apply SetM.s) hw2; clear hw2)
   | ((with_reducible refine at_load (T := 38) ?_); refine wl_ldv rfl b_5 rfl _ hv.vars.ro 4 _ Tryz.underlying38 rfl infoS4 (by decide) rfl ?_)
   | (go_at_call 31; (with_reducible refine (Give_B hv HM3.out HUS.out HUS1.out HHD.out).mono ?_); rintro e w1 ⟨vb4, vc4, R4, rfl, hv1, hm1, hs1⟩; replace hv := hv1; have HM4 := Lib.hid hm1; have HS4 := Lib.hid hs1; clear hv1 hm1 hs1)
   | ((with_reducible refine at_store (T := 38) ?_); refine wl_stv rfl b_5 rfl _ rfl _ hv.vars.ro hv.vars.so 4 infoS4 rfl rfl (by simp [Value.oneCell']) ?_; intro w2 hw2; replace hv := hv.sets (by repeat first | exact .z | apply SetM.s) hw2; clear hw2))
 replace hv : Mem w0 _ ([(b_17, _), (b_15, _), (b_10, _), (b_9, _), (b_8, _), (b_6, _), (b_5, _), (b_4, _)] ++ L) R4 := hv
 try simp only [Act.put]
 refine Bny.wp_region_walk _ _ [⟨[1007], none⟩, ⟨[1006], none⟩, ⟨[1005], none⟩, ⟨[1004], some 1004⟩, ⟨[1003], some 1003⟩, ⟨[1002], some 1002⟩, ⟨[], none⟩] [.val, .val, .val, .put, .put, .put, .val] (by kernel_rfl) (by kernel_rfl) hv ?_
 simp only [List.length_cons, List.length_nil, Nat.zero_add, Any.someVals]
 iterate 7 apply Exists.intro
 repeat (first
   | (refine Bny.E_off rfl ?_; simp only [Act.put, sia, scs, scz])
   | ((with_reducible refine Bny.at_estore (T := 26) ?_); refine Bny.E_putv (T := 26) rfl rfl rfl rfl rfl rfl 1 infoM rfl rfl (by simp [Value.oneCell']) ?_; simp only [Act.put, sia, scs, scz])
   | ((with_reducible refine Bny.at_estore (T := 38) ?_); refine Bny.E_putv (T := 38) rfl rfl rfl rfl rfl rfl 4 infoS4 rfl rfl (by simp [Value.oneCell']) ?_; simp only [Act.put, sia, scs, scz])
   | ((with_reducible refine Bny.at_estore (T := 63) ?_); refine Bny.E_putv (T := 63) rfl rfl rfl rfl rfl rfl 2 infoD2 rfl rfl (by simp [Value.oneCell']) ?_; simp only [Act.put, sia, scs, scz])
   | (apply Bny.E_pureq rfl rfl rfl
      case h => intro K hK; go_big_quiet_op; (refine hK _ ?_; rfl)
      case hr => exact fun _ => rfl
      simp only [Act.put, sia, scs, scz])
   | (apply Bny.E_val rfl rfl rfl rfl
      case h =>
        intro E' hA K hK
        first
          | ((with_reducible refine Bny.at_qload (T := 26) ?_); refine Bny.q_ldv 1007 hA (by decide) rfl rfl 1 _ Tryz.underlying26 rfl infoM (by decide) rfl ?_; refine hK _ ?_; rfl)
          | ((with_reducible refine Bny.at_qload (T := 38) ?_); refine Bny.q_ldv 1006 hA (by decide) rfl rfl 4 _ Tryz.underlying38 rfl infoS4 (by decide) rfl ?_; refine hK _ ?_; rfl)
          | ((with_reducible refine Bny.at_qload (T := 63) ?_); refine Bny.q_ldv 1005 hA (by decide) rfl rfl 2 _ Tryz.underlying63 rfl infoD2 (by decide) rfl ?_; refine hK _ ?_; rfl)
          | (go_big_quiet_op; first
            | (refine hK _ ?_; rfl)
            | (refine ⟨_, fun _ _ => rfl, ?_⟩; refine hK _ ?_; rfl)
            | (apply Exists.intro; refine ⟨fun w1 hw1 => ?_, ?_⟩; · (first
                | fail)
               refine hK _ ?_; rfl))
      case hD => rfl
      simp only [Act.put, sia, scs, scz]))
 try any_goals exact undef
 refine Bny.E_nil ?_
 intro w9 hE9
 replace hv : Mem w0 w9 ([(b_17, #[.slice sa sn sc, .slice a2 (cn + 1) c2]), (b_15, #[.int .i64 ps, .int .i64 1, .bool true]), (b_10, #[.slice sa sn sc, .slice a2 (cn + 1) c2]), (b_9, #[.int .i64 0, .int .i64 16, .int .u16 sn1, .int .u16 us1]), (b_8, #[.slice (some ⟨vb4, 0, none⟩) 1700 vc4]), (b_6, #[.slice sa sn sc, .slice a2 (cn + 1) c2]), (b_5, #[.int .i64 0, .int .i64 16, .int .u16 sn1, .int .u16 us1]), (b_4, #[.slice (some ⟨vb4, 0, none⟩) 1700 vc4])] ++ L) R4 := hE9.mem0 [1000, 1001, 1002, 1003, 1004, 1005, 1006, 1007] (by decide)
 clear hE9
 simp only [List.cons_append, List.nil_append] at hv
 go_wp2
 try simp only [Exit.inBlock, Exit.then]
 refine ret_ccct (v := .agg #[.slice (some ⟨vb4, 0, none⟩) 1700 vc4]) (v' := .agg #[.int .i64 0, .int .i64 16, .int .u16 sn1, .int .u16 us1]) (v2 := .agg #[.slice sa sn sc, .slice a2 (cn + 1) c2]) (v1 := .int .i64 0) rfl rfl rfl rfl (read_row _ b_8 26 _ (hv.vars.ro (b := b_8)) 1 _ Tryz.underlying26 rfl infoM (by decide) rfl) (read_row _ b_9 38 _ (hv.vars.ro (b := b_9)) 4 _ Tryz.underlying38 rfl infoS4 (by decide) rfl) (read_row _ b_10 63 _ (hv.vars.ro (b := b_10)) 2 _ Tryz.underlying63 rfl infoD2 (by decide) rfl) rfl rfl ?_
 exact ⟨a2, c2, dv, vb4, vc4, R4, rfl, hv.keep (by exact List.sublist_append_right [_, _, _, _, _, _, _, _] L), HM4.out, HD2.out.mono fun x hx => HS4.out x (HS3.out x hx), fun x hx => HS4.out x (HS3.out x (HS9.out x (HS1.out x hx)))⟩
theorem Serve_b {w0 w : World} {L : List (Nat × Array Value)} {R : List (Nat × Value × List Value)} (hv : Mem w0 w L R) {sa ca : Option Addr} {sn sc cn cc vb vc sn_ sn1 us us1 av hd p p8 pd ps kd s_ : Nat} {st : Int} {ss : List (Value × List Nat)} {cs : List Wr} {M D : List Nat} (hd_ : DiskQ R (.slice sa sn sc) (.slice ca cn cc) ss cs) (hm : InM R vb 0 1700 vc M) (hsn : sn_ < 65535) (hsn1 : sn_ + 1 = sn1) (g1 : getN M 258 2 = av) (gne : av ≠ sn_) (g2 : getN M (0 + (16 * 16 + (4 + 2 * (sn_ % 16)))) 2 = hd) (gc : ChainAt 1700 M 0 16 hd [(p, 16, false), (pd, 256, false), (ps, 1, true)]) (hus : us < 65535) (hus1 : us + 1 = us1) (hhd : hd < 16) (hps : p + 272 = ps ∧ p + 288 ≤ 1700) (hst : IntKind.u8.wrap st = 0) (hk : getN M p 4 = kd) (hk1 : kd = 1) (h8 : p + 8 = p8) (hpd : p + 16 = pd) (hs : getN M p8 8 = s_) (hs2 : s_ < 256) (hg : getB M pd 256 = D) (hat : ¬ s_ < sn) :
   Calls Tryz.prog 22 #[.agg #[.slice (some ⟨vb, 0, none⟩) 1700 vc], .agg #[.int .i64 0, .int .i64 16, .int .u16 sn_, .int .u16 us], .agg #[.slice sa sn sc, .slice ca cn cc], .int .i64 st] w fun e w' => ∃ vb4 vc4 R', e = .returned (.tuple #[.agg #[.slice (some ⟨vb4, 0, none⟩) 1700 vc4], .agg #[.int .i64 0, .int .i64 16, .int .u16 sn1, .int .u16 us1], .agg #[.slice sa sn sc, .slice ca cn cc], .int .i64 0]) ∧ Mem w0 w' L R' ∧ InM R' vb4 0 1700 vc4 (returnM (putB M ps [1]) 0 16 us hd 1) ∧ DiskQ R' (.slice sa sn sc) (.slice ca cn cc) ss cs ∧ ∀ x ∈ R, x ∈ R' := by
 have HD := Lib.hid hd_
 have HM := Lib.hid hm
 have HSN := Lib.hid hsn
 have HSN1 := Lib.hid hsn1
 have G1 := Lib.hid g1
 have GNE := Lib.hid gne
 have G2 := Lib.hid g2
 have GC := Lib.hid gc
 have HUS := Lib.hid hus
 have HUS1 := Lib.hid hus1
 have HHD := Lib.hid hhd
 have HLM : Hid (([(p, 16, false), (pd, 256, false), (ps, 1, true)] : List Pt).length = 3) := Lib.hid rfl
 have HM16 : Hid (3 ≤ 16) := Lib.hid (by decide)
 have HM0 : Hid (0 < 3) := Lib.hid (by decide)
 have HG5 : Hid (goodB [1]) := Lib.hid (by intro x hx; rw [List.mem_singleton.1 hx]; decide)
 have HN1 : Hid (0 < [1].length) := Lib.hid (by show 0 < 1; decide)
 have HPS : Hid (ps + [1].length ≤ 1700) := Lib.hid (by show ps + 1 ≤ 1700; omega)
 have HK := Lib.hid hk
 have HK1 := Lib.hid hk1
 have HP8 := Lib.hid h8
 have HPD := Lib.hid hpd
 have HPE : Hid (p + 288 ≤ 1700) := Lib.hid (by omega)
 have HS := Lib.hid hs
 have HS2 := Lib.hid hs2
 have HG := Lib.hid hg
 have HAT := Lib.hid hat
 clear hd_ hm hsn hsn1 g1 gne g2 gc hus hus1 hhd hps hk hk1 h8 hpd hs hs2 hg hat
 go_enter Tryz.func22, Tryz.ntmps22
 go_wp2_with (first
   | ((with_reducible refine at_box (T := 26) (dst := some 4) ?_); refine wl_newb rfl #[.slice (some ⟨vb, 0, none⟩) 1700 vc] 26 (fun _ => rfl) ?_; intro b_4 w2 hm2; replace hv := hv.madeAt hm2; clear hm2)
   | ((with_reducible refine at_box (T := 38) (dst := some 5) ?_); refine wl_newb rfl #[.int .i64 0, .int .i64 16, .int .u16 sn_, .int .u16 us] 38 (fun _ => rfl) ?_; intro b_5 w2 hm2; replace hv := hv.madeAt hm2; clear hm2)
   | ((with_reducible refine at_box (T := 63) (dst := some 6) ?_); refine wl_newb rfl #[.slice sa sn sc, .slice ca cn cc] 63 (fun _ => rfl) ?_; intro b_6 w2 hm2; replace hv := hv.madeAt hm2; clear hm2)
   | ((with_reducible refine at_alloc (T := 26) (dst := some 8) ?_); refine wl_newb rfl #[.slice none 0 0] 26 (fun _ => rfl) ?_; intro b_8 w2 hm2; replace hv := hv.madeAt hm2; clear hm2)
   | ((with_reducible refine at_alloc (T := 38) (dst := some 9) ?_); refine wl_newb rfl #[.int .i64 0, .int .i64 0, .int .u16 0, .int .u16 0] 38 (fun _ => rfl) ?_; intro b_9 w2 hm2; replace hv := hv.madeAt hm2; clear hm2)
   | ((with_reducible refine at_alloc (T := 63) (dst := some 10) ?_); refine wl_newb rfl #[.slice none 0 0, .slice none 0 0] 63 (fun _ => rfl) ?_; intro b_10 w2 hm2; replace hv := hv.madeAt hm2; clear hm2)
   | ((with_reducible refine at_load (T := 26) ?_); refine wl_ldv rfl b_4 rfl _ hv.vars.ro 1 _ Tryz.underlying26 rfl infoM (by decide) rfl ?_)
   | ((with_reducible refine at_load (T := 38) ?_); refine wl_ldv rfl b_5 rfl _ hv.vars.ro 4 _ Tryz.underlying38 rfl infoS4 (by decide) rfl ?_)
   | (go_at_call 29; (with_reducible refine (Next_B hv [(p, 16, false), (pd, 256, false), (ps, 1, true)] HM.out HSN.out HSN1.out G1.out GNE.out G2.out GC.out HLM.out HM16.out HM0.out).mono ?_); rintro e w1 ⟨gb, go, gc, R1, rfl, hv1, hl1, hs1⟩; replace hv := hv1; have HL := Lib.hid hl1; have HS1 := Lib.hid hs1; have HM1 := Lib.hid (HM.out.mono hs1); have HD1 := Lib.hid (HD.out.mono hs1); clear hv1 hl1 hs1)
   | ((with_reducible refine at_store (T := 38) ?_); refine wl_stv rfl b_5 rfl _ rfl _ hv.vars.ro hv.vars.so 4 infoS4 rfl rfl (by simp [Value.oneCell']) ?_; intro w2 hw2; replace hv := hv.sets (by repeat first | exact .z | apply SetM.s) hw2; clear hw2)
   | ((with_reducible refine at_load (T := 91) ?_); refine wl_rdv rfl (c := cellsPt [(p, 16, false), (pd, 256, false), (ps, 1, true)]) (hv.rd HL.out) 6 rfl 3 _ Tryz.underlying91 rfl infoB3 (by decide) #[.int .i64 ps, .int .i64 1, .bool true] rfl rfl ?_)
   | ((with_reducible refine at_alloc (T := 91) (dst := some 15) ?_); refine wl_newb rfl #[.int .i64 0, .int .i64 0, .bool false] 91 (fun _ => rfl) ?_; intro b_15 w2 hm2; replace hv := hv.madeAt hm2; clear hm2)
   | ((with_reducible refine at_store (T := 91) ?_); refine wl_stv rfl b_15 rfl _ rfl _ hv.vars.ro hv.vars.so 3 infoB3 rfl rfl (by simp [Value.oneCell']) ?_; intro w2 hw2; replace hv := hv.sets (by repeat first | exact .z | apply SetM.s) hw2; clear hw2)
   | ((with_reducible refine at_load (T := 3) ?_); refine wl_rd rfl (c := cellsPt [(p, 16, false), (pd, 256, false), (ps, 1, true)]) (hv.rd HL.out) 1 rfl _ Tryz.underlying3 rfl (.int .i64 16) rfl ?_)
   | ((with_reducible refine at_load (T := 3) ?_); refine wl_ldc rfl b_15 1 rfl _ hv.vars.ro _ Tryz.underlying3 rfl (.int .i64 1) rfl ?_)
   | ((with_reducible refine at_load (T := 4) ?_); refine wl_ldc rfl b_15 2 rfl _ hv.vars.ro _ Tryz.underlying4 rfl (.bool true) rfl ?_)
   | ((with_reducible refine at_load (T := 26) ?_); refine wl_ldv rfl b_4 rfl _ hv.vars.ro 1 _ Tryz.underlying26 rfl infoM (by decide) rfl ?_)
   | ((with_reducible refine at_load (T := 63) ?_); refine wl_ldv rfl b_6 rfl _ hv.vars.ro 2 _ Tryz.underlying63 rfl infoD2 (by decide) rfl ?_)
   | (go_at_call 44; (refine (perf_no hv HD1.out HM1.out HL.out HP8.out HPD.out HPE.out HK.out HK1.out HS.out HS2.out HG.out HAT.out).mono ?_); rintro e w1 ⟨R2, rfl, hv1, hs1⟩; replace hv := hv1; have HD2 := Lib.hid (HD1.out.mono hs1); have HS9 := Lib.hid hs1; have HM2 := Lib.hid (HM1.out.mono hs1); clear hv1 hs1)
   | ((with_reducible refine at_alloc (T := 63) (dst := some 17) ?_); refine wl_newb rfl #[.slice none 0 0, .slice none 0 0] 63 (fun _ => rfl) ?_; intro b_17 w2 hm2; replace hv := hv.madeAt hm2; clear hm2)
   | ((with_reducible refine at_store (T := 63) ?_); refine wl_stv rfl b_17 rfl _ rfl _ hv.vars.ro hv.vars.so 2 infoD2 rfl rfl (by simp [Value.oneCell']) ?_; intro w2 hw2; replace hv := hv.sets (by repeat first | exact .z | apply SetM.s) hw2; clear hw2)
   | ((with_reducible refine at_load (T := 63) ?_); refine wl_ldv rfl b_17 rfl _ hv.vars.ro 2 _ Tryz.underlying63 rfl infoD2 (by decide) rfl ?_)
   | ((with_reducible refine at_store (T := 63) ?_); refine wl_stv rfl b_6 rfl _ rfl _ hv.vars.ro hv.vars.so 2 infoD2 rfl rfl (by simp [Value.oneCell']) ?_; intro w2 hw2; replace hv := hv.sets (by repeat first | exact .z | apply SetM.s) hw2; clear hw2)
   | ((with_reducible refine at_load (T := 26) ?_); refine wl_ldv rfl b_4 rfl _ hv.vars.ro 1 _ Tryz.underlying26 rfl infoM (by decide) rfl ?_)
   | ((with_reducible refine at_load (T := 3) ?_); refine wl_ldc rfl b_15 0 rfl _ hv.vars.ro _ Tryz.underlying3 rfl (.int .i64 ps) rfl ?_)
   | (go_at_call 30; have hv1 := hv.bsl' (k := 1) (n := 1) (c := cellsB [1]) ⟨rfl, made_alloc _ #[.int .u8 1] 5⟩ rfl rfl (by unfold maxLen; omega); replace hv := hv1; clear hv1; (refine (Put_ok hv (HM2.out.mono fun x hx => Mem.s hx) ps Mem.z HG5.out HN1.out HPS.out).mono ?_); rintro e w1 ⟨vb3, vc3, R3, rfl, hv1, hm1, hs1⟩; replace hv := hv1; have HM3 := Lib.hid hm1; have HS3 : Hid (∀ x ∈ R2, x ∈ R3) := Lib.hid (fun x hx => hs1 x (Mem.s hx)); clear hv1 hm1 hs1)
   | ((with_reducible refine at_store (T := 26) ?_); refine wl_stv rfl b_4 rfl _ rfl _ hv.vars.ro hv.vars.so 1 infoM rfl rfl (by simp [Value.oneCell']) ?_; intro w2 hw2; replace hv := hv.sets (by repeat first | exact .z | apply SetM.s) hw2; clear hw2)
   | ((with_reducible refine at_load (T := 38) ?_); refine wl_ldv rfl b_5 rfl _ hv.vars.ro 4 _ Tryz.underlying38 rfl infoS4 (by decide) rfl ?_)
   | (go_at_call 31; (with_reducible refine (Give_B hv HM3.out HUS.out HUS1.out HHD.out).mono ?_); rintro e w1 ⟨vb4, vc4, R4, rfl, hv1, hm1, hs1⟩; replace hv := hv1; have HM4 := Lib.hid hm1; have HS4 := Lib.hid hs1; clear hv1 hm1 hs1)
   | ((with_reducible refine at_store (T := 38) ?_); refine wl_stv rfl b_5 rfl _ rfl _ hv.vars.ro hv.vars.so 4 infoS4 rfl rfl (by simp [Value.oneCell']) ?_; intro w2 hw2; replace hv := hv.sets (by repeat first | exact .z | apply SetM.s) hw2; clear hw2))
 replace hv : Mem w0 _ ([(b_17, _), (b_15, _), (b_10, _), (b_9, _), (b_8, _), (b_6, _), (b_5, _), (b_4, _)] ++ L) R4 := hv
 try simp only [Act.put]
 refine Bny.wp_region_walk _ _ [⟨[1007], none⟩, ⟨[1006], none⟩, ⟨[1005], none⟩, ⟨[1004], some 1004⟩, ⟨[1003], some 1003⟩, ⟨[1002], some 1002⟩, ⟨[], none⟩] [.val, .val, .val, .put, .put, .put, .val] (by kernel_rfl) (by kernel_rfl) hv ?_
 simp only [List.length_cons, List.length_nil, Nat.zero_add, Any.someVals]
 iterate 7 apply Exists.intro
 repeat (first
   | (refine Bny.E_off rfl ?_; simp only [Act.put, sia, scs, scz])
   | ((with_reducible refine Bny.at_estore (T := 26) ?_); refine Bny.E_putv (T := 26) rfl rfl rfl rfl rfl rfl 1 infoM rfl rfl (by simp [Value.oneCell']) ?_; simp only [Act.put, sia, scs, scz])
   | ((with_reducible refine Bny.at_estore (T := 38) ?_); refine Bny.E_putv (T := 38) rfl rfl rfl rfl rfl rfl 4 infoS4 rfl rfl (by simp [Value.oneCell']) ?_; simp only [Act.put, sia, scs, scz])
   | ((with_reducible refine Bny.at_estore (T := 63) ?_); refine Bny.E_putv (T := 63) rfl rfl rfl rfl rfl rfl 2 infoD2 rfl rfl (by simp [Value.oneCell']) ?_; simp only [Act.put, sia, scs, scz])
   | (apply Bny.E_pureq rfl rfl rfl
      case h => intro K hK; go_big_quiet_op; (refine hK _ ?_; rfl)
      case hr => exact fun _ => rfl
      simp only [Act.put, sia, scs, scz])
   | (apply Bny.E_val rfl rfl rfl rfl
      case h =>
        intro E' hA K hK
        first
          | ((with_reducible refine Bny.at_qload (T := 26) ?_); refine Bny.q_ldv 1007 hA (by decide) rfl rfl 1 _ Tryz.underlying26 rfl infoM (by decide) rfl ?_; refine hK _ ?_; rfl)
          | ((with_reducible refine Bny.at_qload (T := 38) ?_); refine Bny.q_ldv 1006 hA (by decide) rfl rfl 4 _ Tryz.underlying38 rfl infoS4 (by decide) rfl ?_; refine hK _ ?_; rfl)
          | ((with_reducible refine Bny.at_qload (T := 63) ?_); refine Bny.q_ldv 1005 hA (by decide) rfl rfl 2 _ Tryz.underlying63 rfl infoD2 (by decide) rfl ?_; refine hK _ ?_; rfl)
          | (go_big_quiet_op; first
            | (refine hK _ ?_; rfl)
            | (refine ⟨_, fun _ _ => rfl, ?_⟩; refine hK _ ?_; rfl)
            | (apply Exists.intro; refine ⟨fun w1 hw1 => ?_, ?_⟩; · (first
                | fail)
               refine hK _ ?_; rfl))
      case hD => rfl
      simp only [Act.put, sia, scs, scz]))
 try any_goals exact undef
 refine Bny.E_nil ?_
 intro w9 hE9
 replace hv : Mem w0 w9 ([(b_17, #[.slice sa sn sc, .slice ca cn cc]), (b_15, #[.int .i64 ps, .int .i64 1, .bool true]), (b_10, #[.slice sa sn sc, .slice ca cn cc]), (b_9, #[.int .i64 0, .int .i64 16, .int .u16 sn1, .int .u16 us1]), (b_8, #[.slice (some ⟨vb4, 0, none⟩) 1700 vc4]), (b_6, #[.slice sa sn sc, .slice ca cn cc]), (b_5, #[.int .i64 0, .int .i64 16, .int .u16 sn1, .int .u16 us1]), (b_4, #[.slice (some ⟨vb4, 0, none⟩) 1700 vc4])] ++ L) R4 := hE9.mem0 [1000, 1001, 1002, 1003, 1004, 1005, 1006, 1007] (by decide)
 clear hE9
 simp only [List.cons_append, List.nil_append] at hv
 go_wp2
 try simp only [Exit.inBlock, Exit.then]
 refine ret_ccct (v := .agg #[.slice (some ⟨vb4, 0, none⟩) 1700 vc4]) (v' := .agg #[.int .i64 0, .int .i64 16, .int .u16 sn1, .int .u16 us1]) (v2 := .agg #[.slice sa sn sc, .slice ca cn cc]) (v1 := .int .i64 0) rfl rfl rfl rfl (read_row _ b_8 26 _ (hv.vars.ro (b := b_8)) 1 _ Tryz.underlying26 rfl infoM (by decide) rfl) (read_row _ b_9 38 _ (hv.vars.ro (b := b_9)) 4 _ Tryz.underlying38 rfl infoS4 (by decide) rfl) (read_row _ b_10 63 _ (hv.vars.ro (b := b_10)) 2 _ Tryz.underlying63 rfl infoD2 (by decide) rfl) rfl rfl ?_
 exact ⟨vb4, vc4, R4, rfl, hv.keep (by exact List.sublist_append_right [_, _, _, _, _, _, _, _] L), HM4.out, HD2.out.mono fun x hx => HS4.out x (HS3.out x hx), fun x hx => HS4.out x (HS3.out x (HS9.out x (HS1.out x hx)))⟩
theorem Serve_c {w0 w : World} {L : List (Nat × Array Value)} {R : List (Nat × Value × List Value)} (hv : Mem w0 w L R) {sa ca : Option Addr} {sn sc cn cc vb vc sn_ sn1 us us1 av hd p pd ps an : Nat} {st : Int} {ss : List (Value × List Nat)} {cs : List Wr} {M : List Nat} (hd_ : DiskQ R (.slice sa sn sc) (.slice ca cn cc) ss cs) (hm : InM R vb 0 1700 vc M) (hsn : sn_ < 65535) (hsn1 : sn_ + 1 = sn1) (g1 : getN M 258 2 = av) (gne : av ≠ sn_) (g2 : getN M (0 + (16 * 16 + (4 + 2 * (sn_ % 16)))) 2 = hd) (gc : ChainAt 1700 M 0 16 hd [(p, 16, false), (pd, 256, false), (ps, 1, true)]) (hus : us < 65535) (hus1 : us + 1 = us1) (hhd : hd < 16) (hps : p + 272 = ps ∧ p + 288 ≤ 1700) (hst : IntKind.u8.wrap st = (an : Nat)) (han : ¬ an = 0) (han2 : an < 256) :
   Calls Tryz.prog 22 #[.agg #[.slice (some ⟨vb, 0, none⟩) 1700 vc], .agg #[.int .i64 0, .int .i64 16, .int .u16 sn_, .int .u16 us], .agg #[.slice sa sn sc, .slice ca cn cc], .int .i64 st] w fun e w' => ∃ vb4 vc4 R', e = .returned (.tuple #[.agg #[.slice (some ⟨vb4, 0, none⟩) 1700 vc4], .agg #[.int .i64 0, .int .i64 16, .int .u16 sn1, .int .u16 us1], .agg #[.slice sa sn sc, .slice ca cn cc], .int .i64 0]) ∧ Mem w0 w' L R' ∧ InM R' vb4 0 1700 vc4 (returnM (putB M ps [an]) 0 16 us hd 1) ∧ DiskQ R' (.slice sa sn sc) (.slice ca cn cc) ss cs ∧ ∀ x ∈ R, x ∈ R' := by
 have HD := Lib.hid hd_
 have HM := Lib.hid hm
 have HSN := Lib.hid hsn
 have HSN1 := Lib.hid hsn1
 have G1 := Lib.hid g1
 have GNE := Lib.hid gne
 have G2 := Lib.hid g2
 have GC := Lib.hid gc
 have HUS := Lib.hid hus
 have HUS1 := Lib.hid hus1
 have HHD := Lib.hid hhd
 have HLM : Hid (([(p, 16, false), (pd, 256, false), (ps, 1, true)] : List Pt).length = 3) := Lib.hid rfl
 have HM16 : Hid (3 ≤ 16) := Lib.hid (by decide)
 have HM0 : Hid (0 < 3) := Lib.hid (by decide)
 have HG5 : Hid (goodB [an]) := Lib.hid (by intro x hx; rw [List.mem_singleton.1 hx]; omega)
 have HN1 : Hid (0 < [an].length) := Lib.hid (by show 0 < 1; decide)
 have HPS : Hid (ps + [an].length ≤ 1700) := Lib.hid (by show ps + 1 ≤ 1700; omega)
 have y1 : ((an : Int) == 0) = false := by rw [beq_eq_false_iff_ne]; omega
 have y2 : ¬ ((an : Int) = 0) := by omega
 clear hd_ hm hsn hsn1 g1 gne g2 gc hus hus1 hhd hps han han2
 go_enter Tryz.func22, Tryz.ntmps22
 go_wp2_with (first
   | ((with_reducible refine at_box (T := 26) (dst := some 4) ?_); refine wl_newb rfl #[.slice (some ⟨vb, 0, none⟩) 1700 vc] 26 (fun _ => rfl) ?_; intro b_4 w2 hm2; replace hv := hv.madeAt hm2; clear hm2)
   | ((with_reducible refine at_box (T := 38) (dst := some 5) ?_); refine wl_newb rfl #[.int .i64 0, .int .i64 16, .int .u16 sn_, .int .u16 us] 38 (fun _ => rfl) ?_; intro b_5 w2 hm2; replace hv := hv.madeAt hm2; clear hm2)
   | ((with_reducible refine at_box (T := 63) (dst := some 6) ?_); refine wl_newb rfl #[.slice sa sn sc, .slice ca cn cc] 63 (fun _ => rfl) ?_; intro b_6 w2 hm2; replace hv := hv.madeAt hm2; clear hm2)
   | ((with_reducible refine at_alloc (T := 26) (dst := some 8) ?_); refine wl_newb rfl #[.slice none 0 0] 26 (fun _ => rfl) ?_; intro b_8 w2 hm2; replace hv := hv.madeAt hm2; clear hm2)
   | ((with_reducible refine at_alloc (T := 38) (dst := some 9) ?_); refine wl_newb rfl #[.int .i64 0, .int .i64 0, .int .u16 0, .int .u16 0] 38 (fun _ => rfl) ?_; intro b_9 w2 hm2; replace hv := hv.madeAt hm2; clear hm2)
   | ((with_reducible refine at_alloc (T := 63) (dst := some 10) ?_); refine wl_newb rfl #[.slice none 0 0, .slice none 0 0] 63 (fun _ => rfl) ?_; intro b_10 w2 hm2; replace hv := hv.madeAt hm2; clear hm2)
   | ((with_reducible refine at_load (T := 26) ?_); refine wl_ldv rfl b_4 rfl _ hv.vars.ro 1 _ Tryz.underlying26 rfl infoM (by decide) rfl ?_)
   | ((with_reducible refine at_load (T := 38) ?_); refine wl_ldv rfl b_5 rfl _ hv.vars.ro 4 _ Tryz.underlying38 rfl infoS4 (by decide) rfl ?_)
   | (go_at_call 29; (with_reducible refine (Next_B hv [(p, 16, false), (pd, 256, false), (ps, 1, true)] HM.out HSN.out HSN1.out G1.out GNE.out G2.out GC.out HLM.out HM16.out HM0.out).mono ?_); rintro e w1 ⟨gb, go, gc, R1, rfl, hv1, hl1, hs1⟩; replace hv := hv1; have HL := Lib.hid hl1; have HS1 := Lib.hid hs1; have HM1 := Lib.hid (HM.out.mono hs1); have HD1 := Lib.hid (HD.out.mono hs1); clear hv1 hl1 hs1)
   | ((with_reducible refine at_store (T := 38) ?_); refine wl_stv rfl b_5 rfl _ rfl _ hv.vars.ro hv.vars.so 4 infoS4 rfl rfl (by simp [Value.oneCell']) ?_; intro w2 hw2; replace hv := hv.sets (by repeat first | exact .z | apply SetM.s) hw2; clear hw2)
   | ((with_reducible refine at_load (T := 91) ?_); refine wl_rdv rfl (c := cellsPt [(p, 16, false), (pd, 256, false), (ps, 1, true)]) (hv.rd HL.out) 6 rfl 3 _ Tryz.underlying91 rfl infoB3 (by decide) #[.int .i64 ps, .int .i64 1, .bool true] rfl rfl ?_)
   | ((with_reducible refine at_alloc (T := 91) (dst := some 15) ?_); refine wl_newb rfl #[.int .i64 0, .int .i64 0, .bool false] 91 (fun _ => rfl) ?_; intro b_15 w2 hm2; replace hv := hv.madeAt hm2; clear hm2)
   | ((with_reducible refine at_store (T := 91) ?_); refine wl_stv rfl b_15 rfl _ rfl _ hv.vars.ro hv.vars.so 3 infoB3 rfl rfl (by simp [Value.oneCell']) ?_; intro w2 hw2; replace hv := hv.sets (by repeat first | exact .z | apply SetM.s) hw2; clear hw2)
   | ((with_reducible refine at_load (T := 3) ?_); refine wl_rd rfl (c := cellsPt [(p, 16, false), (pd, 256, false), (ps, 1, true)]) (hv.rd HL.out) 1 rfl _ Tryz.underlying3 rfl (.int .i64 16) rfl ?_)
   | ((with_reducible refine at_load (T := 3) ?_); refine wl_ldc rfl b_15 1 rfl _ hv.vars.ro _ Tryz.underlying3 rfl (.int .i64 1) rfl ?_)
   | ((with_reducible refine at_load (T := 4) ?_); refine wl_ldc rfl b_15 2 rfl _ hv.vars.ro _ Tryz.underlying4 rfl (.bool true) rfl ?_)
   | ((with_reducible refine at_load (T := 26) ?_); refine wl_ldv rfl b_4 rfl _ hv.vars.ro 1 _ Tryz.underlying26 rfl infoM (by decide) rfl ?_)
   | ((with_reducible refine at_load (T := 3) ?_); refine wl_ldc rfl b_15 0 rfl _ hv.vars.ro _ Tryz.underlying3 rfl (.int .i64 ps) rfl ?_)
   | (go_at_call 30; have hv1 := hv.bsl' (k := 1) (n := 1) (c := cellsB [an]) ⟨rfl, made_alloc _ #[.int .u8 an] 5⟩ rfl rfl (by unfold maxLen; omega); replace hv := hv1; clear hv1; (refine (Put_ok hv (HM1.out.mono fun x hx => Mem.s hx) ps Mem.z HG5.out HN1.out HPS.out).mono ?_); rintro e w1 ⟨vb3, vc3, R3, rfl, hv1, hm1, hs1⟩; replace hv := hv1; have HM3 := Lib.hid hm1; have HS3 : Hid (∀ x ∈ R1, x ∈ R3) := Lib.hid (fun x hx => hs1 x (Mem.s hx)); clear hv1 hm1 hs1)
   | ((with_reducible refine at_store (T := 26) ?_); refine wl_stv rfl b_4 rfl _ rfl _ hv.vars.ro hv.vars.so 1 infoM rfl rfl (by simp [Value.oneCell']) ?_; intro w2 hw2; replace hv := hv.sets (by repeat first | exact .z | apply SetM.s) hw2; clear hw2)
   | ((with_reducible refine at_load (T := 38) ?_); refine wl_ldv rfl b_5 rfl _ hv.vars.ro 4 _ Tryz.underlying38 rfl infoS4 (by decide) rfl ?_)
   | (go_at_call 31; (with_reducible refine (Give_B hv HM3.out HUS.out HUS1.out HHD.out).mono ?_); rintro e w1 ⟨vb4, vc4, R4, rfl, hv1, hm1, hs1⟩; replace hv := hv1; have HM4 := Lib.hid hm1; have HS4 := Lib.hid hs1; clear hv1 hm1 hs1)
   | ((with_reducible refine at_store (T := 38) ?_); refine wl_stv rfl b_5 rfl _ rfl _ hv.vars.ro hv.vars.so 4 infoS4 rfl rfl (by simp [Value.oneCell']) ?_; intro w2 hw2; replace hv := hv.sets (by repeat first | exact .z | apply SetM.s) hw2; clear hw2))
 replace hv : Mem w0 _ ([(b_15, _), (b_10, _), (b_9, _), (b_8, _), (b_6, _), (b_5, _), (b_4, _)] ++ L) R4 := hv
 try simp only [Act.put]
 refine Bny.wp_region_walk _ _ [⟨[1006], none⟩, ⟨[1005], none⟩, ⟨[1004], none⟩, ⟨[1003], some 1003⟩, ⟨[1002], some 1002⟩, ⟨[1001], some 1001⟩, ⟨[], none⟩] [.val, .val, .val, .put, .put, .put, .val] (by kernel_rfl) (by kernel_rfl) hv ?_
 simp only [List.length_cons, List.length_nil, Nat.zero_add, Any.someVals]
 iterate 7 apply Exists.intro
 repeat (first
   | (refine Bny.E_off rfl ?_; simp only [Act.put, sia, scs, scz])
   | ((with_reducible refine Bny.at_estore (T := 26) ?_); refine Bny.E_putv (T := 26) rfl rfl rfl rfl rfl rfl 1 infoM rfl rfl (by simp [Value.oneCell']) ?_; simp only [Act.put, sia, scs, scz])
   | ((with_reducible refine Bny.at_estore (T := 38) ?_); refine Bny.E_putv (T := 38) rfl rfl rfl rfl rfl rfl 4 infoS4 rfl rfl (by simp [Value.oneCell']) ?_; simp only [Act.put, sia, scs, scz])
   | ((with_reducible refine Bny.at_estore (T := 63) ?_); refine Bny.E_putv (T := 63) rfl rfl rfl rfl rfl rfl 2 infoD2 rfl rfl (by simp [Value.oneCell']) ?_; simp only [Act.put, sia, scs, scz])
   | (apply Bny.E_pureq rfl rfl rfl
      case h => intro K hK; go_big_quiet_op; (refine hK _ ?_; rfl)
      case hr => exact fun _ => rfl
      simp only [Act.put, sia, scs, scz])
   | (apply Bny.E_val rfl rfl rfl rfl
      case h =>
        intro E' hA K hK
        first
          | ((with_reducible refine Bny.at_qload (T := 26) ?_); refine Bny.q_ldv 1006 hA (by decide) rfl rfl 1 _ Tryz.underlying26 rfl infoM (by decide) rfl ?_; refine hK _ ?_; rfl)
          | ((with_reducible refine Bny.at_qload (T := 38) ?_); refine Bny.q_ldv 1005 hA (by decide) rfl rfl 4 _ Tryz.underlying38 rfl infoS4 (by decide) rfl ?_; refine hK _ ?_; rfl)
          | ((with_reducible refine Bny.at_qload (T := 63) ?_); refine Bny.q_ldv 1004 hA (by decide) rfl rfl 2 _ Tryz.underlying63 rfl infoD2 (by decide) rfl ?_; refine hK _ ?_; rfl)
          | (go_big_quiet_op; first
            | (refine hK _ ?_; rfl)
            | (refine ⟨_, fun _ _ => rfl, ?_⟩; refine hK _ ?_; rfl)
            | (apply Exists.intro; refine ⟨fun w1 hw1 => ?_, ?_⟩; · (first
                | fail)
               refine hK _ ?_; rfl))
      case hD => rfl
      simp only [Act.put, sia, scs, scz]))
 try any_goals exact undef
 refine Bny.E_nil ?_
 intro w9 hE9
 replace hv : Mem w0 w9 ([(b_15, #[.int .i64 ps, .int .i64 1, .bool true]), (b_10, #[.slice sa sn sc, .slice ca cn cc]), (b_9, #[.int .i64 0, .int .i64 16, .int .u16 sn1, .int .u16 us1]), (b_8, #[.slice (some ⟨vb4, 0, none⟩) 1700 vc4]), (b_6, #[.slice sa sn sc, .slice ca cn cc]), (b_5, #[.int .i64 0, .int .i64 16, .int .u16 sn1, .int .u16 us1]), (b_4, #[.slice (some ⟨vb4, 0, none⟩) 1700 vc4])] ++ L) R4 := hE9.mem0 [1000, 1001, 1002, 1003, 1004, 1005, 1006] (by decide)
 clear hE9
 simp only [List.cons_append, List.nil_append] at hv
 go_wp2
 try simp only [Exit.inBlock, Exit.then]
 refine ret_ccct (v := .agg #[.slice (some ⟨vb4, 0, none⟩) 1700 vc4]) (v' := .agg #[.int .i64 0, .int .i64 16, .int .u16 sn1, .int .u16 us1]) (v2 := .agg #[.slice sa sn sc, .slice ca cn cc]) (v1 := .int .i64 0) rfl rfl rfl rfl (read_row _ b_8 26 _ (hv.vars.ro (b := b_8)) 1 _ Tryz.underlying26 rfl infoM (by decide) rfl) (read_row _ b_9 38 _ (hv.vars.ro (b := b_9)) 4 _ Tryz.underlying38 rfl infoS4 (by decide) rfl) (read_row _ b_10 63 _ (hv.vars.ro (b := b_10)) 2 _ Tryz.underlying63 rfl infoD2 (by decide) rfl) rfl rfl ?_
 exact ⟨vb4, vc4, R4, rfl, hv.keep (by exact List.sublist_append_right [_, _, _, _, _, _, _] L), HM4.out, HD1.out.mono fun x hx => HS4.out x (HS3.out x hx), fun x hx => HS4.out x (HS3.out x (HS1.out x hx))⟩
theorem Serve_d {w0 w : World} {L : List (Nat × Array Value)} {R : List (Nat × Value × List Value)} (hv : Mem w0 w L R) {sa ca : Option Addr} {sn sc cn cc vb vc sn_ sn1 us us1 av hd p ps an : Nat} {st : Int} {ss : List (Value × List Nat)} {cs : List Wr} {M : List Nat} (hd_ : DiskQ R (.slice sa sn sc) (.slice ca cn cc) ss cs) (hm : InM R vb 0 1700 vc M) (hsn : sn_ < 65535) (hsn1 : sn_ + 1 = sn1) (g1 : getN M 258 2 = av) (gne : av ≠ sn_) (g2 : getN M (0 + (16 * 16 + (4 + 2 * (sn_ % 16)))) 2 = hd) (gc : ChainAt 1700 M 0 16 hd [(p, 16, false), (ps, 1, true)]) (hus : us < 65535) (hus1 : us + 1 = us1) (hhd : hd < 16) (hps : p + 272 = ps ∧ p + 288 ≤ 1700) (hst : IntKind.u8.wrap st = (an : Nat)) (han : ¬ an = 0) (han2 : an < 256) :
   Calls Tryz.prog 22 #[.agg #[.slice (some ⟨vb, 0, none⟩) 1700 vc], .agg #[.int .i64 0, .int .i64 16, .int .u16 sn_, .int .u16 us], .agg #[.slice sa sn sc, .slice ca cn cc], .int .i64 st] w fun e w' => ∃ vb4 vc4 R', e = .returned (.tuple #[.agg #[.slice (some ⟨vb4, 0, none⟩) 1700 vc4], .agg #[.int .i64 0, .int .i64 16, .int .u16 sn1, .int .u16 us1], .agg #[.slice sa sn sc, .slice ca cn cc], .int .i64 0]) ∧ Mem w0 w' L R' ∧ InM R' vb4 0 1700 vc4 (returnM (putB M ps [an]) 0 16 us hd 1) ∧ DiskQ R' (.slice sa sn sc) (.slice ca cn cc) ss cs ∧ ∀ x ∈ R, x ∈ R' := by
 have HD := Lib.hid hd_
 have HM := Lib.hid hm
 have HSN := Lib.hid hsn
 have HSN1 := Lib.hid hsn1
 have G1 := Lib.hid g1
 have GNE := Lib.hid gne
 have G2 := Lib.hid g2
 have GC := Lib.hid gc
 have HUS := Lib.hid hus
 have HUS1 := Lib.hid hus1
 have HHD := Lib.hid hhd
 have HLM : Hid (([(p, 16, false), (ps, 1, true)] : List Pt).length = 2) := Lib.hid rfl
 have HM16 : Hid (2 ≤ 16) := Lib.hid (by decide)
 have HM0 : Hid (0 < 2) := Lib.hid (by decide)
 have HG5 : Hid (goodB [an]) := Lib.hid (by intro x hx; rw [List.mem_singleton.1 hx]; omega)
 have HN1 : Hid (0 < [an].length) := Lib.hid (by show 0 < 1; decide)
 have HPS : Hid (ps + [an].length ≤ 1700) := Lib.hid (by show ps + 1 ≤ 1700; omega)
 have y1 : ((an : Int) == 0) = false := by rw [beq_eq_false_iff_ne]; omega
 have y2 : ¬ ((an : Int) = 0) := by omega
 clear hd_ hm hsn hsn1 g1 gne g2 gc hus hus1 hhd hps han han2
 go_enter Tryz.func22, Tryz.ntmps22
 go_wp2_with (first
   | ((with_reducible refine at_box (T := 26) (dst := some 4) ?_); refine wl_newb rfl #[.slice (some ⟨vb, 0, none⟩) 1700 vc] 26 (fun _ => rfl) ?_; intro b_4 w2 hm2; replace hv := hv.madeAt hm2; clear hm2)
   | ((with_reducible refine at_box (T := 38) (dst := some 5) ?_); refine wl_newb rfl #[.int .i64 0, .int .i64 16, .int .u16 sn_, .int .u16 us] 38 (fun _ => rfl) ?_; intro b_5 w2 hm2; replace hv := hv.madeAt hm2; clear hm2)
   | ((with_reducible refine at_box (T := 63) (dst := some 6) ?_); refine wl_newb rfl #[.slice sa sn sc, .slice ca cn cc] 63 (fun _ => rfl) ?_; intro b_6 w2 hm2; replace hv := hv.madeAt hm2; clear hm2)
   | ((with_reducible refine at_alloc (T := 26) (dst := some 8) ?_); refine wl_newb rfl #[.slice none 0 0] 26 (fun _ => rfl) ?_; intro b_8 w2 hm2; replace hv := hv.madeAt hm2; clear hm2)
   | ((with_reducible refine at_alloc (T := 38) (dst := some 9) ?_); refine wl_newb rfl #[.int .i64 0, .int .i64 0, .int .u16 0, .int .u16 0] 38 (fun _ => rfl) ?_; intro b_9 w2 hm2; replace hv := hv.madeAt hm2; clear hm2)
   | ((with_reducible refine at_alloc (T := 63) (dst := some 10) ?_); refine wl_newb rfl #[.slice none 0 0, .slice none 0 0] 63 (fun _ => rfl) ?_; intro b_10 w2 hm2; replace hv := hv.madeAt hm2; clear hm2)
   | ((with_reducible refine at_load (T := 26) ?_); refine wl_ldv rfl b_4 rfl _ hv.vars.ro 1 _ Tryz.underlying26 rfl infoM (by decide) rfl ?_)
   | ((with_reducible refine at_load (T := 38) ?_); refine wl_ldv rfl b_5 rfl _ hv.vars.ro 4 _ Tryz.underlying38 rfl infoS4 (by decide) rfl ?_)
   | (go_at_call 29; (with_reducible refine (Next_B hv [(p, 16, false), (ps, 1, true)] HM.out HSN.out HSN1.out G1.out GNE.out G2.out GC.out HLM.out HM16.out HM0.out).mono ?_); rintro e w1 ⟨gb, go, gc, R1, rfl, hv1, hl1, hs1⟩; replace hv := hv1; have HL := Lib.hid hl1; have HS1 := Lib.hid hs1; have HM1 := Lib.hid (HM.out.mono hs1); have HD1 := Lib.hid (HD.out.mono hs1); clear hv1 hl1 hs1)
   | ((with_reducible refine at_store (T := 38) ?_); refine wl_stv rfl b_5 rfl _ rfl _ hv.vars.ro hv.vars.so 4 infoS4 rfl rfl (by simp [Value.oneCell']) ?_; intro w2 hw2; replace hv := hv.sets (by repeat first | exact .z | apply SetM.s) hw2; clear hw2)
   | ((with_reducible refine at_load (T := 91) ?_); refine wl_rdv rfl (c := cellsPt [(p, 16, false), (ps, 1, true)]) (hv.rd HL.out) 3 rfl 3 _ Tryz.underlying91 rfl infoB3 (by decide) #[.int .i64 ps, .int .i64 1, .bool true] rfl rfl ?_)
   | ((with_reducible refine at_alloc (T := 91) (dst := some 15) ?_); refine wl_newb rfl #[.int .i64 0, .int .i64 0, .bool false] 91 (fun _ => rfl) ?_; intro b_15 w2 hm2; replace hv := hv.madeAt hm2; clear hm2)
   | ((with_reducible refine at_store (T := 91) ?_); refine wl_stv rfl b_15 rfl _ rfl _ hv.vars.ro hv.vars.so 3 infoB3 rfl rfl (by simp [Value.oneCell']) ?_; intro w2 hw2; replace hv := hv.sets (by repeat first | exact .z | apply SetM.s) hw2; clear hw2)
   | ((with_reducible refine at_load (T := 3) ?_); refine wl_rd rfl (c := cellsPt [(p, 16, false), (ps, 1, true)]) (hv.rd HL.out) 1 rfl _ Tryz.underlying3 rfl (.int .i64 16) rfl ?_)
   | ((with_reducible refine at_load (T := 3) ?_); refine wl_ldc rfl b_15 1 rfl _ hv.vars.ro _ Tryz.underlying3 rfl (.int .i64 1) rfl ?_)
   | ((with_reducible refine at_load (T := 4) ?_); refine wl_ldc rfl b_15 2 rfl _ hv.vars.ro _ Tryz.underlying4 rfl (.bool true) rfl ?_)
   | ((with_reducible refine at_load (T := 26) ?_); refine wl_ldv rfl b_4 rfl _ hv.vars.ro 1 _ Tryz.underlying26 rfl infoM (by decide) rfl ?_)
   | ((with_reducible refine at_load (T := 3) ?_); refine wl_ldc rfl b_15 0 rfl _ hv.vars.ro _ Tryz.underlying3 rfl (.int .i64 ps) rfl ?_)
   | (go_at_call 30; have hv1 := hv.bsl' (k := 1) (n := 1) (c := cellsB [an]) ⟨rfl, made_alloc _ #[.int .u8 an] 5⟩ rfl rfl (by unfold maxLen; omega); replace hv := hv1; clear hv1; (refine (Put_ok hv (HM1.out.mono fun x hx => Mem.s hx) ps Mem.z HG5.out HN1.out HPS.out).mono ?_); rintro e w1 ⟨vb3, vc3, R3, rfl, hv1, hm1, hs1⟩; replace hv := hv1; have HM3 := Lib.hid hm1; have HS3 : Hid (∀ x ∈ R1, x ∈ R3) := Lib.hid (fun x hx => hs1 x (Mem.s hx)); clear hv1 hm1 hs1)
   | ((with_reducible refine at_store (T := 26) ?_); refine wl_stv rfl b_4 rfl _ rfl _ hv.vars.ro hv.vars.so 1 infoM rfl rfl (by simp [Value.oneCell']) ?_; intro w2 hw2; replace hv := hv.sets (by repeat first | exact .z | apply SetM.s) hw2; clear hw2)
   | ((with_reducible refine at_load (T := 38) ?_); refine wl_ldv rfl b_5 rfl _ hv.vars.ro 4 _ Tryz.underlying38 rfl infoS4 (by decide) rfl ?_)
   | (go_at_call 31; (with_reducible refine (Give_B hv HM3.out HUS.out HUS1.out HHD.out).mono ?_); rintro e w1 ⟨vb4, vc4, R4, rfl, hv1, hm1, hs1⟩; replace hv := hv1; have HM4 := Lib.hid hm1; have HS4 := Lib.hid hs1; clear hv1 hm1 hs1)
   | ((with_reducible refine at_store (T := 38) ?_); refine wl_stv rfl b_5 rfl _ rfl _ hv.vars.ro hv.vars.so 4 infoS4 rfl rfl (by simp [Value.oneCell']) ?_; intro w2 hw2; replace hv := hv.sets (by repeat first | exact .z | apply SetM.s) hw2; clear hw2))
 replace hv : Mem w0 _ ([(b_15, _), (b_10, _), (b_9, _), (b_8, _), (b_6, _), (b_5, _), (b_4, _)] ++ L) R4 := hv
 try simp only [Act.put]
 refine Bny.wp_region_walk _ _ [⟨[1006], none⟩, ⟨[1005], none⟩, ⟨[1004], none⟩, ⟨[1003], some 1003⟩, ⟨[1002], some 1002⟩, ⟨[1001], some 1001⟩, ⟨[], none⟩] [.val, .val, .val, .put, .put, .put, .val] (by kernel_rfl) (by kernel_rfl) hv ?_
 simp only [List.length_cons, List.length_nil, Nat.zero_add, Any.someVals]
 iterate 7 apply Exists.intro
 repeat (first
   | (refine Bny.E_off rfl ?_; simp only [Act.put, sia, scs, scz])
   | ((with_reducible refine Bny.at_estore (T := 26) ?_); refine Bny.E_putv (T := 26) rfl rfl rfl rfl rfl rfl 1 infoM rfl rfl (by simp [Value.oneCell']) ?_; simp only [Act.put, sia, scs, scz])
   | ((with_reducible refine Bny.at_estore (T := 38) ?_); refine Bny.E_putv (T := 38) rfl rfl rfl rfl rfl rfl 4 infoS4 rfl rfl (by simp [Value.oneCell']) ?_; simp only [Act.put, sia, scs, scz])
   | ((with_reducible refine Bny.at_estore (T := 63) ?_); refine Bny.E_putv (T := 63) rfl rfl rfl rfl rfl rfl 2 infoD2 rfl rfl (by simp [Value.oneCell']) ?_; simp only [Act.put, sia, scs, scz])
   | (apply Bny.E_pureq rfl rfl rfl
      case h => intro K hK; go_big_quiet_op; (refine hK _ ?_; rfl)
      case hr => exact fun _ => rfl
      simp only [Act.put, sia, scs, scz])
   | (apply Bny.E_val rfl rfl rfl rfl
      case h =>
        intro E' hA K hK
        first
          | ((with_reducible refine Bny.at_qload (T := 26) ?_); refine Bny.q_ldv 1006 hA (by decide) rfl rfl 1 _ Tryz.underlying26 rfl infoM (by decide) rfl ?_; refine hK _ ?_; rfl)
          | ((with_reducible refine Bny.at_qload (T := 38) ?_); refine Bny.q_ldv 1005 hA (by decide) rfl rfl 4 _ Tryz.underlying38 rfl infoS4 (by decide) rfl ?_; refine hK _ ?_; rfl)
          | ((with_reducible refine Bny.at_qload (T := 63) ?_); refine Bny.q_ldv 1004 hA (by decide) rfl rfl 2 _ Tryz.underlying63 rfl infoD2 (by decide) rfl ?_; refine hK _ ?_; rfl)
          | (go_big_quiet_op; first
            | (refine hK _ ?_; rfl)
            | (refine ⟨_, fun _ _ => rfl, ?_⟩; refine hK _ ?_; rfl)
            | (apply Exists.intro; refine ⟨fun w1 hw1 => ?_, ?_⟩; · (first
                | fail)
               refine hK _ ?_; rfl))
      case hD => rfl
      simp only [Act.put, sia, scs, scz]))
 try any_goals exact undef
 refine Bny.E_nil ?_
 intro w9 hE9
 replace hv : Mem w0 w9 ([(b_15, #[.int .i64 ps, .int .i64 1, .bool true]), (b_10, #[.slice sa sn sc, .slice ca cn cc]), (b_9, #[.int .i64 0, .int .i64 16, .int .u16 sn1, .int .u16 us1]), (b_8, #[.slice (some ⟨vb4, 0, none⟩) 1700 vc4]), (b_6, #[.slice sa sn sc, .slice ca cn cc]), (b_5, #[.int .i64 0, .int .i64 16, .int .u16 sn1, .int .u16 us1]), (b_4, #[.slice (some ⟨vb4, 0, none⟩) 1700 vc4])] ++ L) R4 := hE9.mem0 [1000, 1001, 1002, 1003, 1004, 1005, 1006] (by decide)
 clear hE9
 simp only [List.cons_append, List.nil_append] at hv
 go_wp2
 try simp only [Exit.inBlock, Exit.then]
 refine ret_ccct (v := .agg #[.slice (some ⟨vb4, 0, none⟩) 1700 vc4]) (v' := .agg #[.int .i64 0, .int .i64 16, .int .u16 sn1, .int .u16 us1]) (v2 := .agg #[.slice sa sn sc, .slice ca cn cc]) (v1 := .int .i64 0) rfl rfl rfl rfl (read_row _ b_8 26 _ (hv.vars.ro (b := b_8)) 1 _ Tryz.underlying26 rfl infoM (by decide) rfl) (read_row _ b_9 38 _ (hv.vars.ro (b := b_9)) 4 _ Tryz.underlying38 rfl infoS4 (by decide) rfl) (read_row _ b_10 63 _ (hv.vars.ro (b := b_10)) 2 _ Tryz.underlying63 rfl infoD2 (by decide) rfl) rfl rfl ?_
 exact ⟨vb4, vc4, R4, rfl, hv.keep (by exact List.sublist_append_right [_, _, _, _, _, _, _] L), HM4.out, HD1.out.mono fun x hx => HS4.out x (HS3.out x hx), fun x hx => HS4.out x (HS3.out x (HS1.out x hx))⟩
end Go.Proofs.YtjmibgomkgkhnaaGreat
