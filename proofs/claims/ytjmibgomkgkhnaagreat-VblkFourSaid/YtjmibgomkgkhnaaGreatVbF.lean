/-
 A disk's device (layer 9): nothing to be done; what the statements' regions want of the calls.
-/
import Derived.Test.YtjmibgomkgkhnaaGreatVbE
import Derived.Test.YtjmibgomkgkhnaaGreatVbD
import Derived.Test.YtjmibgomkgkhnaaGreatVbX
import Derived.Test.YtjmibgomkgkhnaaGreatVbY
import Derived.Test.YtjmibgomkgkhnaaGreatBytes
set_option maxRecDepth 100000
set_option maxHeartbeats 16000000
set_option linter.unusedVariables false
set_option linter.unusedSimpArgs false
namespace Go.Proofs.Qu
open Go Go.RowKit Go.Proofs.Nm
def SecW (c : Nat) (v : Value) (R' : List (Nat × Value × List Value)) : Prop := ∃ b, v = .slice (some ⟨b, 0, none⟩) 256 256 ∧ (1, .slice (some ⟨b, 0, none⟩) 256 256, cellsB (List.replicate 256 c)) ∈ R'
def WrW (R0 : List (Nat × Value × List Value)) (row : Option Addr → Nat → Option Addr → Nat → Array Value) (j : Int) (M' : List Nat) (nf1 nc1 k : Nat) (free : List Nat) (chs : List Chn) (hd : Nat) (v : Value) (R' : List (Nat × Value × List Value)) : Prop :=
 ∃ vb5 vc5 fa5 fc5 ca5 cc5 c5, v = .tuple #[.agg #[.slice (some ⟨vb5, 0, none⟩) 1700 vc5], .agg (row fa5 fc5 ca5 cc5), .int .i64 j, .int .i64 0] ∧ InM R' vb5 0 1700 vc5 M' ∧ InQ R' (.slice fa5 nf1 fc5) (.slice ca5 nc1 cc5) (free.drop k) (chs ++ [c5]) ∧ OkQ 16 (free.drop k) (chs ++ [c5]) ∧ c5.h = hd ∧ c5.ds = free.take k ∧ c5.rm = 1 ∧ ∀ x ∈ R0, x ∈ R'
def Went (an at_ sn cn : Nat) (cs : List Wr) (D : List Nat) (ans cn2 : Nat) (cs2 : List Wr) : Prop :=
 (ans = 0 ∧ an = 0 ∧ at_ < sn ∧ cn2 = cn + 1 ∧ ∃ dv, cs2 = cs ++ [(at_, dv, D)]) ∨ (ans ≠ 0 ∧ ¬ (an = 0 ∧ at_ < sn) ∧ cn2 = cn ∧ cs2 = cs)
def SrvW (R0 : List (Nat × Value × List Value)) (M : List Nat) (ps us hd sn1 us1 an at_ : Nat) (sa : Option Addr) (sn sc cn : Nat) (ss : List (Value × List Nat)) (cs : List Wr) (D : List Nat) (v : Value) (R' : List (Nat × Value × List Value)) : Prop :=
 ∃ vb4 vc4 a2 cn2 c2 ans cs2, v = .tuple #[.agg #[.slice (some ⟨vb4, 0, none⟩) 1700 vc4], .agg #[.int .i64 0, .int .i64 16, .int .u16 sn1, .int .u16 us1], .agg #[.slice sa sn sc, .slice a2 cn2 c2], .int .i64 0] ∧ InM R' vb4 0 1700 vc4 (returnM (putB M ps [ans]) 0 16 us hd 1) ∧ DiskQ R' (.slice sa sn sc) (.slice a2 cn2 c2) ss cs2 ∧ ans < 256 ∧ Went an at_ sn cn cs D ans cn2 cs2 ∧ ∀ x ∈ R0, x ∈ R'
end Go.Proofs.Qu
namespace Go.Proofs.YtjmibgomkgkhnaaGreat
open Go.Proofs.Qu Go.Proofs.Nm Go.RowKit Go.Proofs
theorem Next_no {w0 w : World} {L : List (Nat × Array Value)} {R : List (Nat × Value × List Value)} {mb mo mn mc : Nat} {M : List Nat} (hv : Mem w0 w L R) (hm : InM R mb mo mn mc M) (base n sn us : Nat) (hn : okN n) (hb : base + sizeN n ≤ mn) (hsn : sn < 65536) (hav : getN M (base + (16 * n + 2)) 2 = sn) :
   Calls Tryz.prog 29 #[(.agg #[(.slice (some ⟨mb, mo, none⟩) mn mc)]), .agg #[.int .i64 base, .int .i64 n, .int .u16 sn, .int .u16 us]] w fun e w' => e = .returned (.tuple #[.agg #[.int .i64 base, .int .i64 n, .int .u16 sn, .int .u16 us], .int .i64 0, .slice none 0 0, .int .i64 7]) ∧ New w w' := by
 have hv0 := hv
 clear hv
 have hv : Mem w w [] R := ⟨Vars.nil w, fun x hx => ⟨(hv0.rds x hx).1, fun _ _ _ _ _ _ p hp => (List.not_mem_nil hp).elim⟩⟩
 clear hv0
 have HM := Lib.hid hm
 have HN := Lib.hid hn
 have HB := Lib.hid hb
 have HAV := Lib.hid hav
 have y1 : ((sn : Int) == (sn : Int)) = true := beq_self_eq_true _
 clear hn hb hsn hav hm
 go_enter Tryz.func29, Tryz.ntmps29
 go_wp2_with (first
   | ((with_reducible refine at_box (T := 26) (dst := some 2) ?_); refine wl_newb rfl #[(.slice (some ⟨mb, mo, none⟩) mn mc)] 26 (fun _ => rfl) ?_; intro b2 w2 hm2; replace hv := hv.madeAt hm2; clear hm2)
   | ((with_reducible refine at_box (T := 38) (dst := some 3) ?_); refine wl_newb rfl #[.int .i64 base, .int .i64 n, .int .u16 sn, .int .u16 us] 38 (fun _ => rfl) ?_; intro b3 w2 hm2; replace hv := hv.madeAt hm2; clear hm2)
   | ((with_reducible refine at_alloc (T := 38) (dst := some 4) ?_); refine wl_newb rfl #[.int .i64 0, .int .i64 0, .int .u16 0, .int .u16 0] 38 (fun _ => rfl) ?_; intro b4 w2 hm2; replace hv := hv.madeAt hm2; clear hm2)
   | ((with_reducible refine at_load (T := 26) ?_); refine wl_ldv rfl b2 rfl _ hv.vars.ro 1 _ Tryz.underlying26 rfl infoM (by decide) rfl ?_)
   | ((with_reducible refine at_load (T := 3) ?_); refine wl_ldc rfl b3 0 rfl _ hv.vars.ro _ Tryz.underlying3 rfl (.int .i64 base) rfl ?_)
   | ((with_reducible refine at_load (T := 3) ?_); refine wl_ldc rfl b3 1 rfl _ hv.vars.ro _ Tryz.underlying3 rfl (.int .i64 n) rfl ?_)
   | ((with_reducible refine at_load (T := 27) ?_); refine wl_ldc rfl b3 2 rfl _ hv.vars.ro _ Tryz.underlying27 rfl (.int .u16 sn) rfl ?_)
   | (go_at_call 57; (with_reducible refine (Avail_w HM.out.ok base n HN.out HB.out HAV.out _ (hv.rd HM.out.rd)).mono ?_); rintro e w1 ⟨rfl, hn1⟩; replace hv := hv.new hn1; clear hn1)
   | ((with_reducible refine at_load (T := 38) ?_); refine wl_ldv rfl b3 rfl _ hv.vars.ro 4 _ Tryz.underlying38 rfl infoS4 (by decide) rfl ?_)
   | ((with_reducible refine at_store (T := 38) ?_); refine wl_stv rfl b4 rfl _ rfl _ hv.vars.ro hv.vars.so 4 infoS4 rfl rfl (by simp [Value.oneCell']) ?_; intro w2 hw2; replace hv := hv.sets (by repeat first | exact .z | apply SetM.s) hw2; clear hw2))
 try go_step3
 go_wp2_with (first
   | ((with_reducible refine at_box (T := 26) (dst := some 2) ?_); refine wl_newb rfl #[(.slice (some ⟨mb, mo, none⟩) mn mc)] 26 (fun _ => rfl) ?_; intro b2 w2 hm2; replace hv := hv.madeAt hm2; clear hm2)
   | ((with_reducible refine at_box (T := 38) (dst := some 3) ?_); refine wl_newb rfl #[.int .i64 base, .int .i64 n, .int .u16 sn, .int .u16 us] 38 (fun _ => rfl) ?_; intro b3 w2 hm2; replace hv := hv.madeAt hm2; clear hm2)
   | ((with_reducible refine at_alloc (T := 38) (dst := some 4) ?_); refine wl_newb rfl #[.int .i64 0, .int .i64 0, .int .u16 0, .int .u16 0] 38 (fun _ => rfl) ?_; intro b4 w2 hm2; replace hv := hv.madeAt hm2; clear hm2)
   | ((with_reducible refine at_load (T := 26) ?_); refine wl_ldv rfl b2 rfl _ hv.vars.ro 1 _ Tryz.underlying26 rfl infoM (by decide) rfl ?_)
   | ((with_reducible refine at_load (T := 3) ?_); refine wl_ldc rfl b3 0 rfl _ hv.vars.ro _ Tryz.underlying3 rfl (.int .i64 base) rfl ?_)
   | ((with_reducible refine at_load (T := 3) ?_); refine wl_ldc rfl b3 1 rfl _ hv.vars.ro _ Tryz.underlying3 rfl (.int .i64 n) rfl ?_)
   | ((with_reducible refine at_load (T := 27) ?_); refine wl_ldc rfl b3 2 rfl _ hv.vars.ro _ Tryz.underlying27 rfl (.int .u16 sn) rfl ?_)
   | (go_at_call 57; (with_reducible refine (Avail_w HM.out.ok base n HN.out HB.out HAV.out _ (hv.rd HM.out.rd)).mono ?_); rintro e w1 ⟨rfl, hn1⟩; replace hv := hv.new hn1; clear hn1)
   | ((with_reducible refine at_load (T := 38) ?_); refine wl_ldv rfl b3 rfl _ hv.vars.ro 4 _ Tryz.underlying38 rfl infoS4 (by decide) rfl ?_)
   | ((with_reducible refine at_store (T := 38) ?_); refine wl_stv rfl b4 rfl _ rfl _ hv.vars.ro hv.vars.so 4 infoS4 rfl rfl (by simp [Value.oneCell']) ?_; intro w2 hw2; replace hv := hv.sets (by repeat first | exact .z | apply SetM.s) hw2; clear hw2))
 try rw [Exit.noGoto_ret]
 try simp only [Exit.inBlock, Exit.then]
 refine ret_cttt (v := .agg #[.int .i64 base, .int .i64 n, .int .u16 sn, .int .u16 us]) (v1 := .int .i64 0) (v2 := .slice none 0 0) (v3 := .int .i64 7) rfl rfl (read_row _ b4 38 _ (hv.vars.ro (b := b4)) 4 _ Tryz.underlying38 rfl infoS4 (by decide) rfl) rfl rfl rfl rfl ?_
 exact ⟨rfl, hv.below⟩
theorem Nextno_B {w0 w : World} {L : List (Nat × Array Value)} {R : List (Nat × Value × List Value)} (hv : Mem w0 w L R) {vb vc sn us : Nat} {M : List Nat} (hm : InM R vb 0 1700 vc M) (hsn : sn < 65536) (g1 : getN M 258 2 = sn) : Calls Tryz.prog 29 #[.agg #[.slice (some ⟨vb, 0, none⟩) 1700 vc], .agg #[.int .i64 0, .int .i64 16, .int .u16 sn, .int .u16 us]] w fun e w' => e = .returned (.tuple #[.agg #[.int .i64 0, .int .i64 16, .int .u16 sn, .int .u16 us], .int .i64 0, .slice none 0 0, .int .i64 7]) ∧ New w w' := Next_no hv hm 0 16 sn us ok16 (by decide) hsn g1
theorem Serve_none {w0 w : World} {L : List (Nat × Array Value)} {R : List (Nat × Value × List Value)} (hv : Mem w0 w L R) {sv cv : Value} {sa ca : Option Addr} {sn sc cn cc vb vc sn_ us : Nat} {st : Int} {M : List Nat} (hm : InM R vb 0 1700 vc M) (hsn : sn_ < 65536) (g1 : getN M 258 2 = sn_) :
   Calls Tryz.prog 22 #[.agg #[.slice (some ⟨vb, 0, none⟩) 1700 vc], .agg #[.int .i64 0, .int .i64 16, .int .u16 sn_, .int .u16 us], .agg #[.slice sa sn sc, .slice ca cn cc], .int .i64 st] w fun e w' => e = .returned (.tuple #[.agg #[.slice (some ⟨vb, 0, none⟩) 1700 vc], .agg #[.int .i64 0, .int .i64 16, .int .u16 sn_, .int .u16 us], .agg #[.slice sa sn sc, .slice ca cn cc], .int .i64 7]) ∧ Mem w0 w' L R := by
 have HM := Lib.hid hm
 have HSN := Lib.hid hsn
 have G1 := Lib.hid g1
 clear hm hsn g1
 go_enter Tryz.func22, Tryz.ntmps22
 go_wp2_with (first
   | ((with_reducible refine at_box (T := 26) (dst := some 4) ?_); refine wl_newb rfl #[.slice (some ⟨vb, 0, none⟩) 1700 vc] 26 (fun _ => rfl) ?_; intro b_4 w2 hm2; replace hv := hv.madeAt hm2; clear hm2)
   | ((with_reducible refine at_box (T := 38) (dst := some 5) ?_); refine wl_newb rfl #[.int .i64 0, .int .i64 16, .int .u16 sn_, .int .u16 us] 38 (fun _ => rfl) ?_; intro b_5 w2 hm2; replace hv := hv.madeAt hm2; clear hm2)
   | ((with_reducible refine at_box (T := 63) (dst := some 6) ?_); refine wl_newb rfl #[.slice sa sn sc, .slice ca cn cc] 63 (fun _ => rfl) ?_; intro b_6 w2 hm2; replace hv := hv.madeAt hm2; clear hm2)
   | ((with_reducible refine at_alloc (T := 26) (dst := some 8) ?_); refine wl_newb rfl #[.slice none 0 0] 26 (fun _ => rfl) ?_; intro b_8 w2 hm2; replace hv := hv.madeAt hm2; clear hm2)
   | ((with_reducible refine at_alloc (T := 38) (dst := some 9) ?_); refine wl_newb rfl #[.int .i64 0, .int .i64 0, .int .u16 0, .int .u16 0] 38 (fun _ => rfl) ?_; intro b_9 w2 hm2; replace hv := hv.madeAt hm2; clear hm2)
   | ((with_reducible refine at_alloc (T := 63) (dst := some 10) ?_); refine wl_newb rfl #[.slice none 0 0, .slice none 0 0] 63 (fun _ => rfl) ?_; intro b_10 w2 hm2; replace hv := hv.madeAt hm2; clear hm2)
   | ((with_reducible refine at_load (T := 26) ?_); refine wl_ldv rfl b_4 rfl _ hv.vars.ro 1 _ Tryz.underlying26 rfl infoM (by decide) rfl ?_)
   | ((with_reducible refine at_load (T := 38) ?_); refine wl_ldv rfl b_5 rfl _ hv.vars.ro 4 _ Tryz.underlying38 rfl infoS4 (by decide) rfl ?_)
   | (go_at_call 29; (with_reducible refine (Nextno_B hv HM.out HSN.out G1.out).mono ?_); rintro e w1 ⟨rfl, hn1⟩; replace hv := hv.new hn1; clear hn1)
   | ((with_reducible refine at_store (T := 38) ?_); refine wl_stv rfl b_5 rfl _ rfl _ hv.vars.ro hv.vars.so 4 infoS4 rfl rfl (by simp [Value.oneCell']) ?_; intro w2 hw2; replace hv := hv.sets (by repeat first | exact .z | apply SetM.s) hw2; clear hw2))
 replace hv : Mem w0 _ ([(b_10, _), (b_9, _), (b_8, _), (b_6, _), (b_5, _), (b_4, _)] ++ L) R := hv
 try simp only [Act.put]
 refine Bny.wp_region_walk _ _ [⟨[1005], none⟩, ⟨[1004], none⟩, ⟨[1003], none⟩, ⟨[], none⟩, ⟨[1002], some 1002⟩, ⟨[1001], some 1001⟩, ⟨[1000], some 1000⟩, ⟨[], none⟩] [.val, .val, .val, .val, .put, .put, .put, .val] (by kernel_rfl) (by kernel_rfl) hv ?_
 simp only [List.length_cons, List.length_nil, Nat.zero_add, Any.someVals]
 iterate 8 apply Exists.intro
 repeat (first
   | (refine Bny.E_off rfl ?_; simp only [Act.put, sia, scs, scz])
   | ((with_reducible refine Bny.at_estore (T := 26) ?_); refine Bny.E_putv (T := 26) rfl rfl rfl rfl rfl rfl 1 infoM rfl rfl (by simp [Value.oneCell']) ?_; simp only [Act.put, sia, scs, scz])
   | ((with_reducible refine Bny.at_estore (T := 38) ?_); refine Bny.E_putv (T := 38) rfl rfl rfl rfl rfl rfl 4 infoS4 rfl rfl (by simp [Value.oneCell']) ?_; simp only [Act.put, sia, scs, scz])
   | ((with_reducible refine Bny.at_estore (T := 63) ?_); refine Bny.E_putv (T := 63) rfl rfl rfl rfl rfl rfl 2 infoD2 rfl rfl (by simp [Value.oneCell']) ?_; simp only [Act.put, sia, scs, scz])
   | (apply Bny.E_pureq rfl rfl rfl
      case h => intro K hK; go_big_quiet_op; (refine hK _ ?_; rfl)
      case hr => exact fun _ => rfl
      simp only [Act.put, sia, scs, scz])
   | (apply Bny.E_val rfl rfl rfl rfl
      case h =>
        intro E' hA K hK
        first
          | ((with_reducible refine Bny.at_qload (T := 26) ?_); refine Bny.q_ldv 1005 hA (by decide) rfl rfl 1 _ Tryz.underlying26 rfl infoM (by decide) rfl ?_; refine hK _ ?_; rfl)
          | ((with_reducible refine Bny.at_qload (T := 38) ?_); refine Bny.q_ldv 1004 hA (by decide) rfl rfl 4 _ Tryz.underlying38 rfl infoS4 (by decide) rfl ?_; refine hK _ ?_; rfl)
          | ((with_reducible refine Bny.at_qload (T := 63) ?_); refine Bny.q_ldv 1003 hA (by decide) rfl rfl 2 _ Tryz.underlying63 rfl infoD2 (by decide) rfl ?_; refine hK _ ?_; rfl)
          | (go_big_quiet_op; first
            | (refine hK _ ?_; rfl)
            | (refine ⟨_, fun _ _ => rfl, ?_⟩; refine hK _ ?_; rfl)
            | (apply Exists.intro; refine ⟨fun w1 hw1 => ?_, ?_⟩; · (first
                | fail)
               refine hK _ ?_; rfl))
      case hD => rfl
      simp only [Act.put, sia, scs, scz]))
 try any_goals exact undef
 refine Bny.E_nil ?_
 intro w9 hE9
 replace hv : Mem w0 w9 ([(b_10, #[.slice sa sn sc, .slice ca cn cc]), (b_9, #[.int .i64 0, .int .i64 16, .int .u16 sn_, .int .u16 us]), (b_8, #[.slice (some ⟨vb, 0, none⟩) 1700 vc]), (b_6, #[.slice sa sn sc, .slice ca cn cc]), (b_5, #[.int .i64 0, .int .i64 16, .int .u16 sn_, .int .u16 us]), (b_4, #[.slice (some ⟨vb, 0, none⟩) 1700 vc])] ++ L) R := hE9.mem0 [1000, 1001, 1002, 1003, 1004, 1005] (by decide)
 clear hE9
 simp only [List.cons_append, List.nil_append] at hv
 go_wp2
 try simp only [Exit.inBlock, Exit.then]
 refine ret_ccct (v := .agg #[.slice (some ⟨vb, 0, none⟩) 1700 vc]) (v' := .agg #[.int .i64 0, .int .i64 16, .int .u16 sn_, .int .u16 us]) (v2 := .agg #[.slice sa sn sc, .slice ca cn cc]) (v1 := .int .i64 7) rfl rfl rfl rfl (read_row _ b_8 26 _ (hv.vars.ro (b := b_8)) 1 _ Tryz.underlying26 rfl infoM (by decide) rfl) (read_row _ b_9 38 _ (hv.vars.ro (b := b_9)) 4 _ Tryz.underlying38 rfl infoS4 (by decide) rfl) (read_row _ b_10 63 _ (hv.vars.ro (b := b_10)) 2 _ Tryz.underlying63 rfl infoD2 (by decide) rfl) rfl rfl ?_
 exact ⟨rfl, hv.keep (by exact List.sublist_append_right [_, _, _, _, _, _] L)⟩
theorem sector_W {w0 w : World} {L : List (Nat × Array Value)} {R R0 : List (Nat × Value × List Value)} (hv : Mem w0 w L R) (hR : ∀ x ∈ R0, x ∈ R) (c : Nat) {ci : Int} (hc : ci = (c : Nat)) : Calls Tryz.prog 21 #[.int .u8 ci] w fun e w' => ∃ v R', e = .returned v ∧ SecW c v R' ∧ Mem w0 w' L R' ∧ ∀ x ∈ R, x ∈ R' := by
 refine (sector_M hv c hc).mono ?_
 rintro e w' ⟨b, rfl, hv1⟩
 exact ⟨_, _, rfl, ⟨b, rfl, Mem.z⟩, hv1, fun x hx => Mem.s hx⟩
theorem Write_0W {w0 w : World} {L : List (Nat × Array Value)} {R R0 : List (Nat × Value × List Value)} (hv : Mem w0 w L R) (hR : ∀ x ∈ R0, x ∈ R) {av la fn fc cn cc : Nat} {fa ca : Option Addr} {free : List Nat} {chs : List Chn} {b0 b1 b2 b3 f0 f1 f2 f3 : Bool} {h0 h1 h2 h3 s0 s1 s2 s3 : Nat} {mb mc nf1 nc1 av1 hd db do_ dc s_ p pd ps : Nat} {M D : List Nat} (hm : InM R0 mb 0 1700 mc M) (hq : BlkQ R0 (.slice fa fn fc) (.slice ca cn cc) free chs [(b0, h0, f0, (s0 : Int)), (b1, h1, f1, (s1 : Int)), (b2, h2, f2, (s2 : Int)), (b3, h3, f3, (s3 : Int))]) (hp : 500 + 0 = p) (hpd : p + 16 = pd) (hps : p + 272 = ps) (hix : idxF (fun r : Rq => !r.1) [(b0, h0, f0, (s0 : Int)), (b1, h1, f1, (s1 : Int)), (b2, h2, f2, (s2 : Int)), (b3, h3, f3, (s3 : Int))] = 0) (hs : s_ < 256) (hav : av < 65535) (hav1 : av + 1 = av1) (g0 : fn = nf1 + 3) (g1 : cn + 1 = nc1) (hh : free.getD 0 0 = hd)
   (hdr : (1, .slice (some ⟨db, do_, none⟩) 256 dc, cellsB D) ∈ R) (hg : goodB D) :
   Calls Tryz.prog 20 #[.agg #[.slice (some ⟨mb, 0, none⟩) 1700 mc], .agg #[.int .i64 0, .int .i64 16, .slice fa fn fc, .int .u16 av, .int .u16 la, .slice ca cn cc, .int .i64 500, .bool b0, .int .i64 h0, .bool f0, .int .i64 s0, .bool b1, .int .i64 h1, .bool f1, .int .i64 s1, .bool b2, .int .i64 h2, .bool f2, .int .i64 s2, .bool b3, .int .i64 h3, .bool f3, .int .i64 s3], .int .i64 s_, .slice (some ⟨db, do_, none⟩) 256 dc] w fun e w' => ∃ v R', e = .returned v ∧ WrW R0 (fun fa5 fc5 ca5 cc5 => #[.int .i64 0, .int .i64 16, .slice fa5 nf1 fc5, .int .u16 av1, .int .u16 la, .slice ca5 nc1 cc5, .int .i64 500, .bool true, .int .i64 hd, .bool false, .int .i64 s_, .bool b1, .int .i64 h1, .bool f1, .int .i64 s1, .bool b2, .int .i64 h2, .bool f2, .int .i64 s2, .bool b3, .int .i64 h3, .bool f3, .int .i64 s3]) 0 (addM (askM M p 1 s_ D) 0 16 av free [(p, 16, false), (pd, 256, false), (ps, 1, true)]) nf1 nc1 3 free chs hd v R' ∧ Mem w0 w' L R' ∧ ∀ x ∈ R, x ∈ R' := by
 refine (Write_0 hv (hm.mono hR) (hq.mono hR) hp hpd hps hix hs hav hav1 g0 g1 hh hdr hg).mono ?_
 rintro e w' ⟨vb5, vc5, fa5, fc5, ca5, cc5, c5, R5, rfl, hv1, e1, e2, e3, e4, e5, e6, e7⟩
 exact ⟨_, R5, rfl, ⟨vb5, vc5, fa5, fc5, ca5, cc5, c5, rfl, e1, e2, e3, e4, e5, e6, fun x hx => e7 x (hR x hx)⟩, hv1, e7⟩
theorem Write_1W {w0 w : World} {L : List (Nat × Array Value)} {R R0 : List (Nat × Value × List Value)} (hv : Mem w0 w L R) (hR : ∀ x ∈ R0, x ∈ R) {av la fn fc cn cc : Nat} {fa ca : Option Addr} {free : List Nat} {chs : List Chn} {b0 b1 b2 b3 f0 f1 f2 f3 : Bool} {h0 h1 h2 h3 s0 s1 s2 s3 : Nat} {mb mc nf1 nc1 av1 hd db do_ dc s_ p pd ps : Nat} {M D : List Nat} (hm : InM R0 mb 0 1700 mc M) (hq : BlkQ R0 (.slice fa fn fc) (.slice ca cn cc) free chs [(b0, h0, f0, (s0 : Int)), (b1, h1, f1, (s1 : Int)), (b2, h2, f2, (s2 : Int)), (b3, h3, f3, (s3 : Int))]) (hp : 500 + 288 = p) (hpd : p + 16 = pd) (hps : p + 272 = ps) (hix : idxF (fun r : Rq => !r.1) [(b0, h0, f0, (s0 : Int)), (b1, h1, f1, (s1 : Int)), (b2, h2, f2, (s2 : Int)), (b3, h3, f3, (s3 : Int))] = 1) (hs : s_ < 256) (hav : av < 65535) (hav1 : av + 1 = av1) (g0 : fn = nf1 + 3) (g1 : cn + 1 = nc1) (hh : free.getD 0 0 = hd)
   (hdr : (1, .slice (some ⟨db, do_, none⟩) 256 dc, cellsB D) ∈ R) (hg : goodB D) :
   Calls Tryz.prog 20 #[.agg #[.slice (some ⟨mb, 0, none⟩) 1700 mc], .agg #[.int .i64 0, .int .i64 16, .slice fa fn fc, .int .u16 av, .int .u16 la, .slice ca cn cc, .int .i64 500, .bool b0, .int .i64 h0, .bool f0, .int .i64 s0, .bool b1, .int .i64 h1, .bool f1, .int .i64 s1, .bool b2, .int .i64 h2, .bool f2, .int .i64 s2, .bool b3, .int .i64 h3, .bool f3, .int .i64 s3], .int .i64 s_, .slice (some ⟨db, do_, none⟩) 256 dc] w fun e w' => ∃ v R', e = .returned v ∧ WrW R0 (fun fa5 fc5 ca5 cc5 => #[.int .i64 0, .int .i64 16, .slice fa5 nf1 fc5, .int .u16 av1, .int .u16 la, .slice ca5 nc1 cc5, .int .i64 500, .bool b0, .int .i64 h0, .bool f0, .int .i64 s0, .bool true, .int .i64 hd, .bool false, .int .i64 s_, .bool b2, .int .i64 h2, .bool f2, .int .i64 s2, .bool b3, .int .i64 h3, .bool f3, .int .i64 s3]) 1 (addM (askM M p 1 s_ D) 0 16 av free [(p, 16, false), (pd, 256, false), (ps, 1, true)]) nf1 nc1 3 free chs hd v R' ∧ Mem w0 w' L R' ∧ ∀ x ∈ R, x ∈ R' := by
 refine (Write_1 hv (hm.mono hR) (hq.mono hR) hp hpd hps hix hs hav hav1 g0 g1 hh hdr hg).mono ?_
 rintro e w' ⟨vb5, vc5, fa5, fc5, ca5, cc5, c5, R5, rfl, hv1, e1, e2, e3, e4, e5, e6, e7⟩
 exact ⟨_, R5, rfl, ⟨vb5, vc5, fa5, fc5, ca5, cc5, c5, rfl, e1, e2, e3, e4, e5, e6, fun x hx => e7 x (hR x hx)⟩, hv1, e7⟩
theorem Write_2W {w0 w : World} {L : List (Nat × Array Value)} {R R0 : List (Nat × Value × List Value)} (hv : Mem w0 w L R) (hR : ∀ x ∈ R0, x ∈ R) {av la fn fc cn cc : Nat} {fa ca : Option Addr} {free : List Nat} {chs : List Chn} {b0 b1 b2 b3 f0 f1 f2 f3 : Bool} {h0 h1 h2 h3 s0 s1 s2 s3 : Nat} {mb mc nf1 nc1 av1 hd db do_ dc s_ p pd ps : Nat} {M D : List Nat} (hm : InM R0 mb 0 1700 mc M) (hq : BlkQ R0 (.slice fa fn fc) (.slice ca cn cc) free chs [(b0, h0, f0, (s0 : Int)), (b1, h1, f1, (s1 : Int)), (b2, h2, f2, (s2 : Int)), (b3, h3, f3, (s3 : Int))]) (hp : 500 + 576 = p) (hpd : p + 16 = pd) (hps : p + 272 = ps) (hix : idxF (fun r : Rq => !r.1) [(b0, h0, f0, (s0 : Int)), (b1, h1, f1, (s1 : Int)), (b2, h2, f2, (s2 : Int)), (b3, h3, f3, (s3 : Int))] = 2) (hs : s_ < 256) (hav : av < 65535) (hav1 : av + 1 = av1) (g0 : fn = nf1 + 3) (g1 : cn + 1 = nc1) (hh : free.getD 0 0 = hd)
   (hdr : (1, .slice (some ⟨db, do_, none⟩) 256 dc, cellsB D) ∈ R) (hg : goodB D) :
   Calls Tryz.prog 20 #[.agg #[.slice (some ⟨mb, 0, none⟩) 1700 mc], .agg #[.int .i64 0, .int .i64 16, .slice fa fn fc, .int .u16 av, .int .u16 la, .slice ca cn cc, .int .i64 500, .bool b0, .int .i64 h0, .bool f0, .int .i64 s0, .bool b1, .int .i64 h1, .bool f1, .int .i64 s1, .bool b2, .int .i64 h2, .bool f2, .int .i64 s2, .bool b3, .int .i64 h3, .bool f3, .int .i64 s3], .int .i64 s_, .slice (some ⟨db, do_, none⟩) 256 dc] w fun e w' => ∃ v R', e = .returned v ∧ WrW R0 (fun fa5 fc5 ca5 cc5 => #[.int .i64 0, .int .i64 16, .slice fa5 nf1 fc5, .int .u16 av1, .int .u16 la, .slice ca5 nc1 cc5, .int .i64 500, .bool b0, .int .i64 h0, .bool f0, .int .i64 s0, .bool b1, .int .i64 h1, .bool f1, .int .i64 s1, .bool true, .int .i64 hd, .bool false, .int .i64 s_, .bool b3, .int .i64 h3, .bool f3, .int .i64 s3]) 2 (addM (askM M p 1 s_ D) 0 16 av free [(p, 16, false), (pd, 256, false), (ps, 1, true)]) nf1 nc1 3 free chs hd v R' ∧ Mem w0 w' L R' ∧ ∀ x ∈ R, x ∈ R' := by
 refine (Write_2 hv (hm.mono hR) (hq.mono hR) hp hpd hps hix hs hav hav1 g0 g1 hh hdr hg).mono ?_
 rintro e w' ⟨vb5, vc5, fa5, fc5, ca5, cc5, c5, R5, rfl, hv1, e1, e2, e3, e4, e5, e6, e7⟩
 exact ⟨_, R5, rfl, ⟨vb5, vc5, fa5, fc5, ca5, cc5, c5, rfl, e1, e2, e3, e4, e5, e6, fun x hx => e7 x (hR x hx)⟩, hv1, e7⟩
theorem Write_3W {w0 w : World} {L : List (Nat × Array Value)} {R R0 : List (Nat × Value × List Value)} (hv : Mem w0 w L R) (hR : ∀ x ∈ R0, x ∈ R) {av la fn fc cn cc : Nat} {fa ca : Option Addr} {free : List Nat} {chs : List Chn} {b0 b1 b2 b3 f0 f1 f2 f3 : Bool} {h0 h1 h2 h3 s0 s1 s2 s3 : Nat} {mb mc nf1 nc1 av1 hd db do_ dc s_ p pd ps : Nat} {M D : List Nat} (hm : InM R0 mb 0 1700 mc M) (hq : BlkQ R0 (.slice fa fn fc) (.slice ca cn cc) free chs [(b0, h0, f0, (s0 : Int)), (b1, h1, f1, (s1 : Int)), (b2, h2, f2, (s2 : Int)), (b3, h3, f3, (s3 : Int))]) (hp : 500 + 864 = p) (hpd : p + 16 = pd) (hps : p + 272 = ps) (hix : idxF (fun r : Rq => !r.1) [(b0, h0, f0, (s0 : Int)), (b1, h1, f1, (s1 : Int)), (b2, h2, f2, (s2 : Int)), (b3, h3, f3, (s3 : Int))] = 3) (hs : s_ < 256) (hav : av < 65535) (hav1 : av + 1 = av1) (g0 : fn = nf1 + 3) (g1 : cn + 1 = nc1) (hh : free.getD 0 0 = hd)
   (hdr : (1, .slice (some ⟨db, do_, none⟩) 256 dc, cellsB D) ∈ R) (hg : goodB D) :
   Calls Tryz.prog 20 #[.agg #[.slice (some ⟨mb, 0, none⟩) 1700 mc], .agg #[.int .i64 0, .int .i64 16, .slice fa fn fc, .int .u16 av, .int .u16 la, .slice ca cn cc, .int .i64 500, .bool b0, .int .i64 h0, .bool f0, .int .i64 s0, .bool b1, .int .i64 h1, .bool f1, .int .i64 s1, .bool b2, .int .i64 h2, .bool f2, .int .i64 s2, .bool b3, .int .i64 h3, .bool f3, .int .i64 s3], .int .i64 s_, .slice (some ⟨db, do_, none⟩) 256 dc] w fun e w' => ∃ v R', e = .returned v ∧ WrW R0 (fun fa5 fc5 ca5 cc5 => #[.int .i64 0, .int .i64 16, .slice fa5 nf1 fc5, .int .u16 av1, .int .u16 la, .slice ca5 nc1 cc5, .int .i64 500, .bool b0, .int .i64 h0, .bool f0, .int .i64 s0, .bool b1, .int .i64 h1, .bool f1, .int .i64 s1, .bool b2, .int .i64 h2, .bool f2, .int .i64 s2, .bool true, .int .i64 hd, .bool false, .int .i64 s_]) 3 (addM (askM M p 1 s_ D) 0 16 av free [(p, 16, false), (pd, 256, false), (ps, 1, true)]) nf1 nc1 3 free chs hd v R' ∧ Mem w0 w' L R' ∧ ∀ x ∈ R, x ∈ R' := by
 refine (Write_3 hv (hm.mono hR) (hq.mono hR) hp hpd hps hix hs hav hav1 g0 g1 hh hdr hg).mono ?_
 rintro e w' ⟨vb5, vc5, fa5, fc5, ca5, cc5, c5, R5, rfl, hv1, e1, e2, e3, e4, e5, e6, e7⟩
 exact ⟨_, R5, rfl, ⟨vb5, vc5, fa5, fc5, ca5, cc5, c5, rfl, e1, e2, e3, e4, e5, e6, fun x hx => e7 x (hR x hx)⟩, hv1, e7⟩
theorem Serve_W {w0 w : World} {L : List (Nat × Array Value)} {R R0 : List (Nat × Value × List Value)} (hv : Mem w0 w L R) (hR : ∀ x ∈ R0, x ∈ R) {sa ca : Option Addr} {sn sc cn cc vb vc sn_ sn1 us us1 av hd p ps an s_ : Nat} {st : Int} {ss : List (Value × List Nat)} {cs : List Wr} {M D : List Nat} (hd_ : DiskQ R0 (.slice sa sn sc) (.slice ca cn cc) ss cs) (hm : InM R0 vb 0 1700 vc M) (hsn : sn_ < 65535) (hsn1 : sn_ + 1 = sn1) (g1 : getN M 258 2 = av) (gne : av ≠ sn_) (g2 : getN M (0 + (16 * 16 + (4 + 2 * (sn_ % 16)))) 2 = hd) (hP : PW M hd p s_ D) (hus : us < 65535) (hus1 : us + 1 = us1) (hhd : hd + 2 < 16) (hps : p + 272 = ps ∧ p + 288 ≤ 1700) (hst : IntKind.u8.wrap st = (an : Nat)) (han : an < 256) (hs2 : s_ < 256) (hcn : cn + 1 < 512) :
   Calls Tryz.prog 22 #[.agg #[.slice (some ⟨vb, 0, none⟩) 1700 vc], .agg #[.int .i64 0, .int .i64 16, .int .u16 sn_, .int .u16 us], .agg #[.slice sa sn sc, .slice ca cn cc], .int .i64 st] w fun e w' => ∃ v R', e = .returned v ∧ SrvW R0 M ps us hd sn1 us1 an s_ sa sn sc cn ss cs D v R' ∧ Mem w0 w' L R' ∧ ∀ x ∈ R, x ∈ R' := by
 obtain ⟨hps, hp17⟩ := hps
 have hc := hP.chain hhd hp17
 rw [hps] at hc
 by_cases h0 : an = 0
 · subst h0
   by_cases hat : s_ < sn
   · refine (Serve_a (pd := p + 16) (p8 := p + 8) hv (hd_.mono hR) (hm.mono hR) hsn hsn1 g1 gne g2 hc hus hus1 (by omega) ⟨hps, hp17⟩ hst hP.kd rfl rfl rfl hP.sc hs2 hP.dt hat hcn).mono ?_
     rintro e w' ⟨a2, c2, dv, vb4, vc4, R', rfl, hv1, i1, i2, i3⟩
     exact ⟨_, R', rfl, ⟨vb4, vc4, a2, cn + 1, c2, 0, _, rfl, i1, i2, by decide, .inl ⟨rfl, rfl, hat, rfl, dv, rfl⟩, fun x hx => i3 x (hR x hx)⟩, hv1, i3⟩
   · refine (Serve_b (pd := p + 16) (p8 := p + 8) hv (hd_.mono hR) (hm.mono hR) hsn hsn1 g1 gne g2 hc hus hus1 (by omega) ⟨hps, hp17⟩ hst hP.kd rfl rfl rfl hP.sc hs2 hP.dt hat).mono ?_
     rintro e w' ⟨vb4, vc4, R', rfl, hv1, i1, i2, i3⟩
     exact ⟨_, R', rfl, ⟨vb4, vc4, ca, cn, cc, 1, cs, rfl, i1, i2, by decide, .inr ⟨by decide, fun h => hat h.2, rfl, rfl⟩, fun x hx => i3 x (hR x hx)⟩, hv1, i3⟩
 · refine (Serve_c (pd := p + 16) (an := an) hv (hd_.mono hR) (hm.mono hR) hsn hsn1 g1 gne g2 hc hus hus1 (by omega) ⟨hps, hp17⟩ hst h0 han).mono ?_
   rintro e w' ⟨vb4, vc4, R', rfl, hv1, i1, i2, i3⟩
   exact ⟨_, R', rfl, ⟨vb4, vc4, ca, cn, cc, an, cs, rfl, i1, i2, han, .inr ⟨h0, fun h => h0 h.1, rfl, rfl⟩, fun x hx => i3 x (hR x hx)⟩, hv1, i3⟩
end Go.Proofs.YtjmibgomkgkhnaaGreat
