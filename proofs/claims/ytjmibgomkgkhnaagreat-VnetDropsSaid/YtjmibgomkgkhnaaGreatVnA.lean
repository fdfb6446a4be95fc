/-
 A card behind two rings (layer 10): the card itself: a frame goes.
-/
import Derived.Test.YtjmibgomkgkhnaaGreatVnY
import Derived.Test.YtjmibgomkgkhnaaGreatVn5
set_option maxRecDepth 100000
set_option maxHeartbeats 16000000
set_option linter.unusedVariables false
set_option linter.unusedSimpArgs false
namespace Go
open Go.RowKit
variable {P : Program} {ops : Array Oper} {rest : List Oper} {a : Act} {w0 w : World} {Q : Exit → Act → World → Prop} {L : List (Nat × Array Value)} {R : List (Nat × Value × List Value)}
variable {dst : Option Tmp} {ty t e : TypeId} {pos : String} {after : Array Edge} {g : Option (Nat × Bool)} {x y : Operand} {k : Nat}
theorem wl_appN (hgd : Region.wanted (⟨dst, .call { callee := .builtin .append, args := #[x, y], argTypes := #[t, t] }, ty, pos, after, g⟩ : Oper) (yielded ops a.tmps) = true) (hx : a.eval x = .slice none 0 0) (hv : Mem w0 w L R) (z : Value) (bytes : Nat) (ht : P.underlying t = some (.slice e))
   (hi : (P.info? e).map (fun i => (i.zero, i.size, i.bytes)) = some (some z, k, bytes)) (hzs : z.cells.size = k) (hk : 0 < k) {u : Value} (hy : a.eval y = u) {news : List Value} (hm : (k, u, news) ∈ R) (h1 : ∀ x ∈ news, x.oneCell' = true)
   (h63 : news.length / k ≤ maxLen) (hbytes : news.length / k * bytes ≤ 140737488355328) (hne : news ≠ [])
   (hn : ∀ ao n cap w', Mem w0 w' L ((k, .slice ao n cap, news) :: R) → wpList P ops Q rest (a.put dst (.slice ao n cap)) w') : wpList P ops Q (⟨dst, .call { callee := .builtin .append, args := #[x, y], argTypes := #[t, t] }, ty, pos, after, g⟩ :: rest) a w := by
 refine wl_appO (A := []) (B := L) hgd hx (.inl ⟨rfl, rfl, rfl⟩) hv z bytes ht hi hzs hk hy (hv.rd hm) h1 (by simpa using h63) (by simpa using hbytes) fun v' w' O' hO hv' => ?_
 rcases hO with ⟨_, h, _⟩ | ⟨x0, hrow, rfl⟩
 · exact absurd h (by simpa using hne)
 · rw [List.nil_append] at hrow
   obtain ⟨n, cap, rfl, _⟩ := id hrow
   exact hn _ _ _ _ (Mem.yield (L1 := []) hv' hrow)
end Go
namespace Go.Proofs.YtjmibgomkgkhnaaGreat
open Go.Proofs.Qu Go.Proofs.Nm Go.RowKit Go.Proofs
theorem infoU8zz : (Tryz.prog.info? 5).map (fun i => (i.zero, i.size, i.bytes)) = some (some (.int .u8 0), 1, 1) := by kernel_rfl
theorem gather_ok {w0 w : World} {L : List (Nat × Array Value)} {R : List (Nat × Value × List Value)} {bm bo vb vc n a_ : Nat} {M D : List Nat} (hv : Mem w0 w ((bo, #[.slice none 0 0]) :: L) R) (hmv : (bm, #[.slice (some ⟨vb, 0, none⟩) 1900 vc]) ∈ L) (hm : InM R vb 0 1900 vc M) (hn : 0 < n) (hp : a_ + n ≤ 1900) (hg : getB M a_ n = D) (hdl : D.length = n) :
   Calls Tryz.prog 39 #[.agg #[.int .i64 a_, .int .i64 n, .bool false], .pointer (some ⟨bm, 0, none⟩), .pointer (some ⟨bo, 0, none⟩)] w fun e w' => ∃ ao gc R', e = .returned (.tuple #[]) ∧ Mem w0 w' ((bo, #[.slice ao n gc]) :: L) R' ∧ (1, .slice ao n gc, cellsB D) ∈ R' ∧ ∀ x ∈ R, x ∈ R' := by
 have HMV := Lib.hid hmv
 have HM := Lib.hid hm
 have HN0 := Lib.hid hn
 have HP := Lib.hid hp
 have HG := Lib.hid hg
 have HDL := Lib.hid hdl
 have HA1 : Hid ((cellsB D).length / 1 ≤ maxLen) := Lib.hid (by rw [cellsB_len, Nat.div_one]; unfold maxLen; omega)
 have HA2 : Hid ((cellsB D).length / 1 * 1 ≤ 140737488355328) := Lib.hid (by rw [cellsB_len, Nat.div_one]; omega)
 have HA3 : Hid (cellsB D ≠ []) := Lib.hid (fun h => by have := congrArg List.length h; rw [cellsB_len, List.length_nil] at this; omega)
 clear hmv hm hn hp hg hdl
 go_enter Tryz.func39, Tryz.ntmps39
 go_wp2_with (first
   | ((with_reducible refine at_box (T := 91) (dst := some 3) ?_); refine wl_newb rfl #[.int .i64 a_, .int .i64 n, .bool false] 91 (fun _ => rfl) ?_; intro b_3 w2 hm2; replace hv := hv.madeAt hm2; clear hm2)
   | ((with_reducible refine at_load (T := 26) ?_); refine wl_ldv rfl bm rfl _ (hv.vars.row (.tail _ (.tail _ HMV.out))) 1 _ Tryz.underlying26 rfl infoM (by decide) rfl ?_)
   | ((with_reducible refine at_load (T := 3) ?_); refine wl_ldc rfl b_3 0 rfl _ hv.vars.ro _ Tryz.underlying3 rfl (.int .i64 a_) rfl ?_)
   | ((with_reducible refine at_load (T := 3) ?_); refine wl_ldc rfl b_3 1 rfl _ hv.vars.ro _ Tryz.underlying3 rfl (.int .i64 n) rfl ?_)
   | (go_at_call 27; ((with_reducible refine (Get_N hv (fun x hx => hx) HM.out (a_ : Nat) a_ rfl HP.out HG.out).mono ?_); rintro e w1 ⟨v3, R3, rfl, hg3, hv1, hs3⟩; replace hv := hv1; obtain ⟨gv, rfl, hgr, hr9⟩ := hg3; clear hr9; obtain ⟨gb, gc, rfl, hgi⟩ := hgr HN0.out; have HGI := Lib.hid hgi; have HS3 := Lib.hid hs3; clear hv1 hs3 hgr hgi))
   | ((with_reducible refine at_load (T := 24) ?_); refine wl_ldc rfl bo 0 rfl _ hv.vars.ro _ Tryz.underlying24 rfl (.slice none 0 0) rfl ?_)
   | ((with_reducible refine at_append (t := 24) ?_); (refine wl_appN rfl rfl hv (.int .u8 0) 1 Tryz.underlying24 infoU8zz rfl (by decide) rfl HGI.out (cellsB_one' _) HA1.out HA2.out HA3.out ?_; intro ao n5 gc5 w5 hvN; replace hv := hvN; clear hvN))
   | ((with_reducible refine at_store (T := 24) ?_); refine wl_stc rfl bo 0 rfl (.slice ao n5 gc5) rfl _ hv.vars.ro hv.vars.so (by kernel_rfl) rfl (by show 0 < 1; decide) ?_; intro w2 hw2; replace hv := hv.sets (by repeat first | exact .z | apply SetM.s) hw2; clear hw2))
 go_end0
 have h5 : n5 = n := by
   obtain ⟨_, _, _, e, g, _⟩ := hv.rd Mem.z
   cases e
   have h6 := HDL.out
   rw [cellsB_len] at g; omega
 subst h5
 exact ⟨ao, gc5, _, rfl, hv.drop, Mem.z, fun x hx => Mem.s (HS3.out x hx)⟩
theorem Give_0 {w0 w : World} {L : List (Nat × Array Value)} {R : List (Nat × Value × List Value)} (hv : Mem w0 w L R) {vb vc sn us us1 hd : Nat} {M : List Nat} (hm : InM R vb 0 1900 vc M) (hus : us < 65535) (hus1 : us + 1 = us1) (h1 : hd < 4) : Calls Tryz.prog 31 #[.agg #[.slice (some ⟨vb, 0, none⟩) 1900 vc], .agg #[.int .i64 120, .int .i64 4, .int .u16 sn, .int .u16 us], .int .i64 hd, .int .i64 0] w fun e w' => ∃ b c R', e = .returned (.tuple #[.agg #[.slice (some ⟨b, 0, none⟩) 1900 c], .agg #[.int .i64 120, .int .i64 4, .int .u16 sn, .int .u16 us1], .int .i64 0]) ∧ Mem w0 w' L R' ∧ InM R' b 0 1900 c (returnM M 120 4 us hd 0) ∧ ∀ x ∈ R, x ∈ R' := Give_N (base := 120) (bi := 120) (n := 0) hv rfl (by decide) hm hus hus1 h1 (by decide)
theorem sliced_0 (ao : Option Addr) (n cap k : Nat) : sliced ao 0 n cap k = .slice ao n cap := by
 unfold sliced
 by_cases h : cap = 0
 · rw [if_pos h]; rfl
 · rw [if_neg h]
   cases ao with
   | none => rfl
   | some a => simp [Addr.add]
theorem Fetch_yes {w0 w : World} {L : List (Nat × Array Value)} {R : List (Nat × Value × List Value)} (hv : Mem w0 w L R) {vb vc sn sn1 us us1 av hd n a_ : Nat} {M D : List Nat} (hm : InM R vb 0 1900 vc M) (hsn : sn < 65535) (hsn1 : sn + 1 = sn1) (hus : us < 65535) (hus1 : us + 1 = us1) (hh4 : hd < 4) (g1 : getN M (120 + (16 * 4 + 2)) 2 = av) (hne : av ≠ sn) (g2 : getN M (120 + (16 * 4 + (4 + 2 * (sn % 4)))) 2 = hd) (hc : ChainAt 1900 M 120 4 hd [(a_, n, false)]) (hg : getB M a_ n = D) (hdl : D.length = n) (hn0 : 0 < n) (hn4 : n ≤ 1000) (hp : a_ + n ≤ 1900) :
   Calls Tryz.prog 14 #[.agg #[.slice (some ⟨vb, 0, none⟩) 1900 vc], .agg #[.int .i64 120, .int .i64 4, .int .u16 sn, .int .u16 us]] w fun e w' => ∃ vb5 vc5 ao gc5 R5, e = .returned (.tuple #[.agg #[.slice (some ⟨vb5, 0, none⟩) 1900 vc5], .agg #[.int .i64 120, .int .i64 4, .int .u16 sn1, .int .u16 us1], .slice ao n gc5, .int .i64 0]) ∧ Mem w0 w' L R5 ∧ InM R5 vb5 0 1900 vc5 (returnM M 120 4 us hd 0) ∧ (1, .slice ao n gc5, cellsB D) ∈ R5 ∧ ∀ x ∈ R, x ∈ R5 := by
 have HB0 : Hid ((120 : Int) = ((120 : Nat) : Int)) := Lib.hid rfl
 have HB1 : Hid (120 + 112 ≤ 1900) := Lib.hid (by decide)
 have HN19 : Hid (0 ≤ 192) := Lib.hid (by decide)
 have HM := Lib.hid hm
 have HSN := Lib.hid hsn
 have HSN1 := Lib.hid hsn1
 have HUS := Lib.hid hus
 have HUS1 := Lib.hid hus1
 have HH4 := Lib.hid hh4
 have G1 := Lib.hid g1
 have GNE := Lib.hid hne
 have G2 := Lib.hid g2
 have GC := Lib.hid hc
 have HGB := Lib.hid hg
 have HDL := Lib.hid hdl
 have HN0 := Lib.hid hn0
 have HPL := Lib.hid hp
 have ymin : min (n : Int) 4096 = (n : Int) := by omega
 have ymin2 : min n 4096 = n := by omega
 clear hm hsn hsn1 hus hus1 hh4 g1 hne g2 hc hg hdl hn0 hn4 hp
 go_enter Tryz.func14, Tryz.ntmps14
 go_wp2_with (first
   | ((with_reducible refine at_box (T := 26) (dst := some 2) ?_); refine wl_newb rfl #[.slice (some ⟨vb, 0, none⟩) 1900 vc] 26 (fun _ => rfl) ?_; intro b_2 w2 hm2; replace hv := hv.madeAt hm2; clear hm2)
   | ((with_reducible refine at_box (T := 38) (dst := some 3) ?_); refine wl_newb rfl #[.int .i64 120, .int .i64 4, .int .u16 sn, .int .u16 us] 38 (fun _ => rfl) ?_; intro b_3 w2 hm2; replace hv := hv.madeAt hm2; clear hm2)
   | ((with_reducible refine at_alloc (T := 26) (dst := some 4) ?_); refine wl_newb rfl #[.slice none 0 0] 26 (fun _ => rfl) ?_; intro b_4 w2 hm2; replace hv := hv.madeAt hm2; clear hm2)
   | ((with_reducible refine at_alloc (T := 38) (dst := some 5) ?_); refine wl_newb rfl #[.int .i64 0, .int .i64 0, .int .u16 0, .int .u16 0] 38 (fun _ => rfl) ?_; intro b_5 w2 hm2; replace hv := hv.madeAt hm2; clear hm2)
   | ((with_reducible refine at_load (T := 26) ?_); refine wl_ldv rfl b_2 rfl _ hv.vars.ro 1 _ Tryz.underlying26 rfl infoM (by decide) rfl ?_)
   | ((with_reducible refine at_load (T := 38) ?_); refine wl_ldv rfl b_3 rfl _ hv.vars.ro 4 _ Tryz.underlying38 rfl infoS4 (by decide) rfl ?_)
   | (go_at_call 29; (with_reducible refine (Next_N (base := 120) hv HB0.out HB1.out HM.out HSN.out HSN1.out G1.out GNE.out G2.out GC.out).mono ?_); rintro e w1 ⟨gb, go_, gc, R3, rfl, hv1, hl1, hs1⟩; replace hv := hv1; have HL3 := Lib.hid hl1; have HS3 := Lib.hid hs1; clear hv1 hl1 hs1)
   | ((with_reducible refine at_store (T := 38) ?_); refine wl_stv rfl b_3 rfl _ rfl _ hv.vars.ro hv.vars.so 4 infoS4 rfl rfl (by simp [Value.oneCell']) ?_; intro w2 hw2; replace hv := hv.sets (by repeat first | exact .z | apply SetM.s) hw2; clear hw2)
   | ((with_reducible refine at_alloc (T := 24) (dst := some 11) ?_); refine wl_newb rfl #[.slice none 0 0] 24 (fun _ => rfl) ?_; intro b_11 w2 hm2; replace hv := hv.madeAt hm2; clear hm2))
 have HM3 : Hid (InM R3 vb 0 1900 vc M) := Lib.hid (HM.out.mono HS3.out)
 go_loopw [31] (fun iv wr => (iv = .int .i64 0 ∧ Mem w0 wr ((b_11, #[.slice none 0 0]) :: [(b_5, #[.int .i64 0, .int .i64 0, .int .u16 0, .int .u16 0]), (b_4, #[.slice none 0 0]), (b_3, #[.int .i64 120, .int .i64 4, .int .u16 sn1, .int .u16 us]), (b_2, #[.slice (some ⟨vb, 0, none⟩) 1900 vc])] ++ L) R3) ∨ (iv = .int .i64 1 ∧ Hid (∃ ao gc5 R4, Mem w0 wr ((b_11, #[.slice ao n gc5]) :: [(b_5, #[.int .i64 0, .int .i64 0, .int .u16 0, .int .u16 0]), (b_4, #[.slice none 0 0]), (b_3, #[.int .i64 120, .int .i64 4, .int .u16 sn1, .int .u16 us]), (b_2, #[.slice (some ⟨vb, 0, none⟩) 1900 vc])] ++ L) R4 ∧ (1, .slice ao n gc5, cellsB D) ∈ R4 ∧ ∀ x ∈ R3, x ∈ R4))) (fun iv _ => 1 - (intOf iv).toNat)
 case atStart => exact .inl ⟨rfl, hv⟩
 case round =>
   clear hv
   rcases hrel with ⟨rfl, hv⟩ | ⟨rfl, HV9⟩
   · simp only [List.cons_append, List.nil_append] at hv
     go_wp2_with (first
       | ((with_reducible refine at_load (T := 91) ?_); refine wl_rdv rfl (c := cellsPt [(a_, n, false)]) (hv.rd HL3.out) 0 rfl 3 _ Tryz.underlying91 rfl infoB3 (by decide) #[.int .i64 a_, .int .i64 n, .bool false] rfl rfl ?_)
       | ((with_reducible refine at_alloc (T := 91) (dst := some 14) ?_); refine wl_newb rfl #[.int .i64 0, .int .i64 0, .bool false] 91 (fun _ => rfl) ?_; intro b_14 w2 hm2; replace hv := hv.madeAt hm2; clear hm2)
       | ((with_reducible refine at_store (T := 91) ?_); refine wl_stv rfl b_14 rfl _ rfl _ hv.vars.ro hv.vars.so 3 infoB3 rfl rfl (by simp [Value.oneCell']) ?_; intro w2 hw2; replace hv := hv.sets (by repeat first | exact .z | apply SetM.s) hw2; clear hw2)
       | ((with_reducible refine at_load (T := 4) ?_); refine wl_ldc rfl b_14 2 rfl _ hv.vars.ro _ Tryz.underlying4 rfl (.bool false) rfl ?_)
       | ((with_reducible refine at_load (T := 91) ?_); refine wl_ldv rfl b_14 rfl _ hv.vars.ro 3 _ Tryz.underlying91 rfl infoB3 (by decide) rfl ?_)
       | ((with_reducible refine at_call ?_); refine wl_callv rfl (Go.Proofs.enters_of Tryz.func39 (by kernel_rfl) rfl) rfl [.agg #[.int .i64 a_, .int .i64 n, .bool false]] rfl (gather_ok (bm := b_2) hv.swap (by repeat first | exact mz | apply ms) HM3.out HN0.out HPL.out HGB.out HDL.out) ?_; rintro e w1 ⟨ao, gc5, R4, rfl, hv1, hg4, hs4⟩; refine ⟨_, rfl, ?_⟩; replace hv := hv1; have HG4 := Lib.hid hg4; have HS4 := Lib.hid hs4; clear hv1 hg4 hs4))
     go_roundw
     case rel => exact .inr ⟨by go_num, Lib.hid ⟨ao, gc5, R4, hv.swap.drop, HG4.out, HS4.out⟩⟩
     case measure => simp [intOf]
   · obtain ⟨ao, gc5, R4, hv, hg4, hs4⟩ := HV9.out
     have HG4 := Lib.hid hg4
     have HS4 := Lib.hid hs4
     clear hg4 hs4 HV9
     simp only [List.cons_append, List.nil_append] at hv
     have HM5 : Hid (InM R4 vb 0 1900 vc M) := Lib.hid (HM3.out.mono HS4.out)
     have HNC : Hid (n ≤ gc5) := Lib.hid (by
       obtain ⟨_, _, _, e, _, g, _⟩ := hv.rd HG4.out
       cases e; omega)
     go_wp2_with (first
       | ((with_reducible refine at_load (T := 26) ?_); refine wl_ldv rfl b_2 rfl _ hv.vars.ro 1 _ Tryz.underlying26 rfl infoM (by decide) rfl ?_)
       | ((with_reducible refine at_load (T := 38) ?_); refine wl_ldv rfl b_3 rfl _ hv.vars.ro 4 _ Tryz.underlying38 rfl infoS4 (by decide) rfl ?_)
       | (go_at_call 31; (with_reducible refine (Give_0 hv HM5.out HUS.out HUS1.out HH4.out).mono ?_); rintro e w1 ⟨vb5, vc5, R5, rfl, hv1, hi5, hs1⟩; replace hv := hv1; have HI5 := Lib.hid hi5; have HS5 := Lib.hid hs1; clear hv1 hi5 hs1)
       | ((with_reducible refine at_store (T := 26) ?_); refine wl_stv rfl b_2 rfl _ rfl _ hv.vars.ro hv.vars.so 1 infoM rfl rfl (by simp [Value.oneCell']) ?_; intro w2 hw2; replace hv := hv.sets (by repeat first | exact .z | apply SetM.s) hw2; clear hw2)
       | ((with_reducible refine at_store (T := 38) ?_); refine wl_stv rfl b_3 rfl _ rfl _ hv.vars.ro hv.vars.so 4 infoS4 rfl rfl (by simp [Value.oneCell']) ?_; intro w2 hw2; replace hv := hv.sets (by repeat first | exact .z | apply SetM.s) hw2; clear hw2))
     replace hv : Mem w0 _ ([(b_11, _), (b_5, _), (b_4, _), (b_3, _), (b_2, _)] ++ L) R5 := hv
     try simp only [Act.put]
     refine Bny.wp_region_walk _ _ [⟨[1004], none⟩, ⟨[1003], none⟩, ⟨[1000], none⟩, ⟨[1000], none⟩, ⟨[], none⟩, ⟨[], none⟩, ⟨[], none⟩, ⟨[1002], some 1002⟩, ⟨[1001], some 1001⟩, ⟨[], none⟩, ⟨[], none⟩] [.val, .val, .val, .val, .val, .val, .val, .put, .put, .val, .val] (by kernel_rfl) (by kernel_rfl) hv ?_
     simp only [List.length_cons, List.length_nil, Nat.zero_add, Any.someVals]
     iterate 11 apply Exists.intro
     repeat (first
       | (refine Bny.E_off rfl ?_; simp only [Act.put, sia, scs, scz])
       | ((with_reducible refine Bny.at_estore (T := 26) ?_); refine Bny.E_putv (T := 26) rfl rfl rfl rfl rfl rfl 1 infoM rfl rfl (by simp [Value.oneCell']) ?_; simp only [Act.put, sia, scs, scz])
       | ((with_reducible refine Bny.at_estore (T := 38) ?_); refine Bny.E_putv (T := 38) rfl rfl rfl rfl rfl rfl 4 infoS4 rfl rfl (by simp [Value.oneCell']) ?_; simp only [Act.put, sia, scs, scz])
       | (apply Bny.E_pureq rfl rfl rfl
          case h => intro K hK; go_big_quiet_op; (refine hK _ ?_; rfl)
          case hr => exact fun _ => rfl
          simp only [Act.put, sia, scs, scz])
       | (apply Bny.E_val rfl rfl rfl rfl
          case h =>
            intro E' hA K hK
            first
              | ((with_reducible refine Bny.at_qload (T := 26) ?_); refine Bny.q_ldv 1004 hA (by decide) rfl rfl 1 _ Tryz.underlying26 rfl infoM (by decide) rfl ?_; refine hK _ ?_; rfl)
              | ((with_reducible refine Bny.at_qload (T := 38) ?_); refine Bny.q_ldv 1003 hA (by decide) rfl rfl 4 _ Tryz.underlying38 rfl infoS4 (by decide) rfl ?_; refine hK _ ?_; rfl)
              | ((with_reducible refine Bny.at_qload (T := 24) ?_); refine Bny.q_ldc 1000 hA (by decide) rfl rfl _ Tryz.underlying24 rfl (_) rfl ?_; refine hK _ ?_; rfl)
              | ((with_reducible refine Any.at_qslice (T := 24) ?_); refine Any.q_slice rfl Tryz.underlying24 infoU81 none (some (.int .i64 n)) none rfl rfl rfl 0 n gc5 (fun w => bounds_h HNC.out) (sliced_0 _ _ _ _) ?_; refine hK _ ?_; rfl)
              | (go_big_quiet_op; first
                | (refine hK _ ?_; rfl)
                | (refine ⟨_, fun _ _ => rfl, ?_⟩; refine hK _ ?_; rfl)
                | (apply Exists.intro; refine ⟨fun w1 hw1 => ?_, ?_⟩; · (first
                    | fail)
                   refine hK _ ?_; rfl))
          case hD => rfl
          simp only [Act.put, sia, scs, scz]))
     try any_goals exact undef
     refine Bny.E_nil ?_
     intro w9 hE9
     replace hv : Mem w0 w9 ([(b_11, #[.slice ao n gc5]), (b_5, #[.int .i64 120, .int .i64 4, .int .u16 sn1, .int .u16 us1]), (b_4, #[.slice (some ⟨vb5, 0, none⟩) 1900 vc5]), (b_3, #[.int .i64 120, .int .i64 4, .int .u16 sn1, .int .u16 us1]), (b_2, #[.slice (some ⟨vb5, 0, none⟩) 1900 vc5])] ++ L) R5 := hE9.mem0 [1000, 1001, 1002, 1003, 1004] (by decide)
     clear hE9
     simp only [List.cons_append, List.nil_append] at hv
     go_wp2
     try simp only [Exit.inBlock, Exit.then]
     refine ret_cctt (v := .agg #[.slice (some ⟨vb5, 0, none⟩) 1900 vc5]) (v' := .agg #[.int .i64 120, .int .i64 4, .int .u16 sn1, .int .u16 us1]) (v1 := .slice ao n gc5) (v2 := .int .i64 0) rfl rfl rfl (read_row _ b_4 26 _ (hv.vars.ro (b := b_4)) 1 _ Tryz.underlying26 rfl infoM (by decide) rfl) (read_row _ b_5 38 _ (hv.vars.ro (b := b_5)) 4 _ Tryz.underlying38 rfl infoS4 (by decide) rfl) rfl rfl rfl ?_
     exact ⟨vb5, vc5, ao, gc5, R5, rfl, hv.keep (by exact List.sublist_append_right [_, _, _, _, _] L), HI5.out, HS5.out _ HG4.out, fun x hx => HS5.out x (HS4.out x (HS3.out x hx))⟩
end Go.Proofs.YtjmibgomkgkhnaaGreat
