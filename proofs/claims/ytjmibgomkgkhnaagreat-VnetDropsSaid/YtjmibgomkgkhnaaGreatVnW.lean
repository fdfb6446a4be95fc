import Derived.Test.YtjmibgomkgkhnaaGreatVnY
import Derived.Test.YtjmibgomkgkhnaaGreatVnU
import Derived.Test.YtjmibgomkgkhnaaGreatVnA
import Derived.Test.YtjmibgomkgkhnaaGreatVn6
set_option linter.unusedSimpArgs false
set_option linter.unusedVariables false
set_option maxRecDepth 100000
set_option maxHeartbeats 16000000
section
/-
 A card behind two rings (layer 10): which one went.
-/
namespace Go.Proofs.YtjmibgomkgkhnaaGreat
open Go.Proofs.Qu Go.Proofs.Nm Go.RowKit Go.Proofs
theorem Poll_t {w0 w : World} {L : List (Nat × Array Value)} {R : List (Nat × Value × List Value)} (hv : Mem w0 w L R) {tav tla tfn tfn1 tfc tcn tcn1 tcc vb vc us ah hd la1 : Nat} {tfa tca : Option Addr} {tfree : List Nat} {rest : List Chn} {c0 : Chn} {M : List Nat} (hq : InQ R (.slice tfa tfn tfc) (.slice tca tcn tcc) tfree (c0 :: rest)) (ho : OkQ 4 tfree (c0 :: rest)) (hm : InM R vb 0 1900 vc M) (hus : getN M (120 + (backN 4 + 2)) 2 = us) (hah : (us + 65536 - tla) % 65536 = ah) (hla : tla + 1 < 65536) (hah0 : ah ≠ 0) (hah4 : ah ≤ tcn) (hid : getN M (120 + (backN 4 + (4 + 8 * (tla % 4)))) 4 = hd) (hlen : getN M (120 + (backN 4 + (4 + 8 * (tla % 4))) + 4) 4 = 0) (hch : c0.h = hd) (hcd : c0.ds = [hd]) (h0 : tfn + 1 = tfn1) (h1 : tcn = tcn1 + 1) (hla1 : tla + 1 = la1) : Calls Tryz.prog 32 #[.agg #[.slice (some ⟨vb, 0, none⟩) 1900 vc], .agg #[.int .i64 120, .int .i64 4, .slice tfa tfn tfc, .int .u16 tav, .int .u16 tla, .slice tca tcn tcc]] w fun e w' => ∃ fc cc fa ca free' R', e = .returned (.tuple #[.agg #[.int .i64 120, .int .i64 4, .slice fa tfn1 fc, .int .u16 tav, .int .u16 la1, .slice ca tcn1 cc], .int .i64 hd, .int .i64 0, .int .i64 0]) ∧ Mem w0 w' L R' ∧ InQ R' (.slice fa tfn1 fc) (.slice ca tcn1 cc) free' rest ∧ OkQ 4 free' rest ∧ free'.Perm (tfree ++ [hd]) ∧ ∀ x ∈ R, x ∈ R' := by
 subst h0 h1
 have hfl : tfree.length = tfn := by
   obtain ⟨_, _, _, e, g, _⟩ := hv.rd hq.fr
   cases e
   rw [intsI_len] at g; omega
 have hcl : (c0 :: rest).length = tcn1 + 1 := by
   obtain ⟨_, _, _, e, g, _⟩ := hv.rd hq.ch
   cases e
   rw [cellsC_len] at g; omega
 refine (Poll_D (base := 120) (n := 4) (av := tav) (la := tla) hv ⟨hm, hq, ho⟩ (by decide) (us := us) (ah := ah) hus hah (by omega) hah0 (by rw [hcl]; exact hah4) (id_ := hd) (len_ := 0) hid hlen (at_ := 0) (c := c0) (idxF_some (k := 0) (x := c0) rfl (by rw [hch]; exact beq_self_eq_true _) (fun j hj => absurd hj (Nat.not_lt_zero _))) rfl (Nat.zero_le _)).mono ?_
 rintro e w' ⟨fa', fc', ca', cc', free', R', rfl, hv1, hd1, hp, hs, hr⟩
 have hds : c0.ds.length = 1 := by rw [hcd]; rfl
 rw [hcl, hds, hfl, Nat.add_sub_cancel] at hd1
 rw [hcl, hds, hfl, Nat.mod_eq_of_lt hla, hla1, Nat.add_sub_cancel]
 rw [hcd] at hp
 exact ⟨fc', cc', fa', ca', free', R', rfl, hv1, hd1.q, hd1.ok, hp, hr⟩
theorem Poll_tn {w0 w : World} {L : List (Nat × Array Value)} {R : List (Nat × Value × List Value)} (hv : Mem w0 w L R) {vb vc tfn tfc tcn tcc tav tla : Nat} {tfa tca : Option Addr} {M : List Nat} {tfree : List Nat} {tchs : List Chn} (hm : InM R vb 0 1900 vc M) (hq : InQ R (.slice tfa tfn tfc) (.slice tca tcn tcc) tfree tchs) (ho : OkQ 4 tfree tchs) (hus : getN M (120 + (backN 4 + 2)) 2 = tla) (hla : tla < 65536) : Calls Tryz.prog 32 #[.agg #[.slice (some ⟨vb, 0, none⟩) 1900 vc], .agg #[.int .i64 120, .int .i64 4, .slice tfa tfn tfc, .int .u16 tav, .int .u16 tla, .slice tca tcn tcc]] w fun e w' => e = .returned (.tuple #[.agg #[.int .i64 120, .int .i64 4, .slice tfa tfn tfc, .int .u16 tav, .int .u16 tla, .slice tca tcn tcc], .int .i64 0, .int .i64 0, .int .i64 7]) ∧ New w w' := Poll_none (base := 120) (n := 4) (av := tav) (la := tla) hv hm hq ho (by decide) (us := tla) (ah := 0) hus (by omega) hla rfl
theorem of_0 (b0 b1 b2 b3 : Nat) (hb : ∀ y ∈ [b0, b1, b2, b3], y ≤ 1000) (w : World) : Calls Tryz.prog 33 #[.agg #[.int .i64 b0, .int .i64 b1, .int .i64 b2, .int .i64 b3], .int .i64 0] w fun e w' => e = .returned (.int .i64 (idxF (· == 0 + 1) [b0, b1, b2, b3])) ∧ New w w' := of_any b0 b1 b2 b3 0 hb (Nat.zero_le _) w
theorem Reap_none {w0 w : World} {L : List (Nat × Array Value)} {R : List (Nat × Value × List Value)} (hv : Mem w0 w L R) {rav rla rfn rfc rcn rcc tav tla tfn tfc tcn tcc vb vc : Nat} {rfa rca tfa tca : Option Addr} {rfree tfree : List Nat} {rchs tchs : List Chn} {i0 i1 i2 i3 o0 o1 o2 o3 : Nat} {M : List Nat} (hn : NetQ R (.slice rfa rfn rfc) (.slice rca rcn rcc) (.slice tfa tfn tfc) (.slice tca tcn tcc) rfree rchs tfree tchs [i0, i1, i2, i3] [o0, o1, o2, o3]) (hm : InM R vb 0 1900 vc M) (hus : getN M (120 + (backN 4 + 2)) 2 = tla) (hla : tla < 65536) :
   Calls Tryz.prog 15 #[.agg #[.slice (some ⟨vb, 0, none⟩) 1900 vc], .agg #[.int .i64 0, .int .i64 4, .slice rfa rfn rfc, .int .u16 rav, .int .u16 rla, .slice rca rcn rcc, .int .i64 120, .int .i64 4, .slice tfa tfn tfc, .int .u16 tav, .int .u16 tla, .slice tca tcn tcc, .int .i64 300, .int .i64 i0, .int .i64 i1, .int .i64 i2, .int .i64 i3, .int .i64 o0, .int .i64 o1, .int .i64 o2, .int .i64 o3]] w fun e w' => e = .returned (.tuple #[.agg #[.int .i64 0, .int .i64 4, .slice rfa rfn rfc, .int .u16 rav, .int .u16 rla, .slice rca rcn rcc, .int .i64 120, .int .i64 4, .slice tfa tfn tfc, .int .u16 tav, .int .u16 tla, .slice tca tcn tcc, .int .i64 300, .int .i64 i0, .int .i64 i1, .int .i64 i2, .int .i64 i3, .int .i64 o0, .int .i64 o1, .int .i64 o2, .int .i64 o3], .int .i64 7]) ∧ Mem w0 w' L R := by
 have HN := Lib.hid hn
 have HM := Lib.hid hm
 have HUS := Lib.hid hus
 have HLA := Lib.hid hla
 obtain ⟨r, hi⟩ : ∃ r, idxF (· == 0 + 1) [o0, o1, o2, o3] = r := ⟨_, rfl⟩
 have HI := Lib.hid hi
 clear hn hm hus hla hi
 go_enter Tryz.func15, Tryz.ntmps15
 go_wp2_with (first
   | ((with_reducible refine at_box (T := 26) (dst := some 2) ?_); refine wl_newb rfl #[.slice (some ⟨vb, 0, none⟩) 1900 vc] 26 (fun _ => rfl) ?_; intro b_2 w2 hm2; replace hv := hv.madeAt hm2; clear hm2)
   | ((with_reducible refine at_box (T := 33) (dst := some 3) ?_); refine wl_newb rfl #[.int .i64 0, .int .i64 4, .slice rfa rfn rfc, .int .u16 rav, .int .u16 rla, .slice rca rcn rcc, .int .i64 120, .int .i64 4, .slice tfa tfn tfc, .int .u16 tav, .int .u16 tla, .slice tca tcn tcc, .int .i64 300, .int .i64 i0, .int .i64 i1, .int .i64 i2, .int .i64 i3, .int .i64 o0, .int .i64 o1, .int .i64 o2, .int .i64 o3] 33 (fun _ => rfl) ?_; intro b_3 w2 hm2; replace hv := hv.madeAt hm2; clear hm2)
   | ((with_reducible refine at_alloc (T := 33) (dst := some 4) ?_); refine wl_newb rfl #[.int .i64 0, .int .i64 0, .slice none 0 0, .int .u16 0, .int .u16 0, .slice none 0 0, .int .i64 0, .int .i64 0, .slice none 0 0, .int .u16 0, .int .u16 0, .slice none 0 0, .int .i64 0, .int .i64 0, .int .i64 0, .int .i64 0, .int .i64 0, .int .i64 0, .int .i64 0, .int .i64 0, .int .i64 0] 33 (fun _ => rfl) ?_; intro b_4 w2 hm2; replace hv := hv.madeAt hm2; clear hm2)
   | ((with_reducible refine at_load (T := 33) ?_); refine wl_ldv rfl b_3 rfl _ hv.vars.ro 21 _ Tryz.underlying33 rfl infoN (by decide) rfl ?_)
   | (go_at_call 12; (with_reducible refine (NCheck_ok hv HN.out).mono ?_); rintro e w1 ⟨rfl, hn1⟩; replace hv := hv.new hn1; clear hn1)
   | ((with_reducible refine at_load (T := 26) ?_); refine wl_ldv rfl b_2 rfl _ hv.vars.ro 1 _ Tryz.underlying26 rfl infoM (by decide) rfl ?_)
   | ((with_reducible refine at_load (T := 30) ?_); refine wl_ldp rfl b_3 6 rfl _ hv.vars.ro 6 _ Tryz.underlying30 rfl infoQ (by decide) (by show 6 + 6 ≤ 21; decide) #[.int .i64 120, .int .i64 4, .slice tfa tfn tfc, .int .u16 tav, .int .u16 tla, .slice tca tcn tcc] rfl ?_)
   | (go_at_call 32; (with_reducible refine (Poll_tn hv HM.out HN.out.tq HN.out.to HUS.out HLA.out).mono ?_); rintro e w1 ⟨rfl, hn1⟩; replace hv := hv.new hn1; clear hn1)
   | ((with_reducible refine at_alloc (T := 30) (dst := some 6) ?_); refine wl_newb rfl #[.int .i64 0, .int .i64 0, .slice none 0 0, .int .u16 0, .int .u16 0, .slice none 0 0] 30 (fun _ => rfl) ?_; intro b_6 w2 hm2; replace hv := hv.madeAt hm2; clear hm2)
   | ((with_reducible refine at_store (T := 30) ?_); refine wl_stv rfl b_6 rfl _ rfl _ hv.vars.ro hv.vars.so 6 infoQ rfl rfl (by simp [Value.oneCell']) ?_; intro w2 hw2; replace hv := hv.sets (by repeat first | exact .z | apply SetM.s) hw2; clear hw2)
   | ((with_reducible refine at_load (T := 30) ?_); refine wl_ldv rfl b_6 rfl _ hv.vars.ro 6 _ Tryz.underlying30 rfl infoQ (by decide) rfl ?_)
   | ((with_reducible refine at_store (T := 30) ?_); refine wl_stp rfl b_3 6 rfl _ rfl _ hv.vars.ro hv.vars.so 6 infoQ rfl (by show 6 + 6 ≤ 21; decide) (by simp [Value.oneCell']) #[.int .i64 0, .int .i64 4, .slice rfa rfn rfc, .int .u16 rav, .int .u16 rla, .slice rca rcn rcc, .int .i64 120, .int .i64 4, .slice tfa tfn tfc, .int .u16 tav, .int .u16 tla, .slice tca tcn tcc, .int .i64 300, .int .i64 i0, .int .i64 i1, .int .i64 i2, .int .i64 i3, .int .i64 o0, .int .i64 o1, .int .i64 o2, .int .i64 o3] (splice_21_6_6 _ _ _ _ _ _ _ _ _ _ _ _ _ _ _ _ _ _ _ _ _ _ _ _ _ _ _) ?_; intro w2 hw2; replace hv := hv.sets (by repeat first | exact .z | apply SetM.s) hw2; clear hw2)
   | ((with_reducible refine at_load (T := 31) ?_); refine wl_ldp rfl b_3 17 rfl _ hv.vars.ro 4 _ Tryz.underlying31 rfl infoA4 (by decide) (by show 17 + 4 ≤ 21; decide) #[.int .i64 o0, .int .i64 o1, .int .i64 o2, .int .i64 o3] rfl ?_)
   | (go_at_call 33; (with_reducible refine (of_0 o0 o1 o2 o3 HN.out.ol _).mono ?_); rw [HI.out]; rintro e w1 ⟨rfl, hn1⟩; replace hv := hv.new hn1; clear hn1)
   | ((with_reducible refine at_store (T := 33) ?_); refine wl_stv rfl b_4 rfl _ rfl _ hv.vars.ro hv.vars.so 21 infoN rfl rfl (by simp [Value.oneCell']) ?_; intro w2 hw2; replace hv := hv.sets (by repeat first | exact .z | apply SetM.s) hw2; clear hw2))
 go_wp2
 try simp only [Exit.inBlock, Exit.then]
 refine ret_cell2 (v := .agg #[.int .i64 0, .int .i64 4, .slice rfa rfn rfc, .int .u16 rav, .int .u16 rla, .slice rca rcn rcc, .int .i64 120, .int .i64 4, .slice tfa tfn tfc, .int .u16 tav, .int .u16 tla, .slice tca tcn tcc, .int .i64 300, .int .i64 i0, .int .i64 i1, .int .i64 i2, .int .i64 i3, .int .i64 o0, .int .i64 o1, .int .i64 o2, .int .i64 o3]) (v1 := .int .i64 7) rfl rfl (read_row _ b_4 33 _ (hv.vars.ro (b := b_4)) 21 _ Tryz.underlying33 rfl infoN (by decide) rfl) rfl rfl ?_
 exact ⟨rfl, hv.keep (by exact List.sublist_append_right [_, _, _, _] L)⟩
theorem Reap_0 {w0 w : World} {L : List (Nat × Array Value)} {R : List (Nat × Value × List Value)} (hv : Mem w0 w L R) {rav rla rfn rfc rcn rcc tav tla tfn tfn1 tfc tcn tcn1 tcc vb vc us ah hd la1 : Nat} {rfa rca tfa tca : Option Addr} {rfree tfree : List Nat} {rchs rest : List Chn} {c0 : Chn} {i0 i1 i2 i3 o0 o1 o2 o3 : Nat} {M : List Nat} (hn : NetQ R (.slice rfa rfn rfc) (.slice rca rcn rcc) (.slice tfa tfn tfc) (.slice tca tcn tcc) rfree rchs tfree (c0 :: rest) [i0, i1, i2, i3] [o0, o1, o2, o3]) (hm : InM R vb 0 1900 vc M) (hus : getN M (120 + (backN 4 + 2)) 2 = us) (hah : (us + 65536 - tla) % 65536 = ah) (hla : tla + 1 < 65536) (hah0 : ah ≠ 0) (hah4 : ah ≤ tcn) (hid : getN M (120 + (backN 4 + (4 + 8 * (tla % 4)))) 4 = hd) (hlen : getN M (120 + (backN 4 + (4 + 8 * (tla % 4))) + 4) 4 = 0) (hch : c0.h = hd) (hcd : c0.ds = [hd]) (h0 : tfn + 1 = tfn1) (h1 : tcn = tcn1 + 1) (hla1 : tla + 1 = la1) (hhd : hd ≤ 1000) (hi : idxF (· == hd + 1) [o0, o1, o2, o3] = 0) :
   Calls Tryz.prog 15 #[.agg #[.slice (some ⟨vb, 0, none⟩) 1900 vc], .agg #[.int .i64 0, .int .i64 4, .slice rfa rfn rfc, .int .u16 rav, .int .u16 rla, .slice rca rcn rcc, .int .i64 120, .int .i64 4, .slice tfa tfn tfc, .int .u16 tav, .int .u16 tla, .slice tca tcn tcc, .int .i64 300, .int .i64 i0, .int .i64 i1, .int .i64 i2, .int .i64 i3, .int .i64 o0, .int .i64 o1, .int .i64 o2, .int .i64 o3]] w fun e w' => ∃ fc3 cc3 fa3 ca3 free3 R3, e = .returned (.tuple #[.agg #[.int .i64 0, .int .i64 4, .slice rfa rfn rfc, .int .u16 rav, .int .u16 rla, .slice rca rcn rcc, .int .i64 120, .int .i64 4, .slice fa3 tfn1 fc3, .int .u16 tav, .int .u16 la1, .slice ca3 tcn1 cc3, .int .i64 300, .int .i64 i0, .int .i64 i1, .int .i64 i2, .int .i64 i3, .int .i64 0, .int .i64 o1, .int .i64 o2, .int .i64 o3], .int .i64 0]) ∧ Mem w0 w' L R3 ∧ InQ R3 (.slice fa3 tfn1 fc3) (.slice ca3 tcn1 cc3) free3 rest ∧ OkQ 4 free3 rest ∧ free3.Perm (tfree ++ [hd]) ∧ ∀ x ∈ R, x ∈ R3 := by
 have HN := Lib.hid hn
 have HM := Lib.hid hm
 have HUS := Lib.hid hus
 have HAH := Lib.hid hah
 have HLA := Lib.hid hla
 have HAH0 := Lib.hid hah0
 have HAH4 := Lib.hid hah4
 have HID := Lib.hid hid
 have HLEN := Lib.hid hlen
 have HCH := Lib.hid hch
 have HCD := Lib.hid hcd
 have H0 := Lib.hid h0
 have H1 := Lib.hid h1
 have HLA1 := Lib.hid hla1
 have HH1 := Lib.hid hhd
 have HI := Lib.hid hi
 clear hn hm hus hah hla hah0 hah4 hid hlen hch hcd h0 h1 hla1 hhd hi
 go_enter Tryz.func15, Tryz.ntmps15
 go_wp2_with (first
   | ((with_reducible refine at_box (T := 26) (dst := some 2) ?_); refine wl_newb rfl #[.slice (some ⟨vb, 0, none⟩) 1900 vc] 26 (fun _ => rfl) ?_; intro b_2 w2 hm2; replace hv := hv.madeAt hm2; clear hm2)
   | ((with_reducible refine at_box (T := 33) (dst := some 3) ?_); refine wl_newb rfl #[.int .i64 0, .int .i64 4, .slice rfa rfn rfc, .int .u16 rav, .int .u16 rla, .slice rca rcn rcc, .int .i64 120, .int .i64 4, .slice tfa tfn tfc, .int .u16 tav, .int .u16 tla, .slice tca tcn tcc, .int .i64 300, .int .i64 i0, .int .i64 i1, .int .i64 i2, .int .i64 i3, .int .i64 o0, .int .i64 o1, .int .i64 o2, .int .i64 o3] 33 (fun _ => rfl) ?_; intro b_3 w2 hm2; replace hv := hv.madeAt hm2; clear hm2)
   | ((with_reducible refine at_alloc (T := 33) (dst := some 4) ?_); refine wl_newb rfl #[.int .i64 0, .int .i64 0, .slice none 0 0, .int .u16 0, .int .u16 0, .slice none 0 0, .int .i64 0, .int .i64 0, .slice none 0 0, .int .u16 0, .int .u16 0, .slice none 0 0, .int .i64 0, .int .i64 0, .int .i64 0, .int .i64 0, .int .i64 0, .int .i64 0, .int .i64 0, .int .i64 0, .int .i64 0] 33 (fun _ => rfl) ?_; intro b_4 w2 hm2; replace hv := hv.madeAt hm2; clear hm2)
   | ((with_reducible refine at_load (T := 33) ?_); refine wl_ldv rfl b_3 rfl _ hv.vars.ro 21 _ Tryz.underlying33 rfl infoN (by decide) rfl ?_)
   | (go_at_call 12; (with_reducible refine (NCheck_ok hv HN.out).mono ?_); rintro e w1 ⟨rfl, hn1⟩; replace hv := hv.new hn1; clear hn1)
   | ((with_reducible refine at_load (T := 26) ?_); refine wl_ldv rfl b_2 rfl _ hv.vars.ro 1 _ Tryz.underlying26 rfl infoM (by decide) rfl ?_)
   | ((with_reducible refine at_load (T := 30) ?_); refine wl_ldp rfl b_3 6 rfl _ hv.vars.ro 6 _ Tryz.underlying30 rfl infoQ (by decide) (by show 6 + 6 ≤ 21; decide) #[.int .i64 120, .int .i64 4, .slice tfa tfn tfc, .int .u16 tav, .int .u16 tla, .slice tca tcn tcc] rfl ?_)
   | (go_at_call 32; (with_reducible refine (Poll_t hv HN.out.tq HN.out.to HM.out HUS.out HAH.out HLA.out HAH0.out HAH4.out HID.out HLEN.out HCH.out HCD.out H0.out H1.out HLA1.out).mono ?_); rintro e w1 ⟨fc3, cc3, fa3, ca3, free3, R3, rfl, hv1, hq3, ho3, hp3, hs3⟩; replace hv := hv1; have HQ3 := Lib.hid hq3; have HO3 := Lib.hid ho3; have HP3 := Lib.hid hp3; have HS3 := Lib.hid hs3; clear hv1 hq3 ho3 hp3 hs3)
   | ((with_reducible refine at_alloc (T := 30) (dst := some 6) ?_); refine wl_newb rfl #[.int .i64 0, .int .i64 0, .slice none 0 0, .int .u16 0, .int .u16 0, .slice none 0 0] 30 (fun _ => rfl) ?_; intro b_6 w2 hm2; replace hv := hv.madeAt hm2; clear hm2)
   | ((with_reducible refine at_store (T := 30) ?_); refine wl_stv rfl b_6 rfl _ rfl _ hv.vars.ro hv.vars.so 6 infoQ rfl rfl (by simp [Value.oneCell']) ?_; intro w2 hw2; replace hv := hv.sets (by repeat first | exact .z | apply SetM.s) hw2; clear hw2)
   | ((with_reducible refine at_load (T := 30) ?_); refine wl_ldv rfl b_6 rfl _ hv.vars.ro 6 _ Tryz.underlying30 rfl infoQ (by decide) rfl ?_)
   | ((with_reducible refine at_store (T := 30) ?_); refine wl_stp rfl b_3 6 rfl _ rfl _ hv.vars.ro hv.vars.so 6 infoQ rfl (by show 6 + 6 ≤ 21; decide) (by simp [Value.oneCell']) #[.int .i64 0, .int .i64 4, .slice rfa rfn rfc, .int .u16 rav, .int .u16 rla, .slice rca rcn rcc, .int .i64 120, .int .i64 4, .slice fa3 tfn1 fc3, .int .u16 tav, .int .u16 la1, .slice ca3 tcn1 cc3, .int .i64 300, .int .i64 i0, .int .i64 i1, .int .i64 i2, .int .i64 i3, .int .i64 o0, .int .i64 o1, .int .i64 o2, .int .i64 o3] (splice_21_6_6 _ _ _ _ _ _ _ _ _ _ _ _ _ _ _ _ _ _ _ _ _ _ _ _ _ _ _) ?_; intro w2 hw2; replace hv := hv.sets (by repeat first | exact .z | apply SetM.s) hw2; clear hw2)
   | ((with_reducible refine at_load (T := 31) ?_); refine wl_ldp rfl b_3 17 rfl _ hv.vars.ro 4 _ Tryz.underlying31 rfl infoA4 (by decide) (by show 17 + 4 ≤ 21; decide) #[.int .i64 o0, .int .i64 o1, .int .i64 o2, .int .i64 o3] rfl ?_)
   | (go_at_call 33; (with_reducible refine (of_any o0 o1 o2 o3 hd HN.out.ol HH1.out _).mono ?_); rw [HI.out]; rintro e w1 ⟨rfl, hn1⟩; replace hv := hv.new hn1; clear hn1)
   | ((with_reducible refine at_store (T := 3) ?_); refine wl_stc rfl b_3 17 rfl (.int .i64 0) rfl _ hv.vars.ro hv.vars.so (by kernel_rfl) rfl (by show 17 < 21; decide) ?_; intro w2 hw2; replace hv := hv.sets (by repeat first | exact .z | apply SetM.s) hw2; clear hw2; simp only [sia, scs, scz] at hv)
   | ((with_reducible refine at_store (T := 33) ?_); refine wl_stv rfl b_4 rfl _ rfl _ hv.vars.ro hv.vars.so 21 infoN rfl rfl (by simp [Value.oneCell']) ?_; intro w2 hw2; replace hv := hv.sets (by repeat first | exact .z | apply SetM.s) hw2; clear hw2))
 go_wp2
 try simp only [Exit.inBlock, Exit.then]
 refine ret_cell2 (v := .agg #[.int .i64 0, .int .i64 4, .slice rfa rfn rfc, .int .u16 rav, .int .u16 rla, .slice rca rcn rcc, .int .i64 120, .int .i64 4, .slice fa3 tfn1 fc3, .int .u16 tav, .int .u16 la1, .slice ca3 tcn1 cc3, .int .i64 300, .int .i64 i0, .int .i64 i1, .int .i64 i2, .int .i64 i3, .int .i64 0, .int .i64 o1, .int .i64 o2, .int .i64 o3]) (v1 := .int .i64 0) rfl rfl (read_row _ b_4 33 _ (hv.vars.ro (b := b_4)) 21 _ Tryz.underlying33 rfl infoN (by decide) rfl) rfl rfl ?_
 exact ⟨fc3, cc3, fa3, ca3, free3, R3, rfl, hv.keep (by exact List.sublist_append_right [_, _, _, _] L), HQ3.out, HO3.out, HP3.out, HS3.out⟩
theorem Reap_1 {w0 w : World} {L : List (Nat × Array Value)} {R : List (Nat × Value × List Value)} (hv : Mem w0 w L R) {rav rla rfn rfc rcn rcc tav tla tfn tfn1 tfc tcn tcn1 tcc vb vc us ah hd la1 : Nat} {rfa rca tfa tca : Option Addr} {rfree tfree : List Nat} {rchs rest : List Chn} {c0 : Chn} {i0 i1 i2 i3 o0 o1 o2 o3 : Nat} {M : List Nat} (hn : NetQ R (.slice rfa rfn rfc) (.slice rca rcn rcc) (.slice tfa tfn tfc) (.slice tca tcn tcc) rfree rchs tfree (c0 :: rest) [i0, i1, i2, i3] [o0, o1, o2, o3]) (hm : InM R vb 0 1900 vc M) (hus : getN M (120 + (backN 4 + 2)) 2 = us) (hah : (us + 65536 - tla) % 65536 = ah) (hla : tla + 1 < 65536) (hah0 : ah ≠ 0) (hah4 : ah ≤ tcn) (hid : getN M (120 + (backN 4 + (4 + 8 * (tla % 4)))) 4 = hd) (hlen : getN M (120 + (backN 4 + (4 + 8 * (tla % 4))) + 4) 4 = 0) (hch : c0.h = hd) (hcd : c0.ds = [hd]) (h0 : tfn + 1 = tfn1) (h1 : tcn = tcn1 + 1) (hla1 : tla + 1 = la1) (hhd : hd ≤ 1000) (hi : idxF (· == hd + 1) [o0, o1, o2, o3] = 1) :
   Calls Tryz.prog 15 #[.agg #[.slice (some ⟨vb, 0, none⟩) 1900 vc], .agg #[.int .i64 0, .int .i64 4, .slice rfa rfn rfc, .int .u16 rav, .int .u16 rla, .slice rca rcn rcc, .int .i64 120, .int .i64 4, .slice tfa tfn tfc, .int .u16 tav, .int .u16 tla, .slice tca tcn tcc, .int .i64 300, .int .i64 i0, .int .i64 i1, .int .i64 i2, .int .i64 i3, .int .i64 o0, .int .i64 o1, .int .i64 o2, .int .i64 o3]] w fun e w' => ∃ fc3 cc3 fa3 ca3 free3 R3, e = .returned (.tuple #[.agg #[.int .i64 0, .int .i64 4, .slice rfa rfn rfc, .int .u16 rav, .int .u16 rla, .slice rca rcn rcc, .int .i64 120, .int .i64 4, .slice fa3 tfn1 fc3, .int .u16 tav, .int .u16 la1, .slice ca3 tcn1 cc3, .int .i64 300, .int .i64 i0, .int .i64 i1, .int .i64 i2, .int .i64 i3, .int .i64 o0, .int .i64 0, .int .i64 o2, .int .i64 o3], .int .i64 0]) ∧ Mem w0 w' L R3 ∧ InQ R3 (.slice fa3 tfn1 fc3) (.slice ca3 tcn1 cc3) free3 rest ∧ OkQ 4 free3 rest ∧ free3.Perm (tfree ++ [hd]) ∧ ∀ x ∈ R, x ∈ R3 := by
 have HN := Lib.hid hn
 have HM := Lib.hid hm
 have HUS := Lib.hid hus
 have HAH := Lib.hid hah
 have HLA := Lib.hid hla
 have HAH0 := Lib.hid hah0
 have HAH4 := Lib.hid hah4
 have HID := Lib.hid hid
 have HLEN := Lib.hid hlen
 have HCH := Lib.hid hch
 have HCD := Lib.hid hcd
 have H0 := Lib.hid h0
 have H1 := Lib.hid h1
 have HLA1 := Lib.hid hla1
 have HH1 := Lib.hid hhd
 have HI := Lib.hid hi
 clear hn hm hus hah hla hah0 hah4 hid hlen hch hcd h0 h1 hla1 hhd hi
 go_enter Tryz.func15, Tryz.ntmps15
 go_wp2_with (first
   | ((with_reducible refine at_box (T := 26) (dst := some 2) ?_); refine wl_newb rfl #[.slice (some ⟨vb, 0, none⟩) 1900 vc] 26 (fun _ => rfl) ?_; intro b_2 w2 hm2; replace hv := hv.madeAt hm2; clear hm2)
   | ((with_reducible refine at_box (T := 33) (dst := some 3) ?_); refine wl_newb rfl #[.int .i64 0, .int .i64 4, .slice rfa rfn rfc, .int .u16 rav, .int .u16 rla, .slice rca rcn rcc, .int .i64 120, .int .i64 4, .slice tfa tfn tfc, .int .u16 tav, .int .u16 tla, .slice tca tcn tcc, .int .i64 300, .int .i64 i0, .int .i64 i1, .int .i64 i2, .int .i64 i3, .int .i64 o0, .int .i64 o1, .int .i64 o2, .int .i64 o3] 33 (fun _ => rfl) ?_; intro b_3 w2 hm2; replace hv := hv.madeAt hm2; clear hm2)
   | ((with_reducible refine at_alloc (T := 33) (dst := some 4) ?_); refine wl_newb rfl #[.int .i64 0, .int .i64 0, .slice none 0 0, .int .u16 0, .int .u16 0, .slice none 0 0, .int .i64 0, .int .i64 0, .slice none 0 0, .int .u16 0, .int .u16 0, .slice none 0 0, .int .i64 0, .int .i64 0, .int .i64 0, .int .i64 0, .int .i64 0, .int .i64 0, .int .i64 0, .int .i64 0, .int .i64 0] 33 (fun _ => rfl) ?_; intro b_4 w2 hm2; replace hv := hv.madeAt hm2; clear hm2)
   | ((with_reducible refine at_load (T := 33) ?_); refine wl_ldv rfl b_3 rfl _ hv.vars.ro 21 _ Tryz.underlying33 rfl infoN (by decide) rfl ?_)
   | (go_at_call 12; (with_reducible refine (NCheck_ok hv HN.out).mono ?_); rintro e w1 ⟨rfl, hn1⟩; replace hv := hv.new hn1; clear hn1)
   | ((with_reducible refine at_load (T := 26) ?_); refine wl_ldv rfl b_2 rfl _ hv.vars.ro 1 _ Tryz.underlying26 rfl infoM (by decide) rfl ?_)
   | ((with_reducible refine at_load (T := 30) ?_); refine wl_ldp rfl b_3 6 rfl _ hv.vars.ro 6 _ Tryz.underlying30 rfl infoQ (by decide) (by show 6 + 6 ≤ 21; decide) #[.int .i64 120, .int .i64 4, .slice tfa tfn tfc, .int .u16 tav, .int .u16 tla, .slice tca tcn tcc] rfl ?_)
   | (go_at_call 32; (with_reducible refine (Poll_t hv HN.out.tq HN.out.to HM.out HUS.out HAH.out HLA.out HAH0.out HAH4.out HID.out HLEN.out HCH.out HCD.out H0.out H1.out HLA1.out).mono ?_); rintro e w1 ⟨fc3, cc3, fa3, ca3, free3, R3, rfl, hv1, hq3, ho3, hp3, hs3⟩; replace hv := hv1; have HQ3 := Lib.hid hq3; have HO3 := Lib.hid ho3; have HP3 := Lib.hid hp3; have HS3 := Lib.hid hs3; clear hv1 hq3 ho3 hp3 hs3)
   | ((with_reducible refine at_alloc (T := 30) (dst := some 6) ?_); refine wl_newb rfl #[.int .i64 0, .int .i64 0, .slice none 0 0, .int .u16 0, .int .u16 0, .slice none 0 0] 30 (fun _ => rfl) ?_; intro b_6 w2 hm2; replace hv := hv.madeAt hm2; clear hm2)
   | ((with_reducible refine at_store (T := 30) ?_); refine wl_stv rfl b_6 rfl _ rfl _ hv.vars.ro hv.vars.so 6 infoQ rfl rfl (by simp [Value.oneCell']) ?_; intro w2 hw2; replace hv := hv.sets (by repeat first | exact .z | apply SetM.s) hw2; clear hw2)
   | ((with_reducible refine at_load (T := 30) ?_); refine wl_ldv rfl b_6 rfl _ hv.vars.ro 6 _ Tryz.underlying30 rfl infoQ (by decide) rfl ?_)
   | ((with_reducible refine at_store (T := 30) ?_); refine wl_stp rfl b_3 6 rfl _ rfl _ hv.vars.ro hv.vars.so 6 infoQ rfl (by show 6 + 6 ≤ 21; decide) (by simp [Value.oneCell']) #[.int .i64 0, .int .i64 4, .slice rfa rfn rfc, .int .u16 rav, .int .u16 rla, .slice rca rcn rcc, .int .i64 120, .int .i64 4, .slice fa3 tfn1 fc3, .int .u16 tav, .int .u16 la1, .slice ca3 tcn1 cc3, .int .i64 300, .int .i64 i0, .int .i64 i1, .int .i64 i2, .int .i64 i3, .int .i64 o0, .int .i64 o1, .int .i64 o2, .int .i64 o3] (splice_21_6_6 _ _ _ _ _ _ _ _ _ _ _ _ _ _ _ _ _ _ _ _ _ _ _ _ _ _ _) ?_; intro w2 hw2; replace hv := hv.sets (by repeat first | exact .z | apply SetM.s) hw2; clear hw2)
   | ((with_reducible refine at_load (T := 31) ?_); refine wl_ldp rfl b_3 17 rfl _ hv.vars.ro 4 _ Tryz.underlying31 rfl infoA4 (by decide) (by show 17 + 4 ≤ 21; decide) #[.int .i64 o0, .int .i64 o1, .int .i64 o2, .int .i64 o3] rfl ?_)
   | (go_at_call 33; (with_reducible refine (of_any o0 o1 o2 o3 hd HN.out.ol HH1.out _).mono ?_); rw [HI.out]; rintro e w1 ⟨rfl, hn1⟩; replace hv := hv.new hn1; clear hn1)
   | ((with_reducible refine at_store (T := 3) ?_); refine wl_stc rfl b_3 18 rfl (.int .i64 0) rfl _ hv.vars.ro hv.vars.so (by kernel_rfl) rfl (by show 18 < 21; decide) ?_; intro w2 hw2; replace hv := hv.sets (by repeat first | exact .z | apply SetM.s) hw2; clear hw2; simp only [sia, scs, scz] at hv)
   | ((with_reducible refine at_store (T := 33) ?_); refine wl_stv rfl b_4 rfl _ rfl _ hv.vars.ro hv.vars.so 21 infoN rfl rfl (by simp [Value.oneCell']) ?_; intro w2 hw2; replace hv := hv.sets (by repeat first | exact .z | apply SetM.s) hw2; clear hw2))
 go_wp2
 try simp only [Exit.inBlock, Exit.then]
 refine ret_cell2 (v := .agg #[.int .i64 0, .int .i64 4, .slice rfa rfn rfc, .int .u16 rav, .int .u16 rla, .slice rca rcn rcc, .int .i64 120, .int .i64 4, .slice fa3 tfn1 fc3, .int .u16 tav, .int .u16 la1, .slice ca3 tcn1 cc3, .int .i64 300, .int .i64 i0, .int .i64 i1, .int .i64 i2, .int .i64 i3, .int .i64 o0, .int .i64 0, .int .i64 o2, .int .i64 o3]) (v1 := .int .i64 0) rfl rfl (read_row _ b_4 33 _ (hv.vars.ro (b := b_4)) 21 _ Tryz.underlying33 rfl infoN (by decide) rfl) rfl rfl ?_
 exact ⟨fc3, cc3, fa3, ca3, free3, R3, rfl, hv.keep (by exact List.sublist_append_right [_, _, _, _] L), HQ3.out, HO3.out, HP3.out, HS3.out⟩
theorem Reap_2 {w0 w : World} {L : List (Nat × Array Value)} {R : List (Nat × Value × List Value)} (hv : Mem w0 w L R) {rav rla rfn rfc rcn rcc tav tla tfn tfn1 tfc tcn tcn1 tcc vb vc us ah hd la1 : Nat} {rfa rca tfa tca : Option Addr} {rfree tfree : List Nat} {rchs rest : List Chn} {c0 : Chn} {i0 i1 i2 i3 o0 o1 o2 o3 : Nat} {M : List Nat} (hn : NetQ R (.slice rfa rfn rfc) (.slice rca rcn rcc) (.slice tfa tfn tfc) (.slice tca tcn tcc) rfree rchs tfree (c0 :: rest) [i0, i1, i2, i3] [o0, o1, o2, o3]) (hm : InM R vb 0 1900 vc M) (hus : getN M (120 + (backN 4 + 2)) 2 = us) (hah : (us + 65536 - tla) % 65536 = ah) (hla : tla + 1 < 65536) (hah0 : ah ≠ 0) (hah4 : ah ≤ tcn) (hid : getN M (120 + (backN 4 + (4 + 8 * (tla % 4)))) 4 = hd) (hlen : getN M (120 + (backN 4 + (4 + 8 * (tla % 4))) + 4) 4 = 0) (hch : c0.h = hd) (hcd : c0.ds = [hd]) (h0 : tfn + 1 = tfn1) (h1 : tcn = tcn1 + 1) (hla1 : tla + 1 = la1) (hhd : hd ≤ 1000) (hi : idxF (· == hd + 1) [o0, o1, o2, o3] = 2) :
   Calls Tryz.prog 15 #[.agg #[.slice (some ⟨vb, 0, none⟩) 1900 vc], .agg #[.int .i64 0, .int .i64 4, .slice rfa rfn rfc, .int .u16 rav, .int .u16 rla, .slice rca rcn rcc, .int .i64 120, .int .i64 4, .slice tfa tfn tfc, .int .u16 tav, .int .u16 tla, .slice tca tcn tcc, .int .i64 300, .int .i64 i0, .int .i64 i1, .int .i64 i2, .int .i64 i3, .int .i64 o0, .int .i64 o1, .int .i64 o2, .int .i64 o3]] w fun e w' => ∃ fc3 cc3 fa3 ca3 free3 R3, e = .returned (.tuple #[.agg #[.int .i64 0, .int .i64 4, .slice rfa rfn rfc, .int .u16 rav, .int .u16 rla, .slice rca rcn rcc, .int .i64 120, .int .i64 4, .slice fa3 tfn1 fc3, .int .u16 tav, .int .u16 la1, .slice ca3 tcn1 cc3, .int .i64 300, .int .i64 i0, .int .i64 i1, .int .i64 i2, .int .i64 i3, .int .i64 o0, .int .i64 o1, .int .i64 0, .int .i64 o3], .int .i64 0]) ∧ Mem w0 w' L R3 ∧ InQ R3 (.slice fa3 tfn1 fc3) (.slice ca3 tcn1 cc3) free3 rest ∧ OkQ 4 free3 rest ∧ free3.Perm (tfree ++ [hd]) ∧ ∀ x ∈ R, x ∈ R3 := by
 have HN := Lib.hid hn
 have HM := Lib.hid hm
 have HUS := Lib.hid hus
 have HAH := Lib.hid hah
 have HLA := Lib.hid hla
 have HAH0 := Lib.hid hah0
 have HAH4 := Lib.hid hah4
 have HID := Lib.hid hid
 have HLEN := Lib.hid hlen
 have HCH := Lib.hid hch
 have HCD := Lib.hid hcd
 have H0 := Lib.hid h0
 have H1 := Lib.hid h1
 have HLA1 := Lib.hid hla1
 have HH1 := Lib.hid hhd
 have HI := Lib.hid hi
 clear hn hm hus hah hla hah0 hah4 hid hlen hch hcd h0 h1 hla1 hhd hi
 go_enter Tryz.func15, Tryz.ntmps15
 go_wp2_with (first
   | ((with_reducible refine at_box (T := 26) (dst := some 2) ?_); refine wl_newb rfl #[.slice (some ⟨vb, 0, none⟩) 1900 vc] 26 (fun _ => rfl) ?_; intro b_2 w2 hm2; replace hv := hv.madeAt hm2; clear hm2)
   | ((with_reducible refine at_box (T := 33) (dst := some 3) ?_); refine wl_newb rfl #[.int .i64 0, .int .i64 4, .slice rfa rfn rfc, .int .u16 rav, .int .u16 rla, .slice rca rcn rcc, .int .i64 120, .int .i64 4, .slice tfa tfn tfc, .int .u16 tav, .int .u16 tla, .slice tca tcn tcc, .int .i64 300, .int .i64 i0, .int .i64 i1, .int .i64 i2, .int .i64 i3, .int .i64 o0, .int .i64 o1, .int .i64 o2, .int .i64 o3] 33 (fun _ => rfl) ?_; intro b_3 w2 hm2; replace hv := hv.madeAt hm2; clear hm2)
   | ((with_reducible refine at_alloc (T := 33) (dst := some 4) ?_); refine wl_newb rfl #[.int .i64 0, .int .i64 0, .slice none 0 0, .int .u16 0, .int .u16 0, .slice none 0 0, .int .i64 0, .int .i64 0, .slice none 0 0, .int .u16 0, .int .u16 0, .slice none 0 0, .int .i64 0, .int .i64 0, .int .i64 0, .int .i64 0, .int .i64 0, .int .i64 0, .int .i64 0, .int .i64 0, .int .i64 0] 33 (fun _ => rfl) ?_; intro b_4 w2 hm2; replace hv := hv.madeAt hm2; clear hm2)
   | ((with_reducible refine at_load (T := 33) ?_); refine wl_ldv rfl b_3 rfl _ hv.vars.ro 21 _ Tryz.underlying33 rfl infoN (by decide) rfl ?_)
   | (go_at_call 12; (with_reducible refine (NCheck_ok hv HN.out).mono ?_); rintro e w1 ⟨rfl, hn1⟩; replace hv := hv.new hn1; clear hn1)
   | ((with_reducible refine at_load (T := 26) ?_); refine wl_ldv rfl b_2 rfl _ hv.vars.ro 1 _ Tryz.underlying26 rfl infoM (by decide) rfl ?_)
   | ((with_reducible refine at_load (T := 30) ?_); refine wl_ldp rfl b_3 6 rfl _ hv.vars.ro 6 _ Tryz.underlying30 rfl infoQ (by decide) (by show 6 + 6 ≤ 21; decide) #[.int .i64 120, .int .i64 4, .slice tfa tfn tfc, .int .u16 tav, .int .u16 tla, .slice tca tcn tcc] rfl ?_)
   | (go_at_call 32; (with_reducible refine (Poll_t hv HN.out.tq HN.out.to HM.out HUS.out HAH.out HLA.out HAH0.out HAH4.out HID.out HLEN.out HCH.out HCD.out H0.out H1.out HLA1.out).mono ?_); rintro e w1 ⟨fc3, cc3, fa3, ca3, free3, R3, rfl, hv1, hq3, ho3, hp3, hs3⟩; replace hv := hv1; have HQ3 := Lib.hid hq3; have HO3 := Lib.hid ho3; have HP3 := Lib.hid hp3; have HS3 := Lib.hid hs3; clear hv1 hq3 ho3 hp3 hs3)
   | ((with_reducible refine at_alloc (T := 30) (dst := some 6) ?_); refine wl_newb rfl #[.int .i64 0, .int .i64 0, .slice none 0 0, .int .u16 0, .int .u16 0, .slice none 0 0] 30 (fun _ => rfl) ?_; intro b_6 w2 hm2; replace hv := hv.madeAt hm2; clear hm2)
   | ((with_reducible refine at_store (T := 30) ?_); refine wl_stv rfl b_6 rfl _ rfl _ hv.vars.ro hv.vars.so 6 infoQ rfl rfl (by simp [Value.oneCell']) ?_; intro w2 hw2; replace hv := hv.sets (by repeat first | exact .z | apply SetM.s) hw2; clear hw2)
   | ((with_reducible refine at_load (T := 30) ?_); refine wl_ldv rfl b_6 rfl _ hv.vars.ro 6 _ Tryz.underlying30 rfl infoQ (by decide) rfl ?_)
   | ((with_reducible refine at_store (T := 30) ?_); refine wl_stp rfl b_3 6 rfl _ rfl _ hv.vars.ro hv.vars.so 6 infoQ rfl (by show 6 + 6 ≤ 21; decide) (by simp [Value.oneCell']) #[.int .i64 0, .int .i64 4, .slice rfa rfn rfc, .int .u16 rav, .int .u16 rla, .slice rca rcn rcc, .int .i64 120, .int .i64 4, .slice fa3 tfn1 fc3, .int .u16 tav, .int .u16 la1, .slice ca3 tcn1 cc3, .int .i64 300, .int .i64 i0, .int .i64 i1, .int .i64 i2, .int .i64 i3, .int .i64 o0, .int .i64 o1, .int .i64 o2, .int .i64 o3] (splice_21_6_6 _ _ _ _ _ _ _ _ _ _ _ _ _ _ _ _ _ _ _ _ _ _ _ _ _ _ _) ?_; intro w2 hw2; replace hv := hv.sets (by repeat first | exact .z | apply SetM.s) hw2; clear hw2)
   | ((with_reducible refine at_load (T := 31) ?_); refine wl_ldp rfl b_3 17 rfl _ hv.vars.ro 4 _ Tryz.underlying31 rfl infoA4 (by decide) (by show 17 + 4 ≤ 21; decide) #[.int .i64 o0, .int .i64 o1, .int .i64 o2, .int .i64 o3] rfl ?_)
   | (go_at_call 33; (with_reducible refine (of_any o0 o1 o2 o3 hd HN.out.ol HH1.out _).mono ?_); rw [HI.out]; rintro e w1 ⟨rfl, hn1⟩; replace hv := hv.new hn1; clear hn1)
   | ((with_reducible refine at_store (T := 3) ?_); refine wl_stc rfl b_3 19 rfl (.int .i64 0) rfl _ hv.vars.ro hv.vars.so (by kernel_rfl) rfl (by show 19 < 21; decide) ?_; intro w2 hw2; replace hv := hv.sets (by repeat first | exact .z | apply SetM.s) hw2; clear hw2; simp only [sia, scs, scz] at hv)
   | ((with_reducible refine at_store (T := 33) ?_); refine wl_stv rfl b_4 rfl _ rfl _ hv.vars.ro hv.vars.so 21 infoN rfl rfl (by simp [Value.oneCell']) ?_; intro w2 hw2; replace hv := hv.sets (by repeat first | exact .z | apply SetM.s) hw2; clear hw2))
 go_wp2
 try simp only [Exit.inBlock, Exit.then]
 refine ret_cell2 (v := .agg #[.int .i64 0, .int .i64 4, .slice rfa rfn rfc, .int .u16 rav, .int .u16 rla, .slice rca rcn rcc, .int .i64 120, .int .i64 4, .slice fa3 tfn1 fc3, .int .u16 tav, .int .u16 la1, .slice ca3 tcn1 cc3, .int .i64 300, .int .i64 i0, .int .i64 i1, .int .i64 i2, .int .i64 i3, .int .i64 o0, .int .i64 o1, .int .i64 0, .int .i64 o3]) (v1 := .int .i64 0) rfl rfl (read_row _ b_4 33 _ (hv.vars.ro (b := b_4)) 21 _ Tryz.underlying33 rfl infoN (by decide) rfl) rfl rfl ?_
 exact ⟨fc3, cc3, fa3, ca3, free3, R3, rfl, hv.keep (by exact List.sublist_append_right [_, _, _, _] L), HQ3.out, HO3.out, HP3.out, HS3.out⟩
theorem Reap_3 {w0 w : World} {L : List (Nat × Array Value)} {R : List (Nat × Value × List Value)} (hv : Mem w0 w L R) {rav rla rfn rfc rcn rcc tav tla tfn tfn1 tfc tcn tcn1 tcc vb vc us ah hd la1 : Nat} {rfa rca tfa tca : Option Addr} {rfree tfree : List Nat} {rchs rest : List Chn} {c0 : Chn} {i0 i1 i2 i3 o0 o1 o2 o3 : Nat} {M : List Nat} (hn : NetQ R (.slice rfa rfn rfc) (.slice rca rcn rcc) (.slice tfa tfn tfc) (.slice tca tcn tcc) rfree rchs tfree (c0 :: rest) [i0, i1, i2, i3] [o0, o1, o2, o3]) (hm : InM R vb 0 1900 vc M) (hus : getN M (120 + (backN 4 + 2)) 2 = us) (hah : (us + 65536 - tla) % 65536 = ah) (hla : tla + 1 < 65536) (hah0 : ah ≠ 0) (hah4 : ah ≤ tcn) (hid : getN M (120 + (backN 4 + (4 + 8 * (tla % 4)))) 4 = hd) (hlen : getN M (120 + (backN 4 + (4 + 8 * (tla % 4))) + 4) 4 = 0) (hch : c0.h = hd) (hcd : c0.ds = [hd]) (h0 : tfn + 1 = tfn1) (h1 : tcn = tcn1 + 1) (hla1 : tla + 1 = la1) (hhd : hd ≤ 1000) (hi : idxF (· == hd + 1) [o0, o1, o2, o3] = 3) :
   Calls Tryz.prog 15 #[.agg #[.slice (some ⟨vb, 0, none⟩) 1900 vc], .agg #[.int .i64 0, .int .i64 4, .slice rfa rfn rfc, .int .u16 rav, .int .u16 rla, .slice rca rcn rcc, .int .i64 120, .int .i64 4, .slice tfa tfn tfc, .int .u16 tav, .int .u16 tla, .slice tca tcn tcc, .int .i64 300, .int .i64 i0, .int .i64 i1, .int .i64 i2, .int .i64 i3, .int .i64 o0, .int .i64 o1, .int .i64 o2, .int .i64 o3]] w fun e w' => ∃ fc3 cc3 fa3 ca3 free3 R3, e = .returned (.tuple #[.agg #[.int .i64 0, .int .i64 4, .slice rfa rfn rfc, .int .u16 rav, .int .u16 rla, .slice rca rcn rcc, .int .i64 120, .int .i64 4, .slice fa3 tfn1 fc3, .int .u16 tav, .int .u16 la1, .slice ca3 tcn1 cc3, .int .i64 300, .int .i64 i0, .int .i64 i1, .int .i64 i2, .int .i64 i3, .int .i64 o0, .int .i64 o1, .int .i64 o2, .int .i64 0], .int .i64 0]) ∧ Mem w0 w' L R3 ∧ InQ R3 (.slice fa3 tfn1 fc3) (.slice ca3 tcn1 cc3) free3 rest ∧ OkQ 4 free3 rest ∧ free3.Perm (tfree ++ [hd]) ∧ ∀ x ∈ R, x ∈ R3 := by
 have HN := Lib.hid hn
 have HM := Lib.hid hm
 have HUS := Lib.hid hus
 have HAH := Lib.hid hah
 have HLA := Lib.hid hla
 have HAH0 := Lib.hid hah0
 have HAH4 := Lib.hid hah4
 have HID := Lib.hid hid
 have HLEN := Lib.hid hlen
 have HCH := Lib.hid hch
 have HCD := Lib.hid hcd
 have H0 := Lib.hid h0
 have H1 := Lib.hid h1
 have HLA1 := Lib.hid hla1
 have HH1 := Lib.hid hhd
 have HI := Lib.hid hi
 clear hn hm hus hah hla hah0 hah4 hid hlen hch hcd h0 h1 hla1 hhd hi
 go_enter Tryz.func15, Tryz.ntmps15
 go_wp2_with (first
   | ((with_reducible refine at_box (T := 26) (dst := some 2) ?_); refine wl_newb rfl #[.slice (some ⟨vb, 0, none⟩) 1900 vc] 26 (fun _ => rfl) ?_; intro b_2 w2 hm2; replace hv := hv.madeAt hm2; clear hm2)
   | ((with_reducible refine at_box (T := 33) (dst := some 3) ?_); refine wl_newb rfl #[.int .i64 0, .int .i64 4, .slice rfa rfn rfc, .int .u16 rav, .int .u16 rla, .slice rca rcn rcc, .int .i64 120, .int .i64 4, .slice tfa tfn tfc, .int .u16 tav, .int .u16 tla, .slice tca tcn tcc, .int .i64 300, .int .i64 i0, .int .i64 i1, .int .i64 i2, .int .i64 i3, .int .i64 o0, .int .i64 o1, .int .i64 o2, .int .i64 o3] 33 (fun _ => rfl) ?_; intro b_3 w2 hm2; replace hv := hv.madeAt hm2; clear hm2)
   | ((with_reducible refine at_alloc (T := 33) (dst := some 4) ?_); refine wl_newb rfl #[.int .i64 0, .int .i64 0, .slice none 0 0, .int .u16 0, .int .u16 0, .slice none 0 0, .int .i64 0, .int .i64 0, .slice none 0 0, .int .u16 0, .int .u16 0, .slice none 0 0, .int .i64 0, .int .i64 0, .int .i64 0, .int .i64 0, .int .i64 0, .int .i64 0, .int .i64 0, .int .i64 0, .int .i64 0] 33 (fun _ => rfl) ?_; intro b_4 w2 hm2; replace hv := hv.madeAt hm2; clear hm2)
   | ((with_reducible refine at_load (T := 33) ?_); refine wl_ldv rfl b_3 rfl _ hv.vars.ro 21 _ Tryz.underlying33 rfl infoN (by decide) rfl ?_)
   | (go_at_call 12; (with_reducible refine (NCheck_ok hv HN.out).mono ?_); rintro e w1 ⟨rfl, hn1⟩; replace hv := hv.new hn1; clear hn1)
   | ((with_reducible refine at_load (T := 26) ?_); refine wl_ldv rfl b_2 rfl _ hv.vars.ro 1 _ Tryz.underlying26 rfl infoM (by decide) rfl ?_)
   | ((with_reducible refine at_load (T := 30) ?_); refine wl_ldp rfl b_3 6 rfl _ hv.vars.ro 6 _ Tryz.underlying30 rfl infoQ (by decide) (by show 6 + 6 ≤ 21; decide) #[.int .i64 120, .int .i64 4, .slice tfa tfn tfc, .int .u16 tav, .int .u16 tla, .slice tca tcn tcc] rfl ?_)
   | (go_at_call 32; (with_reducible refine (Poll_t hv HN.out.tq HN.out.to HM.out HUS.out HAH.out HLA.out HAH0.out HAH4.out HID.out HLEN.out HCH.out HCD.out H0.out H1.out HLA1.out).mono ?_); rintro e w1 ⟨fc3, cc3, fa3, ca3, free3, R3, rfl, hv1, hq3, ho3, hp3, hs3⟩; replace hv := hv1; have HQ3 := Lib.hid hq3; have HO3 := Lib.hid ho3; have HP3 := Lib.hid hp3; have HS3 := Lib.hid hs3; clear hv1 hq3 ho3 hp3 hs3)
   | ((with_reducible refine at_alloc (T := 30) (dst := some 6) ?_); refine wl_newb rfl #[.int .i64 0, .int .i64 0, .slice none 0 0, .int .u16 0, .int .u16 0, .slice none 0 0] 30 (fun _ => rfl) ?_; intro b_6 w2 hm2; replace hv := hv.madeAt hm2; clear hm2)
   | ((with_reducible refine at_store (T := 30) ?_); refine wl_stv rfl b_6 rfl _ rfl _ hv.vars.ro hv.vars.so 6 infoQ rfl rfl (by simp [Value.oneCell']) ?_; intro w2 hw2; replace hv := hv.sets (by repeat first | exact .z | apply SetM.s) hw2; clear hw2)
   | ((with_reducible refine at_load (T := 30) ?_); refine wl_ldv rfl b_6 rfl _ hv.vars.ro 6 _ Tryz.underlying30 rfl infoQ (by decide) rfl ?_)
   | ((with_reducible refine at_store (T := 30) ?_); refine wl_stp rfl b_3 6 rfl _ rfl _ hv.vars.ro hv.vars.so 6 infoQ rfl (by show 6 + 6 ≤ 21; decide) (by simp [Value.oneCell']) #[.int .i64 0, .int .i64 4, .slice rfa rfn rfc, .int .u16 rav, .int .u16 rla, .slice rca rcn rcc, .int .i64 120, .int .i64 4, .slice fa3 tfn1 fc3, .int .u16 tav, .int .u16 la1, .slice ca3 tcn1 cc3, .int .i64 300, .int .i64 i0, .int .i64 i1, .int .i64 i2, .int .i64 i3, .int .i64 o0, .int .i64 o1, .int .i64 o2, .int .i64 o3] (splice_21_6_6 _ _ _ _ _ _ _ _ _ _ _ _ _ _ _ _ _ _ _ _ _ _ _ _ _ _ _) ?_; intro w2 hw2; replace hv := hv.sets (by repeat first | exact .z | apply SetM.s) hw2; clear hw2)
   | ((with_reducible refine at_load (T := 31) ?_); refine wl_ldp rfl b_3 17 rfl _ hv.vars.ro 4 _ Tryz.underlying31 rfl infoA4 (by decide) (by show 17 + 4 ≤ 21; decide) #[.int .i64 o0, .int .i64 o1, .int .i64 o2, .int .i64 o3] rfl ?_)
   | (go_at_call 33; (with_reducible refine (of_any o0 o1 o2 o3 hd HN.out.ol HH1.out _).mono ?_); rw [HI.out]; rintro e w1 ⟨rfl, hn1⟩; replace hv := hv.new hn1; clear hn1)
   | ((with_reducible refine at_store (T := 3) ?_); refine wl_stc rfl b_3 20 rfl (.int .i64 0) rfl _ hv.vars.ro hv.vars.so (by kernel_rfl) rfl (by show 20 < 21; decide) ?_; intro w2 hw2; replace hv := hv.sets (by repeat first | exact .z | apply SetM.s) hw2; clear hw2; simp only [sia, scs, scz] at hv)
   | ((with_reducible refine at_store (T := 33) ?_); refine wl_stv rfl b_4 rfl _ rfl _ hv.vars.ro hv.vars.so 21 infoN rfl rfl (by simp [Value.oneCell']) ?_; intro w2 hw2; replace hv := hv.sets (by repeat first | exact .z | apply SetM.s) hw2; clear hw2))
 go_wp2
 try simp only [Exit.inBlock, Exit.then]
 refine ret_cell2 (v := .agg #[.int .i64 0, .int .i64 4, .slice rfa rfn rfc, .int .u16 rav, .int .u16 rla, .slice rca rcn rcc, .int .i64 120, .int .i64 4, .slice fa3 tfn1 fc3, .int .u16 tav, .int .u16 la1, .slice ca3 tcn1 cc3, .int .i64 300, .int .i64 i0, .int .i64 i1, .int .i64 i2, .int .i64 i3, .int .i64 o0, .int .i64 o1, .int .i64 o2, .int .i64 0]) (v1 := .int .i64 0) rfl rfl (read_row _ b_4 33 _ (hv.vars.ro (b := b_4)) 21 _ Tryz.underlying33 rfl infoN (by decide) rfl) rfl rfl ?_
 exact ⟨fc3, cc3, fa3, ca3, free3, R3, rfl, hv.keep (by exact List.sublist_append_right [_, _, _, _] L), HQ3.out, HO3.out, HP3.out, HS3.out⟩
end Go.Proofs.YtjmibgomkgkhnaaGreat
end

section
/-
 A card behind two rings (layer 10): what each act does to a driver's state.
-/
namespace Go.Proofs.Qu
open Go Go.RowKit Go.Proofs.Nm
structure DrM (R : List (Nat × Value × List Value)) (vb vc rav rla rfc rcc tav tla tfn tfc tcn tcc i0 i1 i2 i3 o0 o1 o2 o3 : Nat) (rfa rca tfa tca : Option Addr) (a ta rj rk tj tf tk : Nat) (D E : Nat → List Nat) (M : List Nat) (rchs : List Chn) (tfree : List Nat) (tchs : List Chn) : Prop where
 m : InM R vb 0 1900 vc M
 rx : MRx M a rj rk D
 tx : MTx M ta tf tk E
 fd : tf = tj ∨ (tf = tj + 1 ∧ getN M (120 + (backN 4 + (4 + 8 * ((ta + tj) % 4)))) 4 = tj ∧ getN M (120 + (backN 4 + (4 + 8 * ((ta + tj) % 4))) + 4) 4 = 0)
 n : NetQ R (.slice rfa 0 rfc) (.slice rca 4 rcc) (.slice tfa tfn tfc) (.slice tca tcn tcc) [] rchs tfree tchs [i0, i1, i2, i3] [o0, o1, o2, o3]
 rq : RxQ rchs (a + rj)
 tq : TxQ tchs tj tk
 os : [o0, o1, o2, o3] = outs tj tk
 i : i0 = 1 ∧ i1 = 2 ∧ i2 = 3 ∧ i3 = 4
 e : rav = a + 4 + rj ∧ rla = a + rj ∧ tav = ta + tk ∧ tla = ta + tj ∧ tfn + tk = 4 + tj ∧ tcn + tj = tk
 b : rj ≤ rk ∧ rk ≤ rj + 4 ∧ tj ≤ tf ∧ tf ≤ tk ∧ tk ≤ 4 ∧ rj ≤ 4 ∧ a ≤ 1000 ∧ ta ≤ 1000
 d : ∀ i, rj ≤ i → i < rk → (D i).length ≤ 192
 de : ∀ i, tf ≤ i → i < tk → 0 < (E i).length ∧ (E i).length ≤ 180
def DrS (R : List (Nat × Value × List Value)) (vb vc rav rla rfc rcc tav tla tfn tfc tcn tcc i0 i1 i2 i3 o0 o1 o2 o3 : Nat) (rfa rca tfa tca : Option Addr) (a ta rj rk tj tf tk : Nat) (D E : Nat → List Nat) : Prop :=
 ∃ M rchs tfree tchs, DrM R vb vc rav rla rfc rcc tav tla tfn tfc tcn tcc i0 i1 i2 i3 o0 o1 o2 o3 rfa rca tfa tca a ta rj rk tj tf tk D E M rchs tfree tchs
theorem DrS.mono {R R' : List (Nat × Value × List Value)} {vb vc rav rla rfc rcc tav tla tfn tfc tcn tcc i0 i1 i2 i3 o0 o1 o2 o3 : Nat} {rfa rca tfa tca : Option Addr} {a ta rj rk tj tk : Nat} {D E : Nat → List Nat} {tf : Nat} (h : DrS R vb vc rav rla rfc rcc tav tla tfn tfc tcn tcc i0 i1 i2 i3 o0 o1 o2 o3 rfa rca tfa tca a ta rj rk tj tf tk D E) (hs : ∀ x ∈ R, x ∈ R') : DrS R' vb vc rav rla rfc rcc tav tla tfn tfc tcn tcc i0 i1 i2 i3 o0 o1 o2 o3 rfa rca tfa tca a ta rj rk tj tf tk D E := by
 obtain ⟨M, rchs, tfree, tchs, h⟩ := h
 exact ⟨M, rchs, tfree, tchs, h.m.mono hs, h.rx, h.tx, h.fd, h.n.mono hs, h.rq, h.tq, h.os, h.i, h.e, h.b, h.d, h.de⟩
theorem DrS.next {R : List (Nat × Value × List Value)} {vb vc rav rla rfc rcc tav tla tfn tfc tcn tcc i0 i1 i2 i3 o0 o1 o2 o3 : Nat} {rfa rca tfa tca : Option Addr} {a ta : Nat} {D E : Nat → List Nat} {m : Nat} (D2 E2 : Nat → List Nat) (h : DrS R vb vc rav rla rfc rcc tav tla tfn tfc tcn tcc i0 i1 i2 i3 o0 o1 o2 o3 rfa rca tfa tca a ta m m m m m D E) (ha : a + m ≤ 1000) (hta : ta + m ≤ 1000) : DrS R vb vc rav rla rfc rcc tav tla tfn tfc tcn tcc i0 i1 i2 i3 o0 o1 o2 o3 rfa rca tfa tca (a + m) (ta + m) 0 0 0 0 0 D2 E2 := by
 obtain ⟨M, rchs, tfree, tchs, h⟩ := h
 have h1 := h.e
 have h2 := h.os
 have h3 := h.tq
 have h4 := h.n
 refine ⟨M, rchs, tfree, tchs, h.m, h.rx.next, h.tx.next, .inl rfl, h4, h.rq, ?_, ?_, h.i, by omega, by omega, fun i h h' => by omega, fun i h h' => by omega⟩
 · unfold TxQ at *
   rw [h3, Nat.sub_self, Nat.sub_self]; rfl
 · rw [h2]
   unfold outs
   refine List.map_congr_left fun i _ => ?_
   rw [if_neg (by omega), if_neg (by omega)]
theorem DrS.rx_any {R : List (Nat × Value × List Value)} {vb vc rav rla rfc rcc tav tla tfn tfc tcn tcc i0 i1 i2 i3 o0 o1 o2 o3 : Nat} {rfa rca tfa tca : Option Addr} {a ta tj tk : Nat} {D E : Nat → List Nat} {m : Nat} (D2 : Nat → List Nat) (h : DrS R vb vc rav rla rfc rcc tav tla tfn tfc tcn tcc i0 i1 i2 i3 o0 o1 o2 o3 rfa rca tfa tca a ta m m tj tj tk D E) : DrS R vb vc rav rla rfc rcc tav tla tfn tfc tcn tcc i0 i1 i2 i3 o0 o1 o2 o3 rfa rca tfa tca a ta m m tj tj tk D2 E := by
 obtain ⟨M, rchs, tfree, tchs, h⟩ := h
 exact ⟨M, rchs, tfree, tchs, h.m, h.rx.any, h.tx, h.fd, h.n, h.rq, h.tq, h.os, h.i, h.e, h.b, fun i h h' => by omega, h.de⟩
theorem DrS.rx_next {R : List (Nat × Value × List Value)} {vb vc rav rla rfc rcc tav tla tfn tfc tcn tcc i0 i1 i2 i3 o0 o1 o2 o3 : Nat} {rfa rca tfa tca : Option Addr} {a ta tj tk : Nat} {D E : Nat → List Nat} {m tf : Nat} (D2 : Nat → List Nat) (h : DrS R vb vc rav rla rfc rcc tav tla tfn tfc tcn tcc i0 i1 i2 i3 o0 o1 o2 o3 rfa rca tfa tca a ta m m tj tf tk D E) (ha : a + m ≤ 1000) : DrS R vb vc rav rla rfc rcc tav tla tfn tfc tcn tcc i0 i1 i2 i3 o0 o1 o2 o3 rfa rca tfa tca (a + m) ta 0 0 tj tf tk D2 E := by
 obtain ⟨M, rchs, tfree, tchs, h⟩ := h
 have h1 := h.e
 have h2 := h.b
 exact ⟨M, rchs, tfree, tchs, h.m, h.rx.next, h.tx, h.fd, h.n, h.rq, h.tq, h.os, h.i, by omega, by omega, fun i h h' => by omega, h.de⟩
theorem outs_idx0 : ∀ k, k < 4 → idxF (· == 0) (outs 0 k) = k := by decide
theorem outs_idx : ∀ k, k < 5 → ∀ j, j < k → idxF (· == j + 1) (outs j k) = j := by decide
theorem outs_set0 : ∀ k, k < 4 → (outs 0 k).set k (k + 1) = outs 0 (k + 1) := by decide
theorem outs_clr : ∀ k, k < 5 → ∀ j, j < k → (outs j k).set j 0 = outs (j + 1) k := by decide
theorem txFree_hd : ∀ k, k < 4 → (txFree 0 k).getD 0 0 = k ∧ (txFree 0 k).Nodup ∧ (∀ d ∈ txFree 0 k, d < 4) ∧ 1 ≤ (txFree 0 k).length := by decide
theorem outs_le : ∀ k, k < 5 → ∀ j, j < 5 → ∀ y ∈ outs j k, y ≤ 1000 := by decide
theorem cellsB_dn {w0 w : World} {L : List (Nat × Array Value)} {R : List (Nat × Value × List Value)} (hv : Mem w0 w L R) {da : Option Addr} {dn dc : Nat} {D : List Nat} (hdr : (1, Value.slice da dn dc, cellsB D) ∈ R) : D.length = dn := by
 obtain ⟨_, _, _, e, g, _⟩ := hv.rd hdr
 cases e
 rw [cellsB_len] at g; omega
end Go.Proofs.Qu
namespace Go.Proofs.YtjmibgomkgkhnaaGreat
open Go.Proofs.Qu Go.Proofs.Nm Go.RowKit Go.Proofs
def NewS (R : List (Nat × Value × List Value)) (v : Value) (Rx : List (Nat × Value × List Value)) : Prop := ∃ (vb vc rav rla rfc rcc tav tla tfn tfc tcn tcc i0 i1 i2 i3 o0 o1 o2 o3 : Nat) (rfa rca tfa tca : Option Addr), v = .tuple #[.agg #[.slice (some ⟨vb, 0, none⟩) 1900 vc], .agg #[.int .i64 0, .int .i64 4, .slice rfa 0 rfc, .int .u16 rav, .int .u16 rla, .slice rca 4 rcc, .int .i64 120, .int .i64 4, .slice tfa tfn tfc, .int .u16 tav, .int .u16 tla, .slice tca tcn tcc, .int .i64 300, .int .i64 i0, .int .i64 i1, .int .i64 i2, .int .i64 i3, .int .i64 o0, .int .i64 o1, .int .i64 o2, .int .i64 o3], .int .i64 0] ∧ (∀ D E, DrS Rx vb vc rav rla rfc rcc tav tla tfn tfc tcn tcc i0 i1 i2 i3 o0 o1 o2 o3 rfa rca tfa tca 0 0 0 0 0 0 0 D E) ∧ ∀ x ∈ R, x ∈ Rx
theorem New_L {w0 w : World} {L : List (Nat × Array Value)} {R : List (Nat × Value × List Value)} (hv : Mem w0 w L R) {mb mc : Nat} (hm : InM R mb 0 1900 mc NM0) :
   Calls Tryz.prog 8 #[.agg #[.slice (some ⟨mb, 0, none⟩) 1900 mc], .int .i64 0, .int .i64 120, .int .i64 300] w fun e w' => ∃ v Rx, e = .returned v ∧ NewS R v Rx ∧ Mem w0 w' L Rx := by
 refine (New_N hv hm).mono ?_
 rintro e w' ⟨v, Rx, rfl, ⟨vb, vc, rfn, fc1, rcn, cc, rav, z1, z2, z3, fc2, i0, i1, i2, i3, o0, o1, o2, o3, fa1, ca, fa2, chs, rfl, H1, H2, H3, H4, H5, H6, H7, H8, H9⟩, hv1⟩
 obtain ⟨rfl, rfl, rfl, rfl, rfl, rfl⟩ := H7.out
 obtain ⟨hi0, hi1, hi2, hi3⟩ := H8.out
 obtain ⟨rfl, rfl, rfl, rfl⟩ := H9.out
 obtain ⟨rfl, rfl, rfl, rfl⟩ : i0 = 1 ∧ i1 = 2 ∧ i2 = 3 ∧ i3 = 4 := ⟨hi0, hi1, hi2, hi3⟩
 refine ⟨_, Rx, rfl, ⟨vb, vc, 4, 0, fc1, cc, 0, 0, 4, fc2, 0, 0, 1, 2, 3, 4, 0, 0, 0, 0, fa1, ca, fa2, none, rfl, fun D E => ?_, H6.out⟩, hv1⟩
 have hrq := RxC.q H4.out
 refine ⟨_, chs, List.range 4, [], H1.out, new_rx D, new_tx E, .inl rfl, ⟨H2.out, H3.out, H5.out, OkQ.new ok4, by decide, by decide, hrq.perm, by decide⟩, hrq, rfl, by decide, ⟨rfl, rfl, rfl, rfl⟩, by decide, by decide, fun i h h' => by omega, fun i h h' => by omega⟩
theorem Bring_L {w0 w : World} {L : List (Nat × Array Value)} {R : List (Nat × Value × List Value)} (hv : Mem w0 w L R) {vb vc rav rla rfc rcc tav tla tfn tfc tcn tcc i0 i1 i2 i3 o0 o1 o2 o3 : Nat} {rfa rca tfa tca : Option Addr} {a ta rj rk tj tk : Nat} {D E : Nat → List Nat} (h : DrS R vb vc rav rla rfc rcc tav tla tfn tfc tcn tcc i0 i1 i2 i3 o0 o1 o2 o3 rfa rca tfa tca a ta rj rk tj tj tk D E) {sn dn dc : Nat} {da : Option Addr} (hsn : sn = a + rk) (hk : rk < rj + 4) (hdr : (1, .slice da dn dc, cellsB (D rk)) ∈ R) (hgd : goodB (D rk)) (hn : dn ≤ 192) :
   Calls Tryz.prog 10 #[.agg #[.slice (some ⟨vb, 0, none⟩) 1900 vc], .agg #[.int .i64 0, .int .i64 4, .int .u16 sn, .int .u16 sn], .slice da dn dc] w fun e w' => ∃ vb5 vc5 sn5 R5, e = .returned (.tuple #[.agg #[.slice (some ⟨vb5, 0, none⟩) 1900 vc5], .agg #[.int .i64 0, .int .i64 4, .int .u16 (sn5 : Nat), .int .u16 (sn5 : Nat)], .int .i64 0]) ∧ Mem w0 w' L R5 ∧ DrS R5 vb5 vc5 rav rla rfc rcc tav tla tfn tfc tcn tcc i0 i1 i2 i3 o0 o1 o2 o3 rfa rca tfa tca a ta rj (rk + 1) tj tj tk D E ∧ sn5 = a + (rk + 1) ∧ ∀ x ∈ R, x ∈ R5 := by
 obtain ⟨M, rchs, tfree, tchs, h⟩ := h
 have hb := h.b
 have hdl := cellsB_dn hv hdr
 subst hsn
 have hm4 := Nat.mod_lt (a + rk) (show 0 < 4 by decide)
 refine (Bring_yes hv h.m (by omega) rfl h.rx.ai (by omega) (h.rx.sl _ hm4) (h.rx.ch _ hm4) (by omega) rfl hm4 hdr hgd hn (by omega)).mono ?_
 rintro e w' ⟨vb5, vc5, R5, rfl, hv1, hm1, hs1⟩
 refine ⟨vb5, vc5, _, R5, rfl, hv1, ?_, rfl, hs1⟩
 have hD : ∀ i, rj ≤ i → i < rk + 1 → (D i).length ≤ 192 := fun i h1 h2 => by
   rcases Nat.lt_or_ge i rk with h3 | h3
   · exact h.d i h1 h3
   · obtain rfl : i = rk := by omega
     omega
 rw [← hdl] at hm1
 exact ⟨_, rchs, tfree, tchs, hm1, h.rx.bring (by omega) (by omega) rfl (fun i h1 h2 => hD i h1 (by omega)) (by omega), bring_tx h.tx (by omega) hm4 (by omega), .inl rfl, h.n.mono hs1, h.rq, h.tq, h.os, h.i, h.e, by omega, hD, h.de⟩
theorem Bring_long_L {w0 w : World} {L : List (Nat × Array Value)} {R : List (Nat × Value × List Value)} (hv : Mem w0 w L R) {vb vc rav rla rfc rcc tav tla tfn tfc tcn tcc i0 i1 i2 i3 o0 o1 o2 o3 : Nat} {rfa rca tfa tca : Option Addr} {a ta rj rk tj tk : Nat} {D E : Nat → List Nat} (h : DrS R vb vc rav rla rfc rcc tav tla tfn tfc tcn tcc i0 i1 i2 i3 o0 o1 o2 o3 rfa rca tfa tca a ta rj rk tj tj tk D E) {sn dn dc : Nat} {da : Option Addr} (hsn : sn = a + rk) (hk : rk < rj + 4) (hn : 192 < dn) :
   Calls Tryz.prog 10 #[.agg #[.slice (some ⟨vb, 0, none⟩) 1900 vc], .agg #[.int .i64 0, .int .i64 4, .int .u16 sn, .int .u16 sn], .slice da dn dc] w fun e w' => ∃ R3, e = .returned (.tuple #[.agg #[.slice (some ⟨vb, 0, none⟩) 1900 vc], .agg #[.int .i64 0, .int .i64 4, .int .u16 ((sn + 1) : Nat), .int .u16 sn], .int .i64 70]) ∧ Mem w0 w' L R3 ∧ ∀ x ∈ R, x ∈ R3 := by
 obtain ⟨M, rchs, tfree, tchs, h⟩ := h
 have hb := h.b
 subst hsn
 have hm4 := Nat.mod_lt (a + rk) (show 0 < 4 by decide)
 exact Bring_long (D := []) (us1 := 0) hv h.m (by omega) rfl h.rx.ai (by omega) (h.rx.sl _ hm4) (h.rx.ch _ hm4) hn
theorem Take_yes_L {w0 w : World} {L : List (Nat × Array Value)} {R : List (Nat × Value × List Value)} (hv : Mem w0 w L R) {vb vc rav rla rfc rcc tav tla tfn tfc tcn tcc i0 i1 i2 i3 o0 o1 o2 o3 : Nat} {rfa rca tfa tca : Option Addr} {a ta rj rk tj tk : Nat} {D E : Nat → List Nat} (h : DrS R vb vc rav rla rfc rcc tav tla tfn tfc tcn tcc i0 i1 i2 i3 o0 o1 o2 o3 rfa rca tfa tca a ta rj rk tj tj tk D E) {n : Nat} (hjk : rj < rk) (hj4 : rj < 4) (hn : (D rj).length = n) (hn1 : 1 ≤ n) (hn2 : n ≤ 180) :
   Calls Tryz.prog 11 #[.agg #[.slice (some ⟨vb, 0, none⟩) 1900 vc], .agg #[.int .i64 0, .int .i64 4, .slice rfa 0 rfc, .int .u16 rav, .int .u16 rla, .slice rca 4 rcc, .int .i64 120, .int .i64 4, .slice tfa tfn tfc, .int .u16 tav, .int .u16 tla, .slice tca tcn tcc, .int .i64 300, .int .i64 i0, .int .i64 i1, .int .i64 i2, .int .i64 i3, .int .i64 o0, .int .i64 o1, .int .i64 o2, .int .i64 o3]] w fun e w' => ∃ vb5 vc5 rav5 rla5 fc5 cc5 fa5 ca5 R5 gb gc, e = .returned (.tuple #[.agg #[.slice (some ⟨vb5, 0, none⟩) 1900 vc5], .agg #[.int .i64 0, .int .i64 4, .slice fa5 0 fc5, .int .u16 (rav5 : Nat), .int .u16 (rla5 : Nat), .slice ca5 4 cc5, .int .i64 120, .int .i64 4, .slice tfa tfn tfc, .int .u16 tav, .int .u16 tla, .slice tca tcn tcc, .int .i64 300, .int .i64 i0, .int .i64 i1, .int .i64 i2, .int .i64 i3, .int .i64 o0, .int .i64 o1, .int .i64 o2, .int .i64 o3], .slice (some ⟨gb, 0, none⟩) n gc, .int .i64 0]) ∧ Mem w0 w' L R5 ∧ DrS R5 vb5 vc5 rav5 rla5 fc5 cc5 tav tla tfn tfc tcn tcc i0 i1 i2 i3 o0 o1 o2 o3 fa5 ca5 tfa tca a ta (rj + 1) rk tj tj tk D E ∧ (1, .slice (some ⟨gb, 0, none⟩) n gc, cellsB (D rj)) ∈ R5 ∧ ∀ x ∈ R, x ∈ R5 := by
 obtain ⟨M, rchs, tfree, tchs, h⟩ := h
 obtain ⟨c0, rest, rfl, e1, e2, e3, e4⟩ := h.rq.head
 have hb := h.b
 have he := h.e
 obtain ⟨rfl, rfl, he⟩ := he
 have hm4 := Nat.mod_lt (a + rj) (show 0 < 4 by decide)
 have hid := h.rx.id rj (Nat.le_refl _) hjk
 have hdd := h.d rj (Nat.le_refl _) hjk
 rw [hn] at hid hdd
 refine (Take_yes (av1 := a + 4 + (rj + 1)) (la1 := a + (rj + 1)) (ah := rk - rj) (D := D rj) hv h.n h.m h.rx.ui (by omega) (by omega) (by omega) (by omega) hid.1 hid.2.1 e1 e2 (by omega) (by omega) (by omega) (by omega) hm4 h.i hid.2.2 (by omega) hn1 hn2).mono ?_
 rintro e w' ⟨vb5, vc5, fc5, cc5, fa5, ca5, c5, R5, gb, gc, rfl, hv1, hm1, hq1, ho1, g1, g2, g3, hg1, hs1⟩
 refine ⟨vb5, vc5, _, _, fc5, cc5, fa5, ca5, R5, gb, gc, rfl, hv1, ?_, hg1, hs1⟩
 have hrq := e4 c5 g1 g2 g3
 have hn2 := h.n.mono hs1
 exact ⟨_, rest ++ [c5], tfree, tchs, hm1, h.rx.take rfl rfl h.d (by omega), take_tx h.tx (by omega) hm4, .inl rfl, ⟨hq1, ho1, hn2.tq, hn2.to, hn2.bl, hn2.ol, by rw [h.i.1, h.i.2.1, h.i.2.2.1, h.i.2.2.2]; exact RxQ.perm (b := a + rj + 1) hrq, hn2.tp⟩, hrq, h.tq, h.os, h.i, ⟨rfl, rfl, he⟩, by omega, fun i h1 h2 => h.d i (by omega) h2, h.de⟩
theorem Take_drop_L {w0 w : World} {L : List (Nat × Array Value)} {R : List (Nat × Value × List Value)} (hv : Mem w0 w L R) {vb vc rav rla rfc rcc tav tla tfn tfc tcn tcc i0 i1 i2 i3 o0 o1 o2 o3 : Nat} {rfa rca tfa tca : Option Addr} {a ta rj rk tj tk : Nat} {D E : Nat → List Nat} (h : DrS R vb vc rav rla rfc rcc tav tla tfn tfc tcn tcc i0 i1 i2 i3 o0 o1 o2 o3 rfa rca tfa tca a ta rj rk tj tj tk D E) {n : Nat} (hjk : rj < rk) (hj4 : rj < 4) (hn : (D rj).length = n) (hbad : n = 0 ∨ 180 < n) :
   Calls Tryz.prog 11 #[.agg #[.slice (some ⟨vb, 0, none⟩) 1900 vc], .agg #[.int .i64 0, .int .i64 4, .slice rfa 0 rfc, .int .u16 rav, .int .u16 rla, .slice rca 4 rcc, .int .i64 120, .int .i64 4, .slice tfa tfn tfc, .int .u16 tav, .int .u16 tla, .slice tca tcn tcc, .int .i64 300, .int .i64 i0, .int .i64 i1, .int .i64 i2, .int .i64 i3, .int .i64 o0, .int .i64 o1, .int .i64 o2, .int .i64 o3]] w fun e w' => ∃ vb5 vc5 rav5 rla5 fc5 cc5 fa5 ca5 R5, e = .returned (.tuple #[.agg #[.slice (some ⟨vb5, 0, none⟩) 1900 vc5], .agg #[.int .i64 0, .int .i64 4, .slice fa5 0 fc5, .int .u16 (rav5 : Nat), .int .u16 (rla5 : Nat), .slice ca5 4 cc5, .int .i64 120, .int .i64 4, .slice tfa tfn tfc, .int .u16 tav, .int .u16 tla, .slice tca tcn tcc, .int .i64 300, .int .i64 i0, .int .i64 i1, .int .i64 i2, .int .i64 i3, .int .i64 o0, .int .i64 o1, .int .i64 o2, .int .i64 o3], .slice none 0 0, .int .i64 180]) ∧ Mem w0 w' L R5 ∧ DrS R5 vb5 vc5 rav5 rla5 fc5 cc5 tav tla tfn tfc tcn tcc i0 i1 i2 i3 o0 o1 o2 o3 fa5 ca5 tfa tca a ta (rj + 1) rk tj tj tk D E ∧ ∀ x ∈ R, x ∈ R5 := by
 obtain ⟨M, rchs, tfree, tchs, h⟩ := h
 obtain ⟨c0, rest, rfl, e1, e2, e3, e4⟩ := h.rq.head
 have hb := h.b
 have he := h.e
 obtain ⟨rfl, rfl, he⟩ := he
 have hm4 := Nat.mod_lt (a + rj) (show 0 < 4 by decide)
 have hid := h.rx.id rj (Nat.le_refl _) hjk
 have hdd := h.d rj (Nat.le_refl _) hjk
 rw [hn] at hid hdd
 refine (Take_drop (av1 := a + 4 + (rj + 1)) (la1 := a + (rj + 1)) (ah := rk - rj) (D := D rj) hv h.n h.m h.rx.ui (by omega) (by omega) (by omega) (by omega) hid.1 hid.2.1 e1 e2 (by omega) (by omega) (by omega) (by omega) hm4 h.i hid.2.2 (by omega) hbad).mono ?_
 rintro e w' ⟨vb5, vc5, fc5, cc5, fa5, ca5, c5, R5, rfl, hv1, hm1, hq1, ho1, g1, g2, g3, hs1⟩
 refine ⟨vb5, vc5, _, _, fc5, cc5, fa5, ca5, R5, rfl, hv1, ?_, hs1⟩
 have hrq := e4 c5 g1 g2 g3
 have hn2 := h.n.mono hs1
 exact ⟨_, rest ++ [c5], tfree, tchs, hm1, h.rx.take rfl rfl h.d (by omega), take_tx h.tx (by omega) hm4, .inl rfl, ⟨hq1, ho1, hn2.tq, hn2.to, hn2.bl, hn2.ol, by rw [h.i.1, h.i.2.1, h.i.2.2.1, h.i.2.2.2]; exact RxQ.perm (b := a + rj + 1) hrq, hn2.tp⟩, hrq, h.tq, h.os, h.i, ⟨rfl, rfl, he⟩, by omega, fun i h1 h2 => h.d i (by omega) h2, h.de⟩
theorem Take_none_L {w0 w : World} {L : List (Nat × Array Value)} {R : List (Nat × Value × List Value)} (hv : Mem w0 w L R) {vb vc rav rla rfc rcc tav tla tfn tfc tcn tcc i0 i1 i2 i3 o0 o1 o2 o3 : Nat} {rfa rca tfa tca : Option Addr} {a ta rj rk tj tk : Nat} {D E : Nat → List Nat} (h : DrS R vb vc rav rla rfc rcc tav tla tfn tfc tcn tcc i0 i1 i2 i3 o0 o1 o2 o3 rfa rca tfa tca a ta rj rj tj tj tk D E) :
   Calls Tryz.prog 11 #[.agg #[.slice (some ⟨vb, 0, none⟩) 1900 vc], .agg #[.int .i64 0, .int .i64 4, .slice rfa 0 rfc, .int .u16 rav, .int .u16 rla, .slice rca 4 rcc, .int .i64 120, .int .i64 4, .slice tfa tfn tfc, .int .u16 tav, .int .u16 tla, .slice tca tcn tcc, .int .i64 300, .int .i64 i0, .int .i64 i1, .int .i64 i2, .int .i64 i3, .int .i64 o0, .int .i64 o1, .int .i64 o2, .int .i64 o3]] w fun e w' => e = .returned (.tuple #[.agg #[.slice (some ⟨vb, 0, none⟩) 1900 vc], .agg #[.int .i64 0, .int .i64 4, .slice rfa 0 rfc, .int .u16 rav, .int .u16 rla, .slice rca 4 rcc, .int .i64 120, .int .i64 4, .slice tfa tfn tfc, .int .u16 tav, .int .u16 tla, .slice tca tcn tcc, .int .i64 300, .int .i64 i0, .int .i64 i1, .int .i64 i2, .int .i64 i3, .int .i64 o0, .int .i64 o1, .int .i64 o2, .int .i64 o3], .slice none 0 0, .int .i64 7]) ∧ Mem w0 w' L R := by
 obtain ⟨M, rchs, tfree, tchs, h⟩ := h
 have hb := h.b
 have he := h.e
 obtain ⟨rfl, rfl, he⟩ := he
 exact Take_none hv h.n h.m h.rx.ui (by omega)
def SentS (R : List (Nat × Value × List Value)) (rav rla rfc rcc tla i0 i1 i2 i3 : Nat) (rfa rca : Option Addr) (a ta rj rk tk : Nat) (D E : Nat → List Nat) (v : Value) (R3 : List (Nat × Value × List Value)) : Prop := ∃ (vb3 vc3 tav3 nf1 fc3 nc1 cc3 p0 p1 p2 p3 : Nat) (fa3 ca3 : Option Addr), v = .tuple #[.agg #[.slice (some ⟨vb3, 0, none⟩) 1900 vc3], .agg #[.int .i64 0, .int .i64 4, .slice rfa 0 rfc, .int .u16 rav, .int .u16 rla, .slice rca 4 rcc, .int .i64 120, .int .i64 4, .slice fa3 nf1 fc3, .int .u16 tav3, .int .u16 tla, .slice ca3 nc1 cc3, .int .i64 300, .int .i64 i0, .int .i64 i1, .int .i64 i2, .int .i64 i3, .int .i64 p0, .int .i64 p1, .int .i64 p2, .int .i64 p3], .int .i64 0] ∧ DrS R3 vb3 vc3 rav rla rfc rcc tav3 tla nf1 fc3 nc1 cc3 i0 i1 i2 i3 p0 p1 p2 p3 rfa rca fa3 ca3 a ta rj rk 0 0 (tk + 1) D E ∧ ∀ x ∈ R, x ∈ R3
theorem Send_L0 {w0 w : World} {L : List (Nat × Array Value)} {R : List (Nat × Value × List Value)} (hv : Mem w0 w L R) {vb vc rav rla rfc rcc tav tla tfn tfc tcn tcc i0 i1 i2 i3 o0 o1 o2 o3 : Nat} {rfa rca tfa tca : Option Addr} {a ta rj rk tj tk : Nat} {D E : Nat → List Nat} (h : DrS R vb vc rav rla rfc rcc tav tla tfn tfc tcn tcc i0 i1 i2 i3 o0 o1 o2 o3 rfa rca tfa tca a ta rj rk 0 0 tk D E) {dn dc : Nat} {da : Option Addr} (hk : tk = 0) (hdr : (1, .slice da dn dc, cellsB (E tk)) ∈ R) (hgd : goodB (E tk)) (hn1 : 1 ≤ dn) (hn2 : dn ≤ 180) :
   Calls Tryz.prog 13 #[.agg #[.slice (some ⟨vb, 0, none⟩) 1900 vc], .agg #[.int .i64 0, .int .i64 4, .slice rfa 0 rfc, .int .u16 rav, .int .u16 rla, .slice rca 4 rcc, .int .i64 120, .int .i64 4, .slice tfa tfn tfc, .int .u16 tav, .int .u16 tla, .slice tca tcn tcc, .int .i64 300, .int .i64 i0, .int .i64 i1, .int .i64 i2, .int .i64 i3, .int .i64 o0, .int .i64 o1, .int .i64 o2, .int .i64 o3], .slice da dn dc] w fun e w' => ∃ v R3, e = .returned v ∧ SentS R rav rla rfc rcc tla i0 i1 i2 i3 rfa rca a ta rj rk tk D E v R3 ∧ Mem w0 w' L R3 := by
 obtain ⟨M, rchs, tfree, tchs, h⟩ := h
 have hb := h.b
 have hdl := cellsB_dn hv hdr
 have he := h.e
 have hf := h.tq.free (by omega) (by omega) h.n.to
 obtain ⟨f1, f2, f3, f4⟩ := txFree_hd tk (by omega)
 rw [← hf] at f1 f2 f3 f4
 have hi := outs_idx0 tk (by omega)
 rw [← h.os] at hi
 have hset := outs_set0 tk (by omega)
 rw [← h.os] at hset
 subst hk
 refine (Send_0 (av1 := ta + (0 + 1)) (nf1 := 3 - 0) (nc1 := 0 + 1) (x1 := 0 + 1) hv h.n h.m hdr hgd hn1 hn2 (by omega) (by omega) (by omega) (by omega) f1 rfl (by decide) hi).mono ?_
 rintro e w' ⟨vb3, vc3, fc3, cc3, fa3, ca3, c3, R3, rfl, hv1, hm1, hq1, ho1, g1, g2, g3, hs1⟩
 refine ⟨_, R3, rfl, ⟨vb3, vc3, _, _, fc3, _, cc3, _, o1, o2, o3, fa3, ca3, rfl, ?_, hs1⟩, hv1⟩
 have hE : ∀ i, 0 ≤ i → i < 0 + 1 → 0 < (E i).length ∧ (E i).length ≤ 180 := fun i h1 h2 => by
   rcases Nat.lt_or_ge i 0 with h3 | h3
   · exact h.de i h1 h3
   · obtain rfl : i = 0 := by omega
     omega
 rw [← hdl] at hm1
 have htq := h.tq.add (by omega) g1 g2 g3
 have hn2 := h.n.mono hs1
 have hos : [0 + 1, o1, o2, o3] = outs 0 (0 + 1) := hset
 exact ⟨_, rchs, tfree.drop 1, tchs ++ [c3], hm1, send_rx h.rx h.d (t := 0) (by decide) (by omega) f2 f3 f4, h.tx.send (by omega) (by decide) he.2.2.1 f2 f3 f4 f1 (fun i h1 h2 => by have := hE i h1 (by omega); omega) (by omega), .inl rfl, ⟨hn2.rq, hn2.ro, hq1, ho1, hn2.bl, by rw [hos]; exact outs_le _ (by decide) _ (by decide), hn2.rp, by rw [hos]; exact htq.perm (by omega) (by decide)⟩, h.rq, htq, hos, h.i, by omega, by omega, h.d, hE⟩
theorem Send_L1 {w0 w : World} {L : List (Nat × Array Value)} {R : List (Nat × Value × List Value)} (hv : Mem w0 w L R) {vb vc rav rla rfc rcc tav tla tfn tfc tcn tcc i0 i1 i2 i3 o0 o1 o2 o3 : Nat} {rfa rca tfa tca : Option Addr} {a ta rj rk tj tk : Nat} {D E : Nat → List Nat} (h : DrS R vb vc rav rla rfc rcc tav tla tfn tfc tcn tcc i0 i1 i2 i3 o0 o1 o2 o3 rfa rca tfa tca a ta rj rk 0 0 tk D E) {dn dc : Nat} {da : Option Addr} (hk : tk = 1) (hdr : (1, .slice da dn dc, cellsB (E tk)) ∈ R) (hgd : goodB (E tk)) (hn1 : 1 ≤ dn) (hn2 : dn ≤ 180) :
   Calls Tryz.prog 13 #[.agg #[.slice (some ⟨vb, 0, none⟩) 1900 vc], .agg #[.int .i64 0, .int .i64 4, .slice rfa 0 rfc, .int .u16 rav, .int .u16 rla, .slice rca 4 rcc, .int .i64 120, .int .i64 4, .slice tfa tfn tfc, .int .u16 tav, .int .u16 tla, .slice tca tcn tcc, .int .i64 300, .int .i64 i0, .int .i64 i1, .int .i64 i2, .int .i64 i3, .int .i64 o0, .int .i64 o1, .int .i64 o2, .int .i64 o3], .slice da dn dc] w fun e w' => ∃ v R3, e = .returned v ∧ SentS R rav rla rfc rcc tla i0 i1 i2 i3 rfa rca a ta rj rk tk D E v R3 ∧ Mem w0 w' L R3 := by
 obtain ⟨M, rchs, tfree, tchs, h⟩ := h
 have hb := h.b
 have hdl := cellsB_dn hv hdr
 have he := h.e
 have hf := h.tq.free (by omega) (by omega) h.n.to
 obtain ⟨f1, f2, f3, f4⟩ := txFree_hd tk (by omega)
 rw [← hf] at f1 f2 f3 f4
 have hi := outs_idx0 tk (by omega)
 rw [← h.os] at hi
 have hset := outs_set0 tk (by omega)
 rw [← h.os] at hset
 subst hk
 refine (Send_1 (av1 := ta + (1 + 1)) (nf1 := 3 - 1) (nc1 := 1 + 1) (x1 := 1 + 1) hv h.n h.m hdr hgd hn1 hn2 (by omega) (by omega) (by omega) (by omega) f1 rfl (by decide) hi).mono ?_
 rintro e w' ⟨vb3, vc3, fc3, cc3, fa3, ca3, c3, R3, rfl, hv1, hm1, hq1, ho1, g1, g2, g3, hs1⟩
 refine ⟨_, R3, rfl, ⟨vb3, vc3, _, _, fc3, _, cc3, o0, _, o2, o3, fa3, ca3, rfl, ?_, hs1⟩, hv1⟩
 have hE : ∀ i, 0 ≤ i → i < 1 + 1 → 0 < (E i).length ∧ (E i).length ≤ 180 := fun i h1 h2 => by
   rcases Nat.lt_or_ge i 1 with h3 | h3
   · exact h.de i h1 h3
   · obtain rfl : i = 1 := by omega
     omega
 rw [← hdl] at hm1
 have htq := h.tq.add (by omega) g1 g2 g3
 have hn2 := h.n.mono hs1
 have hos : [o0, 1 + 1, o2, o3] = outs 0 (1 + 1) := hset
 exact ⟨_, rchs, tfree.drop 1, tchs ++ [c3], hm1, send_rx h.rx h.d (t := 1) (by decide) (by omega) f2 f3 f4, h.tx.send (by omega) (by decide) he.2.2.1 f2 f3 f4 f1 (fun i h1 h2 => by have := hE i h1 (by omega); omega) (by omega), .inl rfl, ⟨hn2.rq, hn2.ro, hq1, ho1, hn2.bl, by rw [hos]; exact outs_le _ (by decide) _ (by decide), hn2.rp, by rw [hos]; exact htq.perm (by omega) (by decide)⟩, h.rq, htq, hos, h.i, by omega, by omega, h.d, hE⟩
theorem Send_L2 {w0 w : World} {L : List (Nat × Array Value)} {R : List (Nat × Value × List Value)} (hv : Mem w0 w L R) {vb vc rav rla rfc rcc tav tla tfn tfc tcn tcc i0 i1 i2 i3 o0 o1 o2 o3 : Nat} {rfa rca tfa tca : Option Addr} {a ta rj rk tj tk : Nat} {D E : Nat → List Nat} (h : DrS R vb vc rav rla rfc rcc tav tla tfn tfc tcn tcc i0 i1 i2 i3 o0 o1 o2 o3 rfa rca tfa tca a ta rj rk 0 0 tk D E) {dn dc : Nat} {da : Option Addr} (hk : tk = 2) (hdr : (1, .slice da dn dc, cellsB (E tk)) ∈ R) (hgd : goodB (E tk)) (hn1 : 1 ≤ dn) (hn2 : dn ≤ 180) :
   Calls Tryz.prog 13 #[.agg #[.slice (some ⟨vb, 0, none⟩) 1900 vc], .agg #[.int .i64 0, .int .i64 4, .slice rfa 0 rfc, .int .u16 rav, .int .u16 rla, .slice rca 4 rcc, .int .i64 120, .int .i64 4, .slice tfa tfn tfc, .int .u16 tav, .int .u16 tla, .slice tca tcn tcc, .int .i64 300, .int .i64 i0, .int .i64 i1, .int .i64 i2, .int .i64 i3, .int .i64 o0, .int .i64 o1, .int .i64 o2, .int .i64 o3], .slice da dn dc] w fun e w' => ∃ v R3, e = .returned v ∧ SentS R rav rla rfc rcc tla i0 i1 i2 i3 rfa rca a ta rj rk tk D E v R3 ∧ Mem w0 w' L R3 := by
 obtain ⟨M, rchs, tfree, tchs, h⟩ := h
 have hb := h.b
 have hdl := cellsB_dn hv hdr
 have he := h.e
 have hf := h.tq.free (by omega) (by omega) h.n.to
 obtain ⟨f1, f2, f3, f4⟩ := txFree_hd tk (by omega)
 rw [← hf] at f1 f2 f3 f4
 have hi := outs_idx0 tk (by omega)
 rw [← h.os] at hi
 have hset := outs_set0 tk (by omega)
 rw [← h.os] at hset
 subst hk
 refine (Send_2 (av1 := ta + (2 + 1)) (nf1 := 3 - 2) (nc1 := 2 + 1) (x1 := 2 + 1) hv h.n h.m hdr hgd hn1 hn2 (by omega) (by omega) (by omega) (by omega) f1 rfl (by decide) hi).mono ?_
 rintro e w' ⟨vb3, vc3, fc3, cc3, fa3, ca3, c3, R3, rfl, hv1, hm1, hq1, ho1, g1, g2, g3, hs1⟩
 refine ⟨_, R3, rfl, ⟨vb3, vc3, _, _, fc3, _, cc3, o0, o1, _, o3, fa3, ca3, rfl, ?_, hs1⟩, hv1⟩
 have hE : ∀ i, 0 ≤ i → i < 2 + 1 → 0 < (E i).length ∧ (E i).length ≤ 180 := fun i h1 h2 => by
   rcases Nat.lt_or_ge i 2 with h3 | h3
   · exact h.de i h1 h3
   · obtain rfl : i = 2 := by omega
     omega
 rw [← hdl] at hm1
 have htq := h.tq.add (by omega) g1 g2 g3
 have hn2 := h.n.mono hs1
 have hos : [o0, o1, 2 + 1, o3] = outs 0 (2 + 1) := hset
 exact ⟨_, rchs, tfree.drop 1, tchs ++ [c3], hm1, send_rx h.rx h.d (t := 2) (by decide) (by omega) f2 f3 f4, h.tx.send (by omega) (by decide) he.2.2.1 f2 f3 f4 f1 (fun i h1 h2 => by have := hE i h1 (by omega); omega) (by omega), .inl rfl, ⟨hn2.rq, hn2.ro, hq1, ho1, hn2.bl, by rw [hos]; exact outs_le _ (by decide) _ (by decide), hn2.rp, by rw [hos]; exact htq.perm (by omega) (by decide)⟩, h.rq, htq, hos, h.i, by omega, by omega, h.d, hE⟩
theorem Send_L3 {w0 w : World} {L : List (Nat × Array Value)} {R : List (Nat × Value × List Value)} (hv : Mem w0 w L R) {vb vc rav rla rfc rcc tav tla tfn tfc tcn tcc i0 i1 i2 i3 o0 o1 o2 o3 : Nat} {rfa rca tfa tca : Option Addr} {a ta rj rk tj tk : Nat} {D E : Nat → List Nat} (h : DrS R vb vc rav rla rfc rcc tav tla tfn tfc tcn tcc i0 i1 i2 i3 o0 o1 o2 o3 rfa rca tfa tca a ta rj rk 0 0 tk D E) {dn dc : Nat} {da : Option Addr} (hk : tk = 3) (hdr : (1, .slice da dn dc, cellsB (E tk)) ∈ R) (hgd : goodB (E tk)) (hn1 : 1 ≤ dn) (hn2 : dn ≤ 180) :
   Calls Tryz.prog 13 #[.agg #[.slice (some ⟨vb, 0, none⟩) 1900 vc], .agg #[.int .i64 0, .int .i64 4, .slice rfa 0 rfc, .int .u16 rav, .int .u16 rla, .slice rca 4 rcc, .int .i64 120, .int .i64 4, .slice tfa tfn tfc, .int .u16 tav, .int .u16 tla, .slice tca tcn tcc, .int .i64 300, .int .i64 i0, .int .i64 i1, .int .i64 i2, .int .i64 i3, .int .i64 o0, .int .i64 o1, .int .i64 o2, .int .i64 o3], .slice da dn dc] w fun e w' => ∃ v R3, e = .returned v ∧ SentS R rav rla rfc rcc tla i0 i1 i2 i3 rfa rca a ta rj rk tk D E v R3 ∧ Mem w0 w' L R3 := by
 obtain ⟨M, rchs, tfree, tchs, h⟩ := h
 have hb := h.b
 have hdl := cellsB_dn hv hdr
 have he := h.e
 have hf := h.tq.free (by omega) (by omega) h.n.to
 obtain ⟨f1, f2, f3, f4⟩ := txFree_hd tk (by omega)
 rw [← hf] at f1 f2 f3 f4
 have hi := outs_idx0 tk (by omega)
 rw [← h.os] at hi
 have hset := outs_set0 tk (by omega)
 rw [← h.os] at hset
 subst hk
 refine (Send_3 (av1 := ta + (3 + 1)) (nf1 := 3 - 3) (nc1 := 3 + 1) (x1 := 3 + 1) hv h.n h.m hdr hgd hn1 hn2 (by omega) (by omega) (by omega) (by omega) f1 rfl (by decide) hi).mono ?_
 rintro e w' ⟨vb3, vc3, fc3, cc3, fa3, ca3, c3, R3, rfl, hv1, hm1, hq1, ho1, g1, g2, g3, hs1⟩
 refine ⟨_, R3, rfl, ⟨vb3, vc3, _, _, fc3, _, cc3, o0, o1, o2, _, fa3, ca3, rfl, ?_, hs1⟩, hv1⟩
 have hE : ∀ i, 0 ≤ i → i < 3 + 1 → 0 < (E i).length ∧ (E i).length ≤ 180 := fun i h1 h2 => by
   rcases Nat.lt_or_ge i 3 with h3 | h3
   · exact h.de i h1 h3
   · obtain rfl : i = 3 := by omega
     omega
 rw [← hdl] at hm1
 have htq := h.tq.add (by omega) g1 g2 g3
 have hn2 := h.n.mono hs1
 have hos : [o0, o1, o2, 3 + 1] = outs 0 (3 + 1) := hset
 exact ⟨_, rchs, tfree.drop 1, tchs ++ [c3], hm1, send_rx h.rx h.d (t := 3) (by decide) (by omega) f2 f3 f4, h.tx.send (by omega) (by decide) he.2.2.1 f2 f3 f4 f1 (fun i h1 h2 => by have := hE i h1 (by omega); omega) (by omega), .inl rfl, ⟨hn2.rq, hn2.ro, hq1, ho1, hn2.bl, by rw [hos]; exact outs_le _ (by decide) _ (by decide), hn2.rp, by rw [hos]; exact htq.perm (by omega) (by decide)⟩, h.rq, htq, hos, h.i, by omega, by omega, h.d, hE⟩
theorem Send_L {w0 w : World} {L : List (Nat × Array Value)} {R : List (Nat × Value × List Value)} (hv : Mem w0 w L R) {vb vc rav rla rfc rcc tav tla tfn tfc tcn tcc i0 i1 i2 i3 o0 o1 o2 o3 : Nat} {rfa rca tfa tca : Option Addr} {a ta rj rk tj tk : Nat} {D E : Nat → List Nat} (h : DrS R vb vc rav rla rfc rcc tav tla tfn tfc tcn tcc i0 i1 i2 i3 o0 o1 o2 o3 rfa rca tfa tca a ta rj rk 0 0 tk D E) {dn dc : Nat} {da : Option Addr} (hk : tk < 4) (hdr : (1, .slice da dn dc, cellsB (E tk)) ∈ R) (hgd : goodB (E tk)) (hn1 : 1 ≤ dn) (hn2 : dn ≤ 180) :
   Calls Tryz.prog 13 #[.agg #[.slice (some ⟨vb, 0, none⟩) 1900 vc], .agg #[.int .i64 0, .int .i64 4, .slice rfa 0 rfc, .int .u16 rav, .int .u16 rla, .slice rca 4 rcc, .int .i64 120, .int .i64 4, .slice tfa tfn tfc, .int .u16 tav, .int .u16 tla, .slice tca tcn tcc, .int .i64 300, .int .i64 i0, .int .i64 i1, .int .i64 i2, .int .i64 i3, .int .i64 o0, .int .i64 o1, .int .i64 o2, .int .i64 o3], .slice da dn dc] w fun e w' => ∃ v R3, e = .returned v ∧ SentS R rav rla rfc rcc tla i0 i1 i2 i3 rfa rca a ta rj rk tk D E v R3 ∧ Mem w0 w' L R3 := by
 rcases (show tk = 0 ∨ tk = 1 ∨ tk = 2 ∨ tk = 3 from by omega) with e | e | e | e
 · exact Send_L0 (tj := 0) hv h e hdr hgd hn1 hn2
 · exact Send_L1 (tj := 0) hv h e hdr hgd hn1 hn2
 · exact Send_L2 (tj := 0) hv h e hdr hgd hn1 hn2
 · exact Send_L3 (tj := 0) hv h e hdr hgd hn1 hn2
theorem Send_nil_L {w0 w : World} {L : List (Nat × Array Value)} {R : List (Nat × Value × List Value)} (hv : Mem w0 w L R) {vb vc rav rla rfc rcc tav tla tfn tfc tcn tcc i0 i1 i2 i3 o0 o1 o2 o3 : Nat} {rfa rca tfa tca : Option Addr} {a ta rj rk tj tk : Nat} {D E : Nat → List Nat} {tf : Nat} (h : DrS R vb vc rav rla rfc rcc tav tla tfn tfc tcn tcc i0 i1 i2 i3 o0 o1 o2 o3 rfa rca tfa tca a ta rj rk tj tf tk D E) : Calls Tryz.prog 13 #[.agg #[.slice (some ⟨vb, 0, none⟩) 1900 vc], .agg #[.int .i64 0, .int .i64 4, .slice rfa 0 rfc, .int .u16 rav, .int .u16 rla, .slice rca 4 rcc, .int .i64 120, .int .i64 4, .slice tfa tfn tfc, .int .u16 tav, .int .u16 tla, .slice tca tcn tcc, .int .i64 300, .int .i64 i0, .int .i64 i1, .int .i64 i2, .int .i64 i3, .int .i64 o0, .int .i64 o1, .int .i64 o2, .int .i64 o3], .slice none 0 0] w fun e w' => e = .returned (.tuple #[.agg #[.slice (some ⟨vb, 0, none⟩) 1900 vc], .agg #[.int .i64 0, .int .i64 4, .slice rfa 0 rfc, .int .u16 rav, .int .u16 rla, .slice rca 4 rcc, .int .i64 120, .int .i64 4, .slice tfa tfn tfc, .int .u16 tav, .int .u16 tla, .slice tca tcn tcc, .int .i64 300, .int .i64 i0, .int .i64 i1, .int .i64 i2, .int .i64 i3, .int .i64 o0, .int .i64 o1, .int .i64 o2, .int .i64 o3], .int .i64 2]) ∧ Mem w0 w' L R := by
 obtain ⟨M, rchs, tfree, tchs, h⟩ := h
 exact Send_nil hv (M := []) (D := []) h.n
theorem Fetch_L {w0 w : World} {L : List (Nat × Array Value)} {R : List (Nat × Value × List Value)} (hv : Mem w0 w L R) {vb vc rav rla rfc rcc tav tla tfn tfc tcn tcc i0 i1 i2 i3 o0 o1 o2 o3 : Nat} {rfa rca tfa tca : Option Addr} {a ta rj rk tj tk : Nat} {D E : Nat → List Nat} (h : DrS R vb vc rav rla rfc rcc tav tla tfn tfc tcn tcc i0 i1 i2 i3 o0 o1 o2 o3 rfa rca tfa tca a ta rj rk tj tj tk D E) {sn n : Nat} (hsn : sn = ta + tj) (hk : tj < tk) (hn : (E tj).length = n) :
   Calls Tryz.prog 14 #[.agg #[.slice (some ⟨vb, 0, none⟩) 1900 vc], .agg #[.int .i64 120, .int .i64 4, .int .u16 sn, .int .u16 sn]] w fun e w' => ∃ vb5 vc5 sn5 ao gc5 R5, e = .returned (.tuple #[.agg #[.slice (some ⟨vb5, 0, none⟩) 1900 vc5], .agg #[.int .i64 120, .int .i64 4, .int .u16 (sn5 : Nat), .int .u16 (sn5 : Nat)], .slice ao n gc5, .int .i64 0]) ∧ Mem w0 w' L R5 ∧ DrS R5 vb5 vc5 rav rla rfc rcc tav tla tfn tfc tcn tcc i0 i1 i2 i3 o0 o1 o2 o3 rfa rca tfa tca a ta rj rk tj (tj + 1) tk D E ∧ sn5 = ta + (tj + 1) ∧ (1, .slice ao n gc5, cellsB (E tj)) ∈ R5 ∧ ∀ x ∈ R, x ∈ R5 := by
 obtain ⟨M, rchs, tfree, tchs, h⟩ := h
 have hb := h.b
 have he := h.e
 subst hsn
 obtain ⟨p1, p2, p3⟩ := h.tx.pd tj (Nat.le_refl _) hk
 have hE := h.de tj (Nat.le_refl _) hk
 rw [hn] at p2 p3 hE
 refine (Fetch_yes (sn1 := ta + (tj + 1)) (us1 := ta + (tj + 1)) hv h.m (by omega) (by omega) (by omega) (by omega) (by omega) h.tx.ai (by omega) p1 p2 p3 hn hE.1 (by omega) (by omega)).mono ?_
 rintro e w' ⟨vb5, vc5, ao, gc5, R5, rfl, hv1, hm1, hg1, hs1⟩
 obtain ⟨t1, t2, t3⟩ := h.tx.fetch hk (by omega) rfl (fun i h1 h2 => by have := h.de i h1 h2; omega) (by omega)
 exact ⟨vb5, vc5, _, ao, gc5, R5, rfl, hv1, ⟨_, rchs, tfree, tchs, hm1, fetch_rx h.rx h.d, t1, .inr ⟨rfl, t2, t3⟩, h.n.mono hs1, h.rq, h.tq, h.os, h.i, h.e, by omega, h.d, fun i h1 h2 => h.de i (by omega) h2⟩, rfl, hg1, hs1⟩
def ReapS (R : List (Nat × Value × List Value)) (vb vc rav rla rfc rcc tav i0 i1 i2 i3 : Nat) (rfa rca : Option Addr) (a ta rj rk tj tk : Nat) (D E : Nat → List Nat) (v : Value) (R3 : List (Nat × Value × List Value)) : Prop := ∃ (tla3 tfn1 fc3 tcn1 cc3 p0 p1 p2 p3 : Nat) (fa3 ca3 : Option Addr), v = .tuple #[.agg #[.int .i64 0, .int .i64 4, .slice rfa 0 rfc, .int .u16 rav, .int .u16 rla, .slice rca 4 rcc, .int .i64 120, .int .i64 4, .slice fa3 tfn1 fc3, .int .u16 tav, .int .u16 tla3, .slice ca3 tcn1 cc3, .int .i64 300, .int .i64 i0, .int .i64 i1, .int .i64 i2, .int .i64 i3, .int .i64 p0, .int .i64 p1, .int .i64 p2, .int .i64 p3], .int .i64 0] ∧ DrS R3 vb vc rav rla rfc rcc tav tla3 tfn1 fc3 tcn1 cc3 i0 i1 i2 i3 p0 p1 p2 p3 rfa rca fa3 ca3 a ta rj rk (tj + 1) (tj + 1) tk D E ∧ ∀ x ∈ R, x ∈ R3
theorem Reap_L0 {w0 w : World} {L : List (Nat × Array Value)} {R : List (Nat × Value × List Value)} (hv : Mem w0 w L R) {vb vc rav rla rfc rcc tav tla tfn tfc tcn tcc i0 i1 i2 i3 o0 o1 o2 o3 : Nat} {rfa rca tfa tca : Option Addr} {a ta rj rk tj tk : Nat} {D E : Nat → List Nat} (h : DrS R vb vc rav rla rfc rcc tav tla tfn tfc tcn tcc i0 i1 i2 i3 o0 o1 o2 o3 rfa rca tfa tca a ta rj rk tj (tj + 1) tk D E) (hk : tj = 0) (hjk : tj < tk) :
   Calls Tryz.prog 15 #[.agg #[.slice (some ⟨vb, 0, none⟩) 1900 vc], .agg #[.int .i64 0, .int .i64 4, .slice rfa 0 rfc, .int .u16 rav, .int .u16 rla, .slice rca 4 rcc, .int .i64 120, .int .i64 4, .slice tfa tfn tfc, .int .u16 tav, .int .u16 tla, .slice tca tcn tcc, .int .i64 300, .int .i64 i0, .int .i64 i1, .int .i64 i2, .int .i64 i3, .int .i64 o0, .int .i64 o1, .int .i64 o2, .int .i64 o3]] w fun e w' => ∃ v R3, e = .returned v ∧ ReapS R vb vc rav rla rfc rcc tav i0 i1 i2 i3 rfa rca a ta rj rk tj tk D E v R3 ∧ Mem w0 w' L R3 := by
 obtain ⟨M, rchs, tfree, tchs, h⟩ := h
 obtain ⟨c0, rest, rfl, e1, e2, e3, e4⟩ := h.tq.head hjk
 have hb := h.b
 have he := h.e
 obtain ⟨he1, he2, he3, rfl, he5, he6⟩ := he
 obtain ⟨q1, q2⟩ : getN M (120 + (backN 4 + (4 + 8 * ((ta + tj) % 4)))) 4 = tj ∧ getN M (120 + (backN 4 + (4 + 8 * ((ta + tj) % 4))) + 4) 4 = 0 := by
   rcases h.fd with q | q
   · omega
   · exact q.2
 have hi := outs_idx tk (by omega) tj hjk
 rw [← h.os] at hi
 have hset := outs_clr tk (by omega) tj hjk
 rw [← h.os] at hset
 subst hk
 refine (Reap_0 (la1 := ta + (0 + 1)) (ah := 1) (tfn1 := tfn + 1) (tcn1 := tcn - 1) hv h.n h.m h.tx.ui (by omega) (by omega) (by omega) (by omega) q1 q2 e1 e2 rfl (by omega) (by omega) (by decide) hi).mono ?_
 rintro e w' ⟨fc3, cc3, fa3, ca3, free3, R3, rfl, hv1, hq1, ho1, hp1, hs1⟩
 have hn2 := h.n.mono hs1
 have hos : [0, o1, o2, o3] = outs (0 + 1) tk := hset
 refine ⟨_, R3, rfl, ⟨_, _, fc3, _, cc3, 0, o1, o2, o3, fa3, ca3, rfl, ⟨M, rchs, free3, rest, h.m.mono hs1, h.rx, h.tx, .inl rfl, ⟨hn2.rq, hn2.ro, hq1, ho1, hn2.bl, by rw [hos]; exact outs_le _ (by omega) _ (by decide), hn2.rp, by rw [hos]; exact e4.perm (by omega) (by omega)⟩, h.rq, e4, hos, h.i, by omega, by omega, h.d, h.de⟩, hs1⟩, hv1⟩
theorem Reap_L1 {w0 w : World} {L : List (Nat × Array Value)} {R : List (Nat × Value × List Value)} (hv : Mem w0 w L R) {vb vc rav rla rfc rcc tav tla tfn tfc tcn tcc i0 i1 i2 i3 o0 o1 o2 o3 : Nat} {rfa rca tfa tca : Option Addr} {a ta rj rk tj tk : Nat} {D E : Nat → List Nat} (h : DrS R vb vc rav rla rfc rcc tav tla tfn tfc tcn tcc i0 i1 i2 i3 o0 o1 o2 o3 rfa rca tfa tca a ta rj rk tj (tj + 1) tk D E) (hk : tj = 1) (hjk : tj < tk) :
   Calls Tryz.prog 15 #[.agg #[.slice (some ⟨vb, 0, none⟩) 1900 vc], .agg #[.int .i64 0, .int .i64 4, .slice rfa 0 rfc, .int .u16 rav, .int .u16 rla, .slice rca 4 rcc, .int .i64 120, .int .i64 4, .slice tfa tfn tfc, .int .u16 tav, .int .u16 tla, .slice tca tcn tcc, .int .i64 300, .int .i64 i0, .int .i64 i1, .int .i64 i2, .int .i64 i3, .int .i64 o0, .int .i64 o1, .int .i64 o2, .int .i64 o3]] w fun e w' => ∃ v R3, e = .returned v ∧ ReapS R vb vc rav rla rfc rcc tav i0 i1 i2 i3 rfa rca a ta rj rk tj tk D E v R3 ∧ Mem w0 w' L R3 := by
 obtain ⟨M, rchs, tfree, tchs, h⟩ := h
 obtain ⟨c0, rest, rfl, e1, e2, e3, e4⟩ := h.tq.head hjk
 have hb := h.b
 have he := h.e
 obtain ⟨he1, he2, he3, rfl, he5, he6⟩ := he
 obtain ⟨q1, q2⟩ : getN M (120 + (backN 4 + (4 + 8 * ((ta + tj) % 4)))) 4 = tj ∧ getN M (120 + (backN 4 + (4 + 8 * ((ta + tj) % 4))) + 4) 4 = 0 := by
   rcases h.fd with q | q
   · omega
   · exact q.2
 have hi := outs_idx tk (by omega) tj hjk
 rw [← h.os] at hi
 have hset := outs_clr tk (by omega) tj hjk
 rw [← h.os] at hset
 subst hk
 refine (Reap_1 (la1 := ta + (1 + 1)) (ah := 1) (tfn1 := tfn + 1) (tcn1 := tcn - 1) hv h.n h.m h.tx.ui (by omega) (by omega) (by omega) (by omega) q1 q2 e1 e2 rfl (by omega) (by omega) (by decide) hi).mono ?_
 rintro e w' ⟨fc3, cc3, fa3, ca3, free3, R3, rfl, hv1, hq1, ho1, hp1, hs1⟩
 have hn2 := h.n.mono hs1
 have hos : [o0, 0, o2, o3] = outs (1 + 1) tk := hset
 refine ⟨_, R3, rfl, ⟨_, _, fc3, _, cc3, o0, 0, o2, o3, fa3, ca3, rfl, ⟨M, rchs, free3, rest, h.m.mono hs1, h.rx, h.tx, .inl rfl, ⟨hn2.rq, hn2.ro, hq1, ho1, hn2.bl, by rw [hos]; exact outs_le _ (by omega) _ (by decide), hn2.rp, by rw [hos]; exact e4.perm (by omega) (by omega)⟩, h.rq, e4, hos, h.i, by omega, by omega, h.d, h.de⟩, hs1⟩, hv1⟩
theorem Reap_L2 {w0 w : World} {L : List (Nat × Array Value)} {R : List (Nat × Value × List Value)} (hv : Mem w0 w L R) {vb vc rav rla rfc rcc tav tla tfn tfc tcn tcc i0 i1 i2 i3 o0 o1 o2 o3 : Nat} {rfa rca tfa tca : Option Addr} {a ta rj rk tj tk : Nat} {D E : Nat → List Nat} (h : DrS R vb vc rav rla rfc rcc tav tla tfn tfc tcn tcc i0 i1 i2 i3 o0 o1 o2 o3 rfa rca tfa tca a ta rj rk tj (tj + 1) tk D E) (hk : tj = 2) (hjk : tj < tk) :
   Calls Tryz.prog 15 #[.agg #[.slice (some ⟨vb, 0, none⟩) 1900 vc], .agg #[.int .i64 0, .int .i64 4, .slice rfa 0 rfc, .int .u16 rav, .int .u16 rla, .slice rca 4 rcc, .int .i64 120, .int .i64 4, .slice tfa tfn tfc, .int .u16 tav, .int .u16 tla, .slice tca tcn tcc, .int .i64 300, .int .i64 i0, .int .i64 i1, .int .i64 i2, .int .i64 i3, .int .i64 o0, .int .i64 o1, .int .i64 o2, .int .i64 o3]] w fun e w' => ∃ v R3, e = .returned v ∧ ReapS R vb vc rav rla rfc rcc tav i0 i1 i2 i3 rfa rca a ta rj rk tj tk D E v R3 ∧ Mem w0 w' L R3 := by
 obtain ⟨M, rchs, tfree, tchs, h⟩ := h
 obtain ⟨c0, rest, rfl, e1, e2, e3, e4⟩ := h.tq.head hjk
 have hb := h.b
 have he := h.e
 obtain ⟨he1, he2, he3, rfl, he5, he6⟩ := he
 obtain ⟨q1, q2⟩ : getN M (120 + (backN 4 + (4 + 8 * ((ta + tj) % 4)))) 4 = tj ∧ getN M (120 + (backN 4 + (4 + 8 * ((ta + tj) % 4))) + 4) 4 = 0 := by
   rcases h.fd with q | q
   · omega
   · exact q.2
 have hi := outs_idx tk (by omega) tj hjk
 rw [← h.os] at hi
 have hset := outs_clr tk (by omega) tj hjk
 rw [← h.os] at hset
 subst hk
 refine (Reap_2 (la1 := ta + (2 + 1)) (ah := 1) (tfn1 := tfn + 1) (tcn1 := tcn - 1) hv h.n h.m h.tx.ui (by omega) (by omega) (by omega) (by omega) q1 q2 e1 e2 rfl (by omega) (by omega) (by decide) hi).mono ?_
 rintro e w' ⟨fc3, cc3, fa3, ca3, free3, R3, rfl, hv1, hq1, ho1, hp1, hs1⟩
 have hn2 := h.n.mono hs1
 have hos : [o0, o1, 0, o3] = outs (2 + 1) tk := hset
 refine ⟨_, R3, rfl, ⟨_, _, fc3, _, cc3, o0, o1, 0, o3, fa3, ca3, rfl, ⟨M, rchs, free3, rest, h.m.mono hs1, h.rx, h.tx, .inl rfl, ⟨hn2.rq, hn2.ro, hq1, ho1, hn2.bl, by rw [hos]; exact outs_le _ (by omega) _ (by decide), hn2.rp, by rw [hos]; exact e4.perm (by omega) (by omega)⟩, h.rq, e4, hos, h.i, by omega, by omega, h.d, h.de⟩, hs1⟩, hv1⟩
theorem Reap_L3 {w0 w : World} {L : List (Nat × Array Value)} {R : List (Nat × Value × List Value)} (hv : Mem w0 w L R) {vb vc rav rla rfc rcc tav tla tfn tfc tcn tcc i0 i1 i2 i3 o0 o1 o2 o3 : Nat} {rfa rca tfa tca : Option Addr} {a ta rj rk tj tk : Nat} {D E : Nat → List Nat} (h : DrS R vb vc rav rla rfc rcc tav tla tfn tfc tcn tcc i0 i1 i2 i3 o0 o1 o2 o3 rfa rca tfa tca a ta rj rk tj (tj + 1) tk D E) (hk : tj = 3) (hjk : tj < tk) :
   Calls Tryz.prog 15 #[.agg #[.slice (some ⟨vb, 0, none⟩) 1900 vc], .agg #[.int .i64 0, .int .i64 4, .slice rfa 0 rfc, .int .u16 rav, .int .u16 rla, .slice rca 4 rcc, .int .i64 120, .int .i64 4, .slice tfa tfn tfc, .int .u16 tav, .int .u16 tla, .slice tca tcn tcc, .int .i64 300, .int .i64 i0, .int .i64 i1, .int .i64 i2, .int .i64 i3, .int .i64 o0, .int .i64 o1, .int .i64 o2, .int .i64 o3]] w fun e w' => ∃ v R3, e = .returned v ∧ ReapS R vb vc rav rla rfc rcc tav i0 i1 i2 i3 rfa rca a ta rj rk tj tk D E v R3 ∧ Mem w0 w' L R3 := by
 obtain ⟨M, rchs, tfree, tchs, h⟩ := h
 obtain ⟨c0, rest, rfl, e1, e2, e3, e4⟩ := h.tq.head hjk
 have hb := h.b
 have he := h.e
 obtain ⟨he1, he2, he3, rfl, he5, he6⟩ := he
 obtain ⟨q1, q2⟩ : getN M (120 + (backN 4 + (4 + 8 * ((ta + tj) % 4)))) 4 = tj ∧ getN M (120 + (backN 4 + (4 + 8 * ((ta + tj) % 4))) + 4) 4 = 0 := by
   rcases h.fd with q | q
   · omega
   · exact q.2
 have hi := outs_idx tk (by omega) tj hjk
 rw [← h.os] at hi
 have hset := outs_clr tk (by omega) tj hjk
 rw [← h.os] at hset
 subst hk
 refine (Reap_3 (la1 := ta + (3 + 1)) (ah := 1) (tfn1 := tfn + 1) (tcn1 := tcn - 1) hv h.n h.m h.tx.ui (by omega) (by omega) (by omega) (by omega) q1 q2 e1 e2 rfl (by omega) (by omega) (by decide) hi).mono ?_
 rintro e w' ⟨fc3, cc3, fa3, ca3, free3, R3, rfl, hv1, hq1, ho1, hp1, hs1⟩
 have hn2 := h.n.mono hs1
 have hos : [o0, o1, o2, 0] = outs (3 + 1) tk := hset
 refine ⟨_, R3, rfl, ⟨_, _, fc3, _, cc3, o0, o1, o2, 0, fa3, ca3, rfl, ⟨M, rchs, free3, rest, h.m.mono hs1, h.rx, h.tx, .inl rfl, ⟨hn2.rq, hn2.ro, hq1, ho1, hn2.bl, by rw [hos]; exact outs_le _ (by omega) _ (by decide), hn2.rp, by rw [hos]; exact e4.perm (by omega) (by omega)⟩, h.rq, e4, hos, h.i, by omega, by omega, h.d, h.de⟩, hs1⟩, hv1⟩
theorem Reap_L {w0 w : World} {L : List (Nat × Array Value)} {R : List (Nat × Value × List Value)} (hv : Mem w0 w L R) {vb vc rav rla rfc rcc tav tla tfn tfc tcn tcc i0 i1 i2 i3 o0 o1 o2 o3 : Nat} {rfa rca tfa tca : Option Addr} {a ta rj rk tj tk : Nat} {D E : Nat → List Nat} (h : DrS R vb vc rav rla rfc rcc tav tla tfn tfc tcn tcc i0 i1 i2 i3 o0 o1 o2 o3 rfa rca tfa tca a ta rj rk tj (tj + 1) tk D E) (hjk : tj < tk) :
   Calls Tryz.prog 15 #[.agg #[.slice (some ⟨vb, 0, none⟩) 1900 vc], .agg #[.int .i64 0, .int .i64 4, .slice rfa 0 rfc, .int .u16 rav, .int .u16 rla, .slice rca 4 rcc, .int .i64 120, .int .i64 4, .slice tfa tfn tfc, .int .u16 tav, .int .u16 tla, .slice tca tcn tcc, .int .i64 300, .int .i64 i0, .int .i64 i1, .int .i64 i2, .int .i64 i3, .int .i64 o0, .int .i64 o1, .int .i64 o2, .int .i64 o3]] w fun e w' => ∃ v R3, e = .returned v ∧ ReapS R vb vc rav rla rfc rcc tav i0 i1 i2 i3 rfa rca a ta rj rk tj tk D E v R3 ∧ Mem w0 w' L R3 := by
 have hb : tk ≤ 4 := by obtain ⟨M, rchs, tfree, tchs, h⟩ := h; have := h.b; omega
 rcases (show tj = 0 ∨ tj = 1 ∨ tj = 2 ∨ tj = 3 from by omega) with e | e | e | e
 · exact Reap_L0 hv h e hjk
 · exact Reap_L1 hv h e hjk
 · exact Reap_L2 hv h e hjk
 · exact Reap_L3 hv h e hjk
theorem Reap_none_L {w0 w : World} {L : List (Nat × Array Value)} {R : List (Nat × Value × List Value)} (hv : Mem w0 w L R) {vb vc rav rla rfc rcc tav tla tfn tfc tcn tcc i0 i1 i2 i3 o0 o1 o2 o3 : Nat} {rfa rca tfa tca : Option Addr} {a ta rj rk tj tk : Nat} {D E : Nat → List Nat} (h : DrS R vb vc rav rla rfc rcc tav tla tfn tfc tcn tcc i0 i1 i2 i3 o0 o1 o2 o3 rfa rca tfa tca a ta rj rk tj tj tk D E) :
   Calls Tryz.prog 15 #[.agg #[.slice (some ⟨vb, 0, none⟩) 1900 vc], .agg #[.int .i64 0, .int .i64 4, .slice rfa 0 rfc, .int .u16 rav, .int .u16 rla, .slice rca 4 rcc, .int .i64 120, .int .i64 4, .slice tfa tfn tfc, .int .u16 tav, .int .u16 tla, .slice tca tcn tcc, .int .i64 300, .int .i64 i0, .int .i64 i1, .int .i64 i2, .int .i64 i3, .int .i64 o0, .int .i64 o1, .int .i64 o2, .int .i64 o3]] w fun e w' => e = .returned (.tuple #[.agg #[.int .i64 0, .int .i64 4, .slice rfa 0 rfc, .int .u16 rav, .int .u16 rla, .slice rca 4 rcc, .int .i64 120, .int .i64 4, .slice tfa tfn tfc, .int .u16 tav, .int .u16 tla, .slice tca tcn tcc, .int .i64 300, .int .i64 i0, .int .i64 i1, .int .i64 i2, .int .i64 i3, .int .i64 o0, .int .i64 o1, .int .i64 o2, .int .i64 o3], .int .i64 7]) ∧ Mem w0 w' L R := by
 obtain ⟨M, rchs, tfree, tchs, h⟩ := h
 have hb := h.b
 have he := h.e
 obtain ⟨he1, he2, he3, rfl, he5, he6⟩ := he
 exact Reap_none hv h.n h.m h.tx.ui (by omega)
theorem Check_L {w0 w : World} {L : List (Nat × Array Value)} {R : List (Nat × Value × List Value)} (hv : Mem w0 w L R) {vb vc rav rla rfc rcc tav tla tfn tfc tcn tcc i0 i1 i2 i3 o0 o1 o2 o3 : Nat} {rfa rca tfa tca : Option Addr} {a ta rj rk tj tk : Nat} {D E : Nat → List Nat} {tf : Nat} (h : DrS R vb vc rav rla rfc rcc tav tla tfn tfc tcn tcc i0 i1 i2 i3 o0 o1 o2 o3 rfa rca tfa tca a ta rj rk tj tf tk D E) : Calls Tryz.prog 12 #[.agg #[.int .i64 0, .int .i64 4, .slice rfa 0 rfc, .int .u16 rav, .int .u16 rla, .slice rca 4 rcc, .int .i64 120, .int .i64 4, .slice tfa tfn tfc, .int .u16 tav, .int .u16 tla, .slice tca tcn tcc, .int .i64 300, .int .i64 i0, .int .i64 i1, .int .i64 i2, .int .i64 i3, .int .i64 o0, .int .i64 o1, .int .i64 o2, .int .i64 o3]] w fun e w' => e = .returned (.bool true) ∧ New w w' := by
 obtain ⟨M, rchs, tfree, tchs, h⟩ := h
 exact NCheck_ok hv h.n
end Go.Proofs.YtjmibgomkgkhnaaGreat
end
