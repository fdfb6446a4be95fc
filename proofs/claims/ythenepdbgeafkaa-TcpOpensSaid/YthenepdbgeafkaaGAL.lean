import Derived.Test.YthenepdbgeafkaaGAK
import Derived.Test.YthenepdbgeafkaaGAA
import Derived.Test.YthenepdbgeafkaaGAJ
set_option linter.unusedSimpArgs false
set_option linter.unusedVariables false
set_option maxRecDepth 100000
set_option maxHeartbeats 8000000
section
/-
 fresh: the loop.
-/
namespace Go.Proofs.Ythenepdbgeafkaa
open Go.Proofs.Wi Go.RowKit
def FreshR (w0 : World) (L : LV) (R : LR) (m : Nat) (c : List Sp) (e : Ending) (w' : World) : Prop :=
 ∃ ao n cap S R', e = .returned (.slice ao n cap) ∧ Mem w0 w' L ((2, .slice ao n cap, cellsS S) :: (R' ++ R)) ∧ spOf S = c ∧ AllS (R' ++ R) S ∧ S.length ≤ m
theorem fresh_any (x : Int) (da : Option Addr) (dn dc : Nat) (d : List Nat) (ha : Option Addr) (hn hc : Nat) (H : List SpV) (w0 w : World) (L : LV) (R : LR) (hv0 : Mem w0 w L R) (hd : (1, .slice da dn dc, cellsB d) ∈ R) (hh : (2, .slice ha hn hc, cellsS H) ∈ R) (hal : AllS R H) (hHl : hn ≤ 1000) (hb : ∀ p ∈ H, -1000000000000 ≤ p.1 ∧ p.1 ≤ 900000000000 ∧ p.2.2.length ≤ 1000000) (hx1 : -1000000000000 ≤ x) (hx2 : x ≤ 900000000000) (hdn : dn ≤ 1000000) :
   Calls Try.prog 80 #[.agg #[.int .i64 x, .slice da dn dc], .slice ha hn hc] w (FreshR w0 L R (hn + 1) (fresh (x, d) x (spOf H))) := by
 have hv := hv0
 have HD := Lib.hid hd
 have HH := Lib.hid hh
 have HAL := Lib.hid hal
 have HB := Lib.hid hb
 have HLN := Lib.hid (len_rdS (hv0.rd hh))
 have HDN := Lib.hid (len_rd1 (hv0.rd hd))
 have HX : Hid (-1000000000000 ≤ x ∧ x ≤ 1000000000000 ∧ dn ≤ 1000000) := Lib.hid ⟨hx1, by omega, hdn⟩
 have kE := fun w' => end_any x da dn dc (by omega) (by omega) hdn w'
 obtain ⟨c, hc0⟩ : ∃ c, fresh (x, d) x (spOf H) = c := ⟨_, rfl⟩
 rw [hc0]
 have HC := Lib.hid hc0
 clear hv0 hd hh hal hb hdn hc0
 go_enter Try.func80, Try.ntmps80
 go_wp2_with (first
   | ((with_reducible refine gBx 92 2 ?_); refine nwB hv #[.int .i64 x, .slice da dn dc] 92 ?_; clear hv; intro b2 w2 hv)
   | ((with_reducible refine gAl 89 5 ?_); refine nwB hv #[.slice none 0 0] 89 ?_; clear hv; intro b5 w2 hv)
   | ((with_reducible refine gAl 3 6 ?_); refine nwB hv #[.int .i64 0] 3 ?_; clear hv; intro b6 w2 hv)
   | ((with_reducible refine gLd 3 ?_); refine ldC hv b2 0 _ Try.underlying3 ?_)
   | ((with_reducible refine gSt 3 ?_); refine stC hv b6 0 (.int .i64 x) ?_; clear hv; intro w2 hv))
 go_loopw [15] (fun i wr => ∃ (k : Nat) (fr : Int) (v : Value) (O : LV) (S : List SpV) (R' : LR), k ≤ hn ∧ i = .int .i64 k ∧ Mem w0 wr ((b6, #[.int .i64 fr]) :: (b5, #[v]) :: (b2, #[.int .i64 x, .slice da dn dc]) :: (O ++ L)) (R' ++ R) ∧ Hid (OwnL 2 v (cellsS S) O) ∧ Hid (AllS (R' ++ R) S) ∧ Hid (S.length ≤ k) ∧ Hid (spOf S ++ fresh (x, d) fr (spOf (H.drop k)) = c) ∧ Hid (-1000000000000 ≤ fr ∧ fr ≤ 1000000000000)) (fun i _ => hn - (intOf i).toNat)
 case atStart => exact ⟨0, x, _, [], [], [], Nat.zero_le _, rfl, hv, Lib.hid (OwnL.nil 2), Lib.hid (fun p hp => (List.not_mem_nil hp).elim), Lib.hid (Nat.zero_le _), Lib.hid HC.out, Lib.hid ⟨hx1, by omega⟩⟩
 case round =>
   clear hv
   obtain ⟨k, fr, v, O, S, R', hk, rfl, hv, HO, HAS, HSK, HEQ, HFR⟩ := hrel
   obtain ⟨va, vn, vc, rfl, _⟩ := id HO.out.slice
   have HS5 : Hid (S.length ≤ 5000) := Lib.hid (by have := HSK.out; omega)
   have HDR : Hid ((1, .slice da dn dc, cellsB d) ∈ R' ++ R) := Lib.hid (List.mem_append_right _ HD.out)
   have HHR : Hid ((2, .slice ha hn hc, cellsS H) ∈ R' ++ R) := Lib.hid (List.mem_append_right _ HH.out)
   by_cases hk2 : k < hn
   · have hki : (k : Int) < (hn : Int) := by omega
     have hkl : k < H.length := by rw [HLN.out]; exact hk2
     obtain ⟨⟨hx, dv, ed⟩, hxe⟩ : ∃ z, H[k] = z := ⟨_, rfl⟩
     have hdm := HAL.out H[k] (List.getElem_mem hkl)
     have hbm := HB.out H[k] (List.getElem_mem hkl)
     rw [hxe] at hdm hbm
     simp only at hdm hbm
     obtain ⟨ea, en, ec, rfl, _⟩ := id (hv.rd (List.mem_append_right _ hdm))
     have hen : ed.length = en := len_rd1 (hv.rd (List.mem_append_right _ hdm))
     have HK : Hid (((cellsS H).drop (k * 2)).take 2 = [.int .i64 hx, .slice ea en ec]) := Lib.hid (by rw [cellsS_part H k hkl, hxe])
     have HDK := Lib.hid (spOf_drop H hkl hxe)
     obtain ⟨hb1, ho1, _, _, e, _⟩ := (hv.rd HHR.out).some (by rw [cellsS_len]; omega)
     cases e
     have HTT : Hid (-1000000000000 ≤ hx ∧ hx ≤ 1000000000000) := Lib.hid ⟨hbm.1, by omega⟩
     have HEN := Lib.hid hen
     have EN1 : Hid (∀ w', Calls Try.prog 65 #[.agg #[.int .i64 hx, .slice ea en ec]] w' fun e w2 => e = .returned (.int .i64 (hx + (en : Int))) ∧ New w' w2) := Lib.hid (fun w' => end_any hx ea en ec (by omega) (by omega) (by omega) w')
     have HBE : Hid (-1000000000000 ≤ hx + (en : Int) ∧ hx + (en : Int) ≤ 1000000000000) := Lib.hid (by omega)
     have HKN : Hid (k < hn) := Lib.hid hk2
     have HKB : Hid (k ≤ 1000) := Lib.hid (by omega)
     clear hxe hdm hbm hkl hen hk2 hk
     go_wp2_with (first
       | ((with_reducible refine at_load (T := 92) ?_); refine wl_rdv rfl (hv.rd HHR.out) (k * 2) rfl 2 _ Try.underlying92 rfl infoSp (by decide) #[.int .i64 hx, .slice ea en ec] HK.out rfl ?_)
       | ((with_reducible refine gAl 92 9 ?_); refine nwB hv #[.int .i64 0, .slice none 0 0] 92 ?_; clear hv; intro b9 w2 hv)
       | ((with_reducible refine gSt 92 ?_); refine stV hv b9 2 infoSp ?_; clear hv; intro w2 hv)
       | ((with_reducible refine gLd 3 ?_); refine ldC hv b9 0 _ Try.underlying3 ?_)
       | (go_at_call 82; (refine (add_any x fr hx da dn dc d b6 b5 b2 (.slice va vn vc) O S w0 _ ((b9, #[.int .i64 hx, .slice ea en ec]) :: L) _ (hv.perm (perm4 _ _ _ _ O L)) HO.out HS5.out HDR.out HX.out.1 HX.out.2.1 HFR.out.1 HFR.out.2 HTT.out.1 HTT.out.2 HX.out.2.2).mono ?_); rintro e w7 ⟨v2, O2, S2, R2, rfl, hv1, hO2, hs2, ha2, hl2⟩; replace hv := hv1.perm (perm4 (b9, #[.int .i64 hx, .slice ea en ec]) _ _ _ O2 L).symm; clear hv1; obtain ⟨ua, un, uc, rfl, _⟩ := id hO2.slice; have HO2 := Lib.hid hO2; have HS2 := Lib.hid hs2; have HA2 := Lib.hid ha2; have HL2 := Lib.hid hl2; clear hO2 hs2 ha2 hl2))
     have HEQ2 : Hid (spOf (S ++ S2) ++ fresh (x, d) (max fr (hx + (en : Int))) (spOf (H.drop (k + 1))) = c) := Lib.hid (by
       have := HEQ.out
       rw [HDK.out] at this
       unfold fresh at this
       simp only [HEN.out] at this
       rw [spOf_app, HS2.out, List.append_assoc]
       exact this)
     have HAS2 : Hid (AllS ((R2 ++ R') ++ R) (S ++ S2)) := Lib.hid (fun p hp => by
       rw [List.append_assoc]
       rcases List.mem_append.1 hp with hp | hp
       · exact List.mem_append_right _ (HAS.out p hp)
       · exact HA2.out p hp)
     have HSK2 : Hid ((S ++ S2).length ≤ k + 1) := Lib.hid (by rw [List.length_append]; have := HSK.out; have := HL2.out; omega)
     rw [← List.append_assoc] at hv
     by_cases hm : fr < hx + (en : Int)
     · have hmx : max fr (hx + (en : Int)) = hx + (en : Int) := by omega
       rw [hmx] at HEQ2
       have hmg : hx + (en : Int) > fr := hm
       clear hmx
       refine Any.wr4 5 [(0, [1001], none), (1, [1000], none), (4, [1001], some 1001)] [(4, .put)] hv ?_
       simp only [Any.someVals]
       iterate 5 apply Exists.intro
       repeat ((first
        | refine Any.E_off rfl ?_
        | ((with_reducible refine Any.gE 3 ?_); refine Any.eC 1001 _ Try.underlying3 ?_)
        | ((with_reducible refine Any.gE 92 ?_); refine Any.eW 1000 2 Try.underlying92 infoSp ?_)
        | (apply Any.E_val rfl rfl rfl rfl
           case h =>
            intro E' hA K hK
            first
             | (go_big_quiet_op; first
                | (refine hK _ ?_; rfl)
                | (refine ⟨_, fun _ _ => rfl, ?_⟩; refine hK _ ?_; rfl)
                | (apply Exists.intro; refine ⟨fun w1 hw1 => ?_, ?_⟩; · (first
                    | (go_at_call 65; exact Any.calls_VE (EN1.out _) hw1))
                   refine hK _ ?_; rfl))
           case hD => rfl)
        | ((with_reducible refine Any.at_estore (T := 3) ?_); refine Any.E_putc (T := 3) rfl rfl rfl rfl rfl rfl (by kernel_rfl) rfl (by simp) ?_)); simp only [Act.put, sia, scs, scz])
       try any_goals exact undef
       refine Any.fin4 hv [1000, 1001, 1002, 1003] ?_; clear hv; intro w9 hv
       go_wp2
       have hkb := HKB.out
       go_roundw
       case rel => exact ⟨k + 1, hx + (en : Int), _, O2, S ++ S2, R2 ++ R', by have := HKN.out; omega, by go_num, hv.drop, HO2, HAS2, HSK2, HEQ2, HBE⟩
       case measure => simp [intOf]; have := HKN.out; omega
     · have hmx : max fr (hx + (en : Int)) = fr := by omega
       rw [hmx] at HEQ2
       have hmg : ¬ hx + (en : Int) > fr := by omega
       clear hmx
       refine Any.wr4 5 [(0, [1001], none), (1, [1000], none), (4, [1001], some 1001)] [(4, .put)] hv ?_
       simp only [Any.someVals]
       iterate 5 apply Exists.intro
       repeat ((first
        | refine Any.E_off rfl ?_
        | ((with_reducible refine Any.gE 3 ?_); refine Any.eC 1001 _ Try.underlying3 ?_)
        | ((with_reducible refine Any.gE 92 ?_); refine Any.eW 1000 2 Try.underlying92 infoSp ?_)
        | (apply Any.E_val rfl rfl rfl rfl
           case h =>
            intro E' hA K hK
            first
             | (go_big_quiet_op; first
                | (refine hK _ ?_; rfl)
                | (refine ⟨_, fun _ _ => rfl, ?_⟩; refine hK _ ?_; rfl)
                | (apply Exists.intro; refine ⟨fun w1 hw1 => ?_, ?_⟩; · (first
                    | (go_at_call 65; exact Any.calls_VE (EN1.out _) hw1))
                   refine hK _ ?_; rfl))
           case hD => rfl)
        | ((with_reducible refine Any.at_estore (T := 3) ?_); refine Any.E_putc (T := 3) rfl rfl rfl rfl rfl rfl (by kernel_rfl) rfl (by simp) ?_)); simp only [Act.put, sia, scs, scz])
       try any_goals exact undef
       refine Any.fin4 hv [1000, 1001, 1002, 1003] ?_; clear hv; intro w9 hv
       go_wp2
       have hkb := HKB.out
       go_roundw
       case rel => exact ⟨k + 1, fr, _, O2, S ++ S2, R2 ++ R', by have := HKN.out; omega, by go_num, hv.drop, HO2, HAS2, HSK2, HEQ2, HFR⟩
       case measure => simp [intOf]; have := HKN.out; omega
   · have hki : ¬ (k : Int) < (hn : Int) := by omega
     have HTT : Hid (-1000000000000 ≤ x + (dn : Int) ∧ x + (dn : Int) ≤ 1000000000000) := Lib.hid (by have := HX.out.2.2; omega)
     have HDK : Hid (H.drop k = []) := Lib.hid (List.drop_eq_nil_of_le (by rw [HLN.out]; omega))
     have HSK3 : Hid (k = hn) := Lib.hid (by omega)
     clear hk hk2
     go_wp2_with (first
       | ((with_reducible refine gLd 92 ?_); refine ldV hv b2 2 Try.underlying92 infoSp ?_)
       | (go_at_call 65; (with_reducible refine (kE _).mono ?_); rintro e w1 ⟨rfl, hn1⟩; replace hv := hv.new hn1; clear hn1)
       | (go_at_call 82; (refine (add_any x fr (x + (dn : Int)) da dn dc d b6 b5 b2 (.slice va vn vc) O S w0 _ L _ hv HO.out HS5.out HDR.out HX.out.1 HX.out.2.1 HFR.out.1 HFR.out.2 HTT.out.1 HTT.out.2 HX.out.2.2).mono ?_); rintro e w7 ⟨v2, O2, S2, R2, rfl, hv1, hO2, hs2, ha2, hl2⟩; replace hv := hv1; clear hv1; obtain ⟨ua, un, uc, rfl, _⟩ := id hO2.slice; have HO2 := Lib.hid hO2; have HS2 := Lib.hid hs2; have HA2 := Lib.hid ha2; have HL2 := Lib.hid hl2; clear hO2 hs2 ha2 hl2)
       | ((with_reducible refine gLd 89 ?_); refine ldC hv b5 0 _ Try.underlying89 ?_))
     go_ret
     refine ⟨_, _, _, S ++ S2, R2 ++ R', rfl, ?_, ?_, ?_, ?_⟩
     · rw [List.append_assoc]
       exact HO2.out.yield (A := []) (B := L) (by rw [List.nil_append]; exact hv.drop.drop.drop)
     · have := HEQ.out
       rw [HDK.out] at this
       unfold fresh at this
       rw [spOf_app, HS2.out, ← HDN.out]
       exact this
     · intro p hp
       rw [List.append_assoc]
       rcases List.mem_append.1 hp with hp | hp
       · exact List.mem_append_right _ (HAS.out p hp)
       · exact HA2.out p hp
     · rw [List.length_append]
       have := HSK.out
       have := HL2.out
       have := HSK3.out
       omega
end Go.Proofs.Ythenepdbgeafkaa
end

section
/-
 A connection at work in memory (layer 26): its row, what it reads, what it sends.
-/
namespace Go.Proofs.Tp
open Go Go.RowKit Go.Proofs.Wi
abbrev Gv := G × Value
def encG (g : Gv) : List Value := [.int .i64 (g.1.src : Nat), .int .i64 (g.1.dst : Nat), .int .u32 (g.1.seq : Nat), .int .u32 (g.1.ack : Nat), .int .i64 (g.1.fl : Nat), .int .i64 (g.1.wnd : Nat), g.2]
def cellsG (l : List Gv) : List Value := l.flatMap encG
theorem cellsG_len (l : List Gv) : (cellsG l).length = l.length * 7 := flat_len (enc := encG) (fun _ => rfl) l
theorem cellsG_snoc (l : List Gv) (x : Gv) : cellsG (l ++ [x]) = cellsG l ++ encG x := by simp [cellsG]
theorem cellsG_app (l m : List Gv) : cellsG (l ++ m) = cellsG l ++ cellsG m := by simp [cellsG]
def AllG (R : LR) (l : List Gv) : Prop := ∀ g ∈ l, (1, g.2, cellsB g.1.data) ∈ R
theorem AllG.mono {R R' : LR} {l : List Gv} (h : AllG R l) (hs : ∀ x ∈ R, x ∈ R') : AllG R' l := fun p hp => hs _ (h p hp)
def rowT (t : T) (dv bv pv : Value) : Array Value := #[.int .i64 t.st, .int .i64 t.lo, .int .u32 t.ip, .int .i64 t.po, .int .u32 t.iss, .int .u32 t.una, .int .u32 t.nx, dv, .int .i64 t.wnd, .bool t.en, .bool t.se, .int .u32 t.inn.next, bv, pv, .bool t.ed, .int .u64 t.tm, .int .i64 t.rto, .int .i64 t.tr, .int .i64 t.er]
def rowC (t : T) (nw : Nat) (dv bv pv ov : Value) : Array Value := #[.int .i64 t.st, .int .i64 t.lo, .int .u32 t.ip, .int .i64 t.po, .int .u32 t.iss, .int .u32 t.una, .int .u32 t.nx, dv, .int .i64 t.wnd, .bool t.en, .bool t.se, .int .u32 t.inn.next, bv, pv, .bool t.ed, .int .u64 t.tm, .int .i64 t.rto, .int .i64 t.tr, .int .i64 t.er, .int .u64 nw, ov]
structure U32 (t : T) : Prop where
 una : t.una < 4294967296
 nx : t.nx < 4294967296
 iss : t.iss < 4294967296
 inn : t.inn.next < 4294967296
 ip : t.ip < 4294967296
structure InC (R : LR) (t : T) (da : Option Addr) (dn dk : Nat) (ba : Option Addr) (bn bk : Nat) (pa : Option Addr) (pn pk : Nat) (l : List PcV) : Prop where
 d : (1, .slice da dn dk, cellsB t.data) ∈ R
 s : InS R t.inn.next (.slice ba bn bk) (.slice pa pn pk) t.inn l
 ck : chk t.inn = true
 u : U32 t
theorem InC.mono {R R' : LR} {t : T} {da ba pa : Option Addr} {dn dk bn bk pn pk : Nat} {l : List PcV} (h : InC R t da dn dk ba bn bk pa pn pk l) (hs : ∀ x ∈ R, x ∈ R') : InC R' t da dn dk ba bn bk pa pn pk l := ⟨hs _ h.d, h.s.mono hs, h.ck, h.u⟩
structure OutC (R : LR) (out : List G) (ov : Value) (gs : List Gv) (O : LV) : Prop where
 own : OwnL 7 ov (cellsG gs) O
 all : AllG R gs
 eq : gs.map (·.1) = out
theorem OutC.mono {R R' : LR} {out : List G} {ov : Value} {gs : List Gv} {O : LV} (h : OutC R out ov gs O) (hs : ∀ x ∈ R, x ∈ R') : OutC R' out ov gs O := ⟨h.own, h.all.mono hs, h.eq⟩
theorem OutC.len {R : LR} {out : List G} {ov : Value} {gs : List Gv} {O : LV} (h : OutC R out ov gs O) : gs.length = out.length := by rw [← h.eq]; simp
def CM (w0 w : World) (bc : Nat) (L : LV) (R : LR) (nw : Nat) (c : C) : Prop :=
 ∃ da dn dk ba bn bk pa pn pk l ov gs O, Mem w0 w ((bc, rowC c.t nw (.slice da dn dk) (.slice ba bn bk) (.slice pa pn pk) ov) :: (O ++ L)) R ∧ InC R c.t da dn dk ba bn bk pa pn pk l ∧ OutC R c.out ov gs O
theorem CM.get {w0 w : World} {bc nw : Nat} {L : LV} {R : LR} {t : T} {out : List G} (h : CM w0 w bc L R nw ⟨t, out⟩) :
   ∃ da dn dk ba bn bk pa pn pk l ov gs O, Mem w0 w ((bc, #[.int .i64 t.st, .int .i64 t.lo, .int .u32 t.ip, .int .i64 t.po, .int .u32 t.iss, .int .u32 t.una, .int .u32 t.nx, .slice da dn dk, .int .i64 t.wnd, .bool t.en, .bool t.se, .int .u32 t.inn.next, .slice ba bn bk, .slice pa pn pk, .bool t.ed, .int .u64 t.tm, .int .i64 t.rto, .int .i64 t.tr, .int .i64 t.er, .int .u64 nw, ov]) :: (O ++ L)) R ∧ Hid (InC R t da dn dk ba bn bk pa pn pk l) ∧ Hid (OutC R out ov gs O) := by
 obtain ⟨da, dn, dk, ba, bn, bk, pa, pn, pk, l, ov, gs, O, hv, hI, hO⟩ := h
 exact ⟨da, dn, dk, ba, bn, bk, pa, pn, pk, l, ov, gs, O, hv, Lib.hid hI, Lib.hid hO⟩
theorem perm_cm {α : Type} (A O L : List α) (x : α) : (A ++ x :: (O ++ L)).Perm (x :: (O ++ (A ++ L))) := by
 refine (List.perm_middle).trans (List.Perm.cons _ ?_)
 rw [← List.append_assoc, ← List.append_assoc]
 exact List.Perm.append_right _ List.perm_append_comm
theorem CM.of {w0 w : World} {bc nw : Nat} {A L : LV} {R : LR} {c : C} {da ba pa : Option Addr} {dn dk bn bk pn pk : Nat} {l : List PcV} {ov : Value} {gs : List Gv} {O : LV}
   (hv : Mem w0 w (A ++ (bc, rowC c.t nw (.slice da dn dk) (.slice ba bn bk) (.slice pa pn pk) ov) :: (O ++ L)) R) (hI : InC R c.t da dn dk ba bn bk pa pn pk l) (hO : OutC R c.out ov gs O) : CM w0 w bc (A ++ L) R nw c :=
 ⟨da, dn, dk, ba, bn, bk, pa, pn, pk, l, ov, gs, O, hv.perm (perm_cm A O L _), hI, hO⟩
theorem CM.back {w0 w : World} {bc nw : Nat} {A L : LV} {R : LR} {c : C} (h : CM w0 w bc (A ++ L) R nw c) :
   ∃ da dn dk ba bn bk pa pn pk l ov gs O, Mem w0 w (A ++ (bc, rowC c.t nw (.slice da dn dk) (.slice ba bn bk) (.slice pa pn pk) ov) :: (O ++ L)) R ∧ InC R c.t da dn dk ba bn bk pa pn pk l ∧ OutC R c.out ov gs O := by
 obtain ⟨da, dn, dk, ba, bn, bk, pa, pn, pk, l, ov, gs, O, hv, hI, hO⟩ := h
 exact ⟨da, dn, dk, ba, bn, bk, pa, pn, pk, l, ov, gs, O, hv.perm (perm_cm A O L _).symm, hI, hO⟩
def CMP (w0 : World) (bc : Nat) (L : LV) (R : LR) (nw : Nat) (v : Value) (c : C) (e : Ending) (w' : World) : Prop :=
 ∃ R', e = .returned v ∧ CM w0 w' bc L (R' ++ R) nw c
theorem CMP.mk0 {w0 w' : World} {bc nw : Nat} {L : LV} {R : LR} {v : Value} {c : C} (h : CM w0 w' bc L R nw c) : CMP w0 bc L R nw v c (.returned v) w' := ⟨[], rfl, h⟩
theorem u32_lt (n : Nat) : u32 n < 4294967296 := by unfold u32; omega
theorem mem_app {α : Type} {x : α} {l : List α} (k : List α) (h : x ∈ l) : x ∈ k ++ l := List.mem_append_right _ h
end Go.Proofs.Tp
end

section
/-
 Two ends side by side in one variable (the tcp laws' pair): its cells. No program in sight.
-/
namespace Go.Proofs.Tp
open Go Go.RowKit Go.Proofs.Wi
def rowP (r0 : Array Value) (i0 : Value) (l0 : Nat) (g0 : Value) (r1 : Array Value) (i1 : Value) (l1 : Nat) (g1 : Value) : Array Value := (r0 ++ #[i0, .int .i64 l0, g0]) ++ (r1 ++ #[i1, .int .i64 l1, g1])
section
variable {r0 r1 r : Array Value} {i0 g0 i1 g1 v : Value} {l0 l1 l : Nat}
theorem rowP_size (h0 : r0.size = 19) (h1 : r1.size = 19) : (rowP r0 i0 l0 g0 r1 i1 l1 g1).size = 44 := by
 unfold rowP
 simp only [Array.size_append, h0, h1]
 rfl
theorem rowP_a (h0 : r0.size = 19) {k : Nat} (hk : k < 19) : (rowP r0 i0 l0 g0 r1 i1 l1 g1)[k]? = r0[k]? := by
 unfold rowP
 rw [Array.getElem?_append_left (by rw [Array.size_append, h0]; show k < 19 + 3; omega), Array.getElem?_append_left (by omega)]
theorem rowP_b (h0 : r0.size = 19) (h1 : r1.size = 19) {k : Nat} (hk : k < 19) : (rowP r0 i0 l0 g0 r1 i1 l1 g1)[22 + k]? = r1[k]? := by
 unfold rowP
 rw [Array.getElem?_append_right (by rw [Array.size_append, h0]; show 19 + 3 ≤ 22 + k; omega), Array.getElem?_append_left (by rw [Array.size_append, h0]; show 22 + k - (19 + 3) < r1.size; omega)]
 congr 1
 rw [Array.size_append, h0]
 show 22 + k - (19 + 3) = k
 omega
theorem rowP_a3 (h0 : r0.size = 19) {k : Nat} (hk : k < 3) : (rowP r0 i0 l0 g0 r1 i1 l1 g1)[19 + k]? = #[i0, Value.int .i64 l0, g0][k]? := by
 unfold rowP
 rw [Array.getElem?_append_left (by rw [Array.size_append, h0]; show 19 + k < 19 + 3; omega), Array.getElem?_append_right (by omega), h0, Nat.add_sub_cancel_left]
theorem rowP_b3 (h0 : r0.size = 19) (h1 : r1.size = 19) {k : Nat} (hk : k < 3) : (rowP r0 i0 l0 g0 r1 i1 l1 g1)[41 + k]? = #[i1, Value.int .i64 l1, g1][k]? := by
 unfold rowP
 have e : (r0 ++ #[i0, Value.int .i64 l0, g0]).size = 22 := by rw [Array.size_append, h0]; rfl
 rw [Array.getElem?_append_right (by rw [e]; omega), e, Array.getElem?_append_right (by omega), h1]
 congr 1
 omega
theorem rowP_i0 (h0 : r0.size = 19) : (rowP r0 i0 l0 g0 r1 i1 l1 g1)[19]? = some i0 := rowP_a3 h0 (k := 0) (by decide)
theorem rowP_l0 (h0 : r0.size = 19) : (rowP r0 i0 l0 g0 r1 i1 l1 g1)[20]? = some (.int .i64 l0) := rowP_a3 h0 (k := 1) (by decide)
theorem rowP_g0 (h0 : r0.size = 19) : (rowP r0 i0 l0 g0 r1 i1 l1 g1)[21]? = some g0 := rowP_a3 h0 (k := 2) (by decide)
theorem rowP_i1 (h0 : r0.size = 19) (h1 : r1.size = 19) : (rowP r0 i0 l0 g0 r1 i1 l1 g1)[41]? = some i1 := rowP_b3 h0 h1 (k := 0) (by decide)
theorem rowP_l1 (h0 : r0.size = 19) (h1 : r1.size = 19) : (rowP r0 i0 l0 g0 r1 i1 l1 g1)[42]? = some (.int .i64 l1) := rowP_b3 h0 h1 (k := 1) (by decide)
theorem rowP_g1 (h0 : r0.size = 19) (h1 : r1.size = 19) : (rowP r0 i0 l0 g0 r1 i1 l1 g1)[43]? = some g1 := rowP_b3 h0 h1 (k := 2) (by decide)
theorem rowP_ext (h0 : r0.size = 19) (h1 : r1.size = 19) {s : Array Value} (hs : s.size = 44) (ha : ∀ k, k < 19 → s[k]? = r0[k]?) (hb : ∀ k, k < 19 → s[22 + k]? = r1[k]?) (e0 : s[19]? = some i0) (e1 : s[20]? = some (.int .i64 l0)) (e2 : s[21]? = some g0) (e3 : s[41]? = some i1) (e4 : s[42]? = some (.int .i64 l1)) (e5 : s[43]? = some g1) : s = rowP r0 i0 l0 g0 r1 i1 l1 g1 := by
 apply Array.ext_getElem?
 intro k
 rcases Nat.lt_or_ge k 19 with h | h
 · rw [ha k h, rowP_a h0 h]
 · rcases Nat.lt_or_ge k 22 with h' | h'
   · rcases (show k = 19 ∨ k = 20 ∨ k = 21 by omega) with rfl | rfl | rfl
     · rw [e0, rowP_i0 h0]
     · rw [e1, rowP_l0 h0]
     · rw [e2, rowP_g0 h0]
   · rcases Nat.lt_or_ge k 41 with h'' | h''
     · obtain ⟨j, rfl⟩ : ∃ j, k = 22 + j := ⟨k - 22, by omega⟩
       rw [hb j (by omega), rowP_b h0 h1 (by omega)]
     · rcases Nat.lt_or_ge k 44 with h3 | h3
       · rcases (show k = 41 ∨ k = 42 ∨ k = 43 by omega) with rfl | rfl | rfl
         · rw [e3, rowP_i1 h0 h1]
         · rw [e4, rowP_l1 h0 h1]
         · rw [e5, rowP_g1 h0 h1]
       · rw [Array.getElem?_eq_none (by omega), Array.getElem?_eq_none (by rw [rowP_size h0 h1]; omega)]
theorem extract_of {c r : Array Value} {o n : Nat} (hr : r.size = n) (hc : o + n ≤ c.size) (h : ∀ k, k < n → c[o + k]? = r[k]?) : c.extract o (o + n) = r := by
 apply Array.ext_getElem?
 intro k
 rw [Array.getElem?_extract]
 by_cases hk : k < n
 · rw [if_pos (by omega)]; exact h k hk
 · rw [if_neg (by omega), Array.getElem?_eq_none (by omega)]
theorem rowP_t0 (h0 : r0.size = 19) (h1 : r1.size = 19) : (rowP r0 i0 l0 g0 r1 i1 l1 g1).extract 0 (0 + 19) = r0 :=
 extract_of h0 (by rw [rowP_size h0 h1]; decide) fun k hk => by rw [Nat.zero_add]; exact rowP_a h0 hk
theorem rowP_t1 (h0 : r0.size = 19) (h1 : r1.size = 19) : (rowP r0 i0 l0 g0 r1 i1 l1 g1).extract 22 (22 + 19) = r1 :=
 extract_of h1 (by rw [rowP_size h0 h1]; decide) fun k hk => rowP_b h0 h1 hk
theorem rowP_s0 (h0 : r0.size = 19) (h1 : r1.size = 19) (h : r.size = 19) : splice (rowP r0 i0 l0 g0 r1 i1 l1 g1) 0 r = rowP r i0 l0 g0 r1 i1 l1 g1 := by
 have hz := rowP_size (i0 := i0) (l0 := l0) (g0 := g0) (i1 := i1) (l1 := l1) (g1 := g1) h0 h1
 have hb : 0 + r.size ≤ (rowP r0 i0 l0 g0 r1 i1 l1 g1).size := by omega
 refine rowP_ext h h1 (by rw [size_splice _ _ _ hb, hz]) (fun k hk => ?_) (fun k hk => ?_) ?_ ?_ ?_ ?_ ?_ ?_
 · rw [get_splice _ _ _ hb, if_neg (by omega), if_pos (by omega)]; rfl
 · rw [get_splice _ _ _ hb, if_neg (by omega), if_neg (by omega)]; exact rowP_b h0 h1 hk
 · rw [get_splice _ _ _ hb, if_neg (by omega), if_neg (by omega)]; exact rowP_i0 h0
 · rw [get_splice _ _ _ hb, if_neg (by omega), if_neg (by omega)]; exact rowP_l0 h0
 · rw [get_splice _ _ _ hb, if_neg (by omega), if_neg (by omega)]; exact rowP_g0 h0
 · rw [get_splice _ _ _ hb, if_neg (by omega), if_neg (by omega)]; exact rowP_i1 h0 h1
 · rw [get_splice _ _ _ hb, if_neg (by omega), if_neg (by omega)]; exact rowP_l1 h0 h1
 · rw [get_splice _ _ _ hb, if_neg (by omega), if_neg (by omega)]; exact rowP_g1 h0 h1
theorem rowP_s1 (h0 : r0.size = 19) (h1 : r1.size = 19) (h : r.size = 19) : splice (rowP r0 i0 l0 g0 r1 i1 l1 g1) 22 r = rowP r0 i0 l0 g0 r i1 l1 g1 := by
 have hz := rowP_size (i0 := i0) (l0 := l0) (g0 := g0) (i1 := i1) (l1 := l1) (g1 := g1) h0 h1
 have hb : 22 + r.size ≤ (rowP r0 i0 l0 g0 r1 i1 l1 g1).size := by omega
 refine rowP_ext h0 h (by rw [size_splice _ _ _ hb, hz]) (fun k hk => ?_) (fun k hk => ?_) ?_ ?_ ?_ ?_ ?_ ?_
 · rw [get_splice _ _ _ hb, if_pos (by omega)]; exact rowP_a h0 hk
 · rw [get_splice _ _ _ hb, if_neg (by omega), if_pos (by omega), Nat.add_sub_cancel_left]
 · rw [get_splice _ _ _ hb, if_pos (by omega)]; exact rowP_i0 h0
 · rw [get_splice _ _ _ hb, if_pos (by omega)]; exact rowP_l0 h0
 · rw [get_splice _ _ _ hb, if_pos (by omega)]; exact rowP_g0 h0
 · rw [get_splice _ _ _ hb, if_neg (by omega), if_neg (by omega)]; exact rowP_i1 h0 h1
 · rw [get_splice _ _ _ hb, if_neg (by omega), if_neg (by omega)]; exact rowP_l1 h0 h1
 · rw [get_splice _ _ _ hb, if_neg (by omega), if_neg (by omega)]; exact rowP_g1 h0 h1
end
end Go.Proofs.Tp
end
