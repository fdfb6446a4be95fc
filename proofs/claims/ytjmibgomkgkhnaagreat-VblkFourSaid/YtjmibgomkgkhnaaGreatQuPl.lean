import Derived.Test.YtjmibgomkgkhnaaGreatQuBk
set_option linter.unusedSimpArgs false
set_option linter.unusedVariables false
set_option maxRecDepth 100000
set_option maxHeartbeats 16000000
section
/-
 A driver looks what comes back: Poll.
-/
namespace Go.Proofs.Qu
open Go Go.RowKit Go.Proofs.Nm
def idxF {α : Type} (p : α → Bool) (l : List α) : Int := match l.findIdx? p with | none => -1 | some k => (k : Int)
theorem idxF_some {α : Type} {p : α → Bool} {l : List α} {k : Nat} {x : α} (hx : l[k]? = some x) (hp : p x = true) (h : ∀ j, j < k → ∀ y, l[j]? = some y → p y = false) : idxF p l = (k : Int) := by
 obtain ⟨h1, h2⟩ := List.getElem?_eq_some_iff.1 hx
 have e : l.findIdx? p = some k := List.findIdx?_eq_some_iff_getElem.2 ⟨h1, by rw [h2]; exact hp, fun j hj => by
   have := h j hj l[j] (List.getElem?_eq_getElem (by omega))
   simp [this]⟩
 unfold idxF; rw [e]
theorem idxF_none {α : Type} {p : α → Bool} {l : List α} (h : ∀ j, j < l.length → ∀ y, l[j]? = some y → p y = false) : idxF p l = -1 := by
 have e : l.findIdx? p = none := List.findIdx?_eq_none_iff.2 fun x hx => by
   obtain ⟨j, hj⟩ := List.mem_iff_getElem?.1 hx
   exact h j (List.getElem?_eq_some_iff.1 hj).1 x hj
 unfold idxF; rw [e]
theorem chain_cells (l : List Chn) {k : Nat} (hk : k < l.length) : ((cellsC l).drop (k * 3)).take 3 = encC l[k] := part_flat (k := 3) (en := encC) (fun _ => rfl) l k hk
end Go.Proofs.Qu
namespace Go.Proofs.YtjmibgomkgkhnaaGreat
open Go.Proofs.Qu Go.Proofs.Nm Go.RowKit Go.Proofs
theorem Poll1_ok {bu id_ len_ : Nat} (c_h c_b c_0 c_n c_c c_r : Nat) (hh : c_h < 65536) (w : World) (hrow : w.rowD bu = #[.int .u32 id_, .int .u32 len_]) (hlt : bu < w.heap.size) :
   Calls Tryz.prog 65 #[.agg #[.int .i64 c_h, .slice (some ⟨c_b, c_0, none⟩) c_n c_c, .int .i64 c_r], .pointer (some ⟨bu, 0, none⟩)] w fun e w' => e = .returned (.bool (c_h == id_)) ∧ New w w' := by
 have hv := Mem.nil w
 have HROW := Lib.hid hrow
 have HLT := Lib.hid hlt
 have q1 : IntKind.u32.wrap (c_h : Int) = (c_h : Int) := wrap32 (by omega)
 have y1 : ((c_h : Int) == (id_ : Int)) = (c_h == id_) := by
   by_cases h : c_h = id_
   · subst h; simp
   · have h' : ¬ (c_h : Int) = (id_ : Int) := by omega
     rw [beq_eq_false_iff_ne.2 h, beq_eq_false_iff_ne.2 h']
 obtain ⟨bb, hbb⟩ : ∃ bb, (c_h == id_) = bb := ⟨_, rfl⟩
 rw [hbb] at y1 ⊢
 clear hrow hlt hh hbb
 go_enter Tryz.func65, Tryz.ntmps65
 go_wp2_with (first
   | ((with_reducible refine at_box (T := 124) (dst := some 2) ?_); refine wl_newb rfl #[.int .i64 c_h, .slice (some ⟨c_b, c_0, none⟩) c_n c_c, .int .i64 c_r] 124 (fun _ => rfl) ?_; intro b2 w2 hm2; replace hv := hv.madeAt hm2; clear hm2)
   | ((with_reducible refine at_load (T := 3) ?_); refine wl_ldc rfl b2 0 rfl _ hv.vars.ro _ Tryz.underlying3 rfl (.int .i64 c_h) rfl ?_)
   | ((with_reducible refine at_load (T := 135) ?_); refine wl_ldc rfl bu 0 rfl _ ((New.row hv.below HLT.out).trans HROW.out) _ Tryz.underlying135 rfl (.int .u32 id_) rfl ?_))
 go_ret
 exact ⟨rfl, hv.below⟩
theorem IndexC_any {v : Value} {l : List Chn} (hl100 : l.length ≤ 100000) {f : FuncId} {cap : Array Value} (p : Chn → Bool) (hE : Enters Tryz.prog f) (w : World) (hr : Rd w 3 v (cellsC l)) (hdo : ∀ c ∈ l, ∀ w1, New w w1 → Calls Tryz.prog f (#[.agg #[.int .i64 (c.h : Nat), .slice (some ⟨c.db, c.d0, none⟩) c.dn c.dc, .int .i64 (c.rm : Nat)]] ++ cap) w1 fun e w' => e = .returned (.bool (p c)) ∧ New w1 w') :
   Calls Tryz.prog 64 #[v, .func (.func f) #[] cap] w fun e w' => e = .returned (.int .i64 (idxF p l)) ∧ New w w' := by
 have hv := (Mem.nil w).old hr
 obtain ⟨aa, an, ac, rfl, g1, _⟩ := id hr
 rw [cellsC_len] at g1
 have HL : Hid ((3, Value.slice aa an ac, cellsC l) ∈ [(3, Value.slice aa an ac, cellsC l)]) := Lib.hid Mem.z
 have HE := Lib.hid hE
 have HDO := Lib.hid hdo
 have hln : l.length = an := by omega
 have HLN := Lib.hid hln
 have HAB : Hid (an ≤ 100000) := Lib.hid (by omega)
 obtain ⟨res, hres⟩ : ∃ r, idxF p l = r := ⟨_, rfl⟩
 have HRES := Lib.hid hres
 rw [hres]
 clear hl100 hE hdo hr hln g1 hres
 go_enter Tryz.func64, Tryz.ntmps64
 go_wp2
 go_loopw [8] (fun kv wr => ∃ k : Nat, k ≤ an ∧ kv = .int .i64 k ∧ Hid (∀ j, j < k → ∀ y, l[j]? = some y → p y = false) ∧ Mem w wr [] [(3, Value.slice aa an ac, cellsC l)]) (fun kv _ => an - (intOf kv).toNat)
 case atStart => exact ⟨0, Nat.zero_le _, rfl, Lib.hid (fun j hj => absurd hj (Nat.not_lt_zero _)), hv⟩
 case round =>
   clear hv
   obtain ⟨k, hk0, rfl, HNO, hv⟩ := hrel
   by_cases hk : k < an
   · have hki : (k : Int) < (an : Int) := by omega
     have hkb : (k : Int) ≤ 100000 := by have := HAB.out; omega
     have hkl : k < l.length := by rw [HLN.out]; exact hk
     obtain ⟨⟨c_h, c_b, c_0, c_n, c_c, c_r, c_ds⟩, hc⟩ : ∃ c, l[k] = c := ⟨_, rfl⟩
     have HX : Hid (l[k]? = some ⟨c_h, c_b, c_0, c_n, c_c, c_r, c_ds⟩) := Lib.hid (by rw [List.getElem?_eq_getElem hkl, hc])
     have HKC : Hid (((cellsC l).drop (k * 3)).take 3 = [.int .i64 c_h, .slice (some ⟨c_b, c_0, none⟩) c_n c_c, .int .i64 c_r]) := Lib.hid (by
       have := chain_cells l hkl
       rw [hc] at this; exact this)
     obtain ⟨pb, hpb⟩ : ∃ b, p ⟨c_h, c_b, c_0, c_n, c_c, c_r, c_ds⟩ = b := ⟨_, rfl⟩
     have HP : Hid (∀ w1, New w w1 → Calls Tryz.prog f (#[.agg #[.int .i64 c_h, .slice (some ⟨c_b, c_0, none⟩) c_n c_c, .int .i64 c_r]] ++ cap) w1 fun e w' => e = .returned (.bool pb) ∧ New w1 w') := Lib.hid (fun w1 hn => by
       have := HDO.out l[k] (List.getElem_mem _) w1 hn
       rw [hc, hpb] at this; exact this)
     obtain ⟨xb, xo, _, _, e, hq⟩ := (hv.rd HL.out).some (by rw [cellsC_len]; omega)
     clear hq
     cases e
     have HKN := Lib.hid hk
     have HPB := Lib.hid hpb
     clear hkl hc hk0 hk hpb
     cases pb with
     | false =>
       go_wp2_with (first
         | ((with_reducible refine at_load (T := 124) ?_); refine wl_rdv rfl (hv.rd HL.out) (k * 3) rfl 3 _ Tryz.underlying124 rfl infoC3 (by decide) #[.int .i64 c_h, .slice (some ⟨c_b, c_0, none⟩) c_n c_c, .int .i64 c_r] HKC.out rfl ?_)
         | ((with_reducible refine at_call ?_); refine wl_callv rfl HE.out rfl [.agg #[.int .i64 c_h, .slice (some ⟨c_b, c_0, none⟩) c_n c_c, .int .i64 c_r]] rfl (HP.out _ hv.below) ?_; rintro e w1 ⟨rfl, hn1⟩; refine ⟨_, rfl, ?_⟩; replace hv := hv.new hn1; clear hn1))
       have hkn := HKN.out
       go_roundw
       case rel => exact ⟨k + 1, by omega, by go_num, Lib.hid (fun j hj y hy => by
         rcases Nat.lt_succ_iff_lt_or_eq.1 hj with h | h
         · exact HNO.out j h y hy
         · rw [h, HX.out] at hy; cases hy; exact HPB.out), hv⟩
       case measure => simp [intOf]; omega
     | true =>
       go_wp2_with (first
         | ((with_reducible refine at_load (T := 124) ?_); refine wl_rdv rfl (hv.rd HL.out) (k * 3) rfl 3 _ Tryz.underlying124 rfl infoC3 (by decide) #[.int .i64 c_h, .slice (some ⟨c_b, c_0, none⟩) c_n c_c, .int .i64 c_r] HKC.out rfl ?_)
         | ((with_reducible refine at_call ?_); refine wl_callv rfl HE.out rfl [.agg #[.int .i64 c_h, .slice (some ⟨c_b, c_0, none⟩) c_n c_c, .int .i64 c_r]] rfl (HP.out _ hv.below) ?_; rintro e w1 ⟨rfl, hn1⟩; refine ⟨_, rfl, ?_⟩; replace hv := hv.new hn1; clear hn1))
       go_ret
       exact ⟨ret_i (by rw [← HRES.out]; exact (idxF_some HX.out HPB.out HNO.out).symm), hv.below⟩
   · have hki : ¬ (k : Int) < (an : Int) := by omega
     have hn : ∀ j, j < l.length → ∀ y, l[j]? = some y → p y = false := fun j hj => HNO.out j (by rw [HLN.out] at hj; omega)
     have HN := Lib.hid hn
     clear hk hk0 hn
     go_wp2
     go_ret
     exact ⟨ret_i (by rw [← HRES.out]; exact (idxF_none HN.out).symm), hv.below⟩
theorem sub16 {us la ah : Nat} (h1 : us < 65536) (h2 : la < 65536) (h : (us + 65536 - la) % 65536 = ah) : IntKind.u16.wrap ((us : Int) - (la : Int)) = (ah : Int) := by
 have e : IntKind.u16.wrap ((us : Int) - (la : Int)) = ((us : Int) - (la : Int)) % 65536 := rfl
 rw [e]; omega
theorem Poll_none {w0 w : World} {L : List (Nat × Array Value)} {R : List (Nat × Value × List Value)} {mb mo mn mc : Nat} {M : List Nat} (hv : Mem w0 w L R) (hm : InM R mb mo mn mc M) {base n av la : Nat} {fv cv : Value} {free : List Nat} {chs : List Chn} (hq : InQ R fv cv free chs) (hok : OkQ n free chs) (hb : base + sizeN n ≤ mn) {us ah : Nat} (hus : getN M (base + (backN n + 2)) 2 = us) (hah : (us + 65536 - la) % 65536 = ah) (hla : la < 65536) (h0 : ah = 0) :
   Calls Tryz.prog 32 #[(.agg #[(.slice (some ⟨mb, mo, none⟩) mn mc)]), .agg #[.int .i64 base, .int .i64 n, fv, .int .u16 av, .int .u16 la, cv]] w fun e w' => e = .returned (.tuple #[.agg #[.int .i64 base, .int .i64 n, fv, .int .u16 av, .int .u16 la, cv], .int .i64 0, .int .i64 0, .int .i64 7]) ∧ New w w' := by
 have hv0 := hv
 clear hv
 have hv : Mem w w [] R := ⟨Vars.nil w, fun x hx => ⟨(hv0.rds x hx).1, fun _ _ _ _ _ _ p hp => (List.not_mem_nil hp).elim⟩⟩
 clear hv0
 have hv_ := hv
 obtain ⟨fa, fn, fc, rfl, _⟩ := id (hv_.rd hq.fr)
 obtain ⟨ca, cn, cc, rfl, gc, _⟩ := id (hv_.rd hq.ch)
 rw [cellsC_len] at gc
 have hcn : chs.length = cn := by omega
 have hus2 : us < 65536 := by rw [← hus]; exact getN_lt' hm.good _ (k := 2) (by decide)
 have hle := hok.sz.le
 have hlen := hok.len
 have hchl := chs_len (fun c hc => (hok.hd c hc).1)
 have HM := Lib.hid hm
 have HQ := Lib.hid hq
 have HOK := Lib.hid hok
 have HB := Lib.hid hb
 have HUS := Lib.hid hus
 have q1 : IntKind.u16.wrap ((us : Int) - (la : Int)) = (ah : Int) := sub16 hus2 hla hah
 have y1 : ((ah : Int) == 0) = true := by rw [h0]; rfl
 clear hv_ hm hq hok hb hus hah hla gc hcn hus2 hle hlen hchl h0
 go_enter Tryz.func32, Tryz.ntmps32
 go_wp2_with (first
   | ((with_reducible refine at_box (T := 26) (dst := some 2) ?_); refine wl_newb rfl #[(.slice (some ⟨mb, mo, none⟩) mn mc)] 26 (fun _ => rfl) ?_; intro b2 w2 hm2; replace hv := hv.madeAt hm2; clear hm2)
   | ((with_reducible refine at_box (T := 30) (dst := some 3) ?_); refine wl_newb rfl #[.int .i64 base, .int .i64 n, .slice fa fn fc, .int .u16 av, .int .u16 la, .slice ca cn cc] 30 (fun _ => rfl) ?_; intro b3 w2 hm2; replace hv := hv.madeAt hm2; clear hm2)
   | ((with_reducible refine at_alloc (T := 30) (dst := some 4) ?_); refine wl_newb rfl #[.int .i64 0, .int .i64 0, .slice none 0 0, .int .u16 0, .int .u16 0, .slice none 0 0] 30 (fun _ => rfl) ?_; intro b4 w2 hm2; replace hv := hv.madeAt hm2; clear hm2)
   | ((with_reducible refine at_load (T := 26) ?_); refine wl_ldv rfl b2 rfl _ hv.vars.ro 1 _ Tryz.underlying26 rfl infoM (by decide) rfl ?_)
   | ((with_reducible refine at_load (T := 30) ?_); refine wl_ldv rfl b3 rfl _ hv.vars.ro 6 _ Tryz.underlying30 rfl infoQ (by decide) rfl ?_)
   | (go_at_call 61; (with_reducible refine (QRight_ok hv HM.out HQ.out HOK.out HB.out).mono ?_); rintro e w1 ⟨rfl, hn1⟩; replace hv := hv.new hn1; clear hn1)
   | ((with_reducible refine at_build ?_); refine wl_build rfl _ rfl (built_wrk _ _ _ _ _ _ _ _ _ _) ?_)
   | ((with_reducible refine at_box (T := 146) (dst := some 23) ?_); refine wl_newb rfl #[.int .i64 base, .int .i64 n, .slice fa fn fc, .int .u16 av, .int .u16 la, .slice ca cn cc, (.slice (some ⟨mb, mo, none⟩) mn mc)] 146 (fun _ => rfl) ?_; intro b23 w2 hm2; replace hv := hv.madeAt hm2; clear hm2)
   | ((with_reducible refine at_load (T := 3) ?_); refine wl_ldc rfl b3 0 rfl _ hv.vars.ro _ Tryz.underlying3 rfl (.int .i64 base) rfl ?_)
   | ((with_reducible refine at_load (T := 3) ?_); refine wl_ldc rfl b3 1 rfl _ hv.vars.ro _ Tryz.underlying3 rfl (.int .i64 n) rfl ?_)
   | (go_at_call 62; (with_reducible refine (Used_w HM.out.ok base n HOK.out.sz HB.out HUS.out _ (hv.rd HM.out.rd)).mono ?_); rintro e w1 ⟨rfl, hn1⟩; replace hv := hv.new hn1; clear hn1)
   | ((with_reducible refine at_load (T := 27) ?_); refine wl_ldc rfl b23 4 rfl _ hv.vars.ro _ Tryz.underlying27 rfl (.int .u16 la) rfl ?_)
   | ((with_reducible refine at_store (T := 30) ?_); refine wl_stv rfl b4 rfl _ rfl _ hv.vars.ro hv.vars.so 6 infoQ rfl rfl (by simp [Value.oneCell']) ?_; intro w2 hw2; replace hv := hv.sets (by repeat first | exact .z | apply SetM.s) hw2; clear hw2))
 try simp only [Exit.inBlock, Exit.then]
 exact ret_cttt (v := .agg #[.int .i64 base, .int .i64 n, .slice fa fn fc, .int .u16 av, .int .u16 la, .slice ca cn cc]) (v1 := .int .i64 0) (v2 := .int .i64 0) (v3 := .int .i64 7) rfl rfl (read_row _ b4 30 _ (hv.vars.ro (b := b4)) 6 _ Tryz.underlying30 rfl infoQ (by decide) rfl) rfl rfl rfl rfl ⟨rfl, hv.below⟩
end Go.Proofs.YtjmibgomkgkhnaaGreat
end

section
/-
 A driver looks what comes back: Poll, one comes, or what was never handed over.
-/
namespace Go.Proofs.Qu
open Go Go.RowKit Go.Proofs.Nm
theorem ds_le : ∀ {chs : List Chn} {c : Chn}, c ∈ chs → c.ds.length ≤ (chs.flatMap (·.ds)).length := by
 intro chs
 induction chs with
 | nil => intro c h; exact absurd h List.not_mem_nil
 | cons x r ih =>
   intro c h
   rw [List.flatMap_cons, List.length_append]
   rcases List.mem_cons.1 h with rfl | h
   · omega
   · have := ih h; omega
end Go.Proofs.Qu
namespace Go.Proofs.YtjmibgomkgkhnaaGreat
open Go.Proofs.Qu Go.Proofs.Nm Go.RowKit Go.Proofs
theorem infoUsd : (Tryz.prog.info? 142).map (·.size) = some 2 := by kernel_rfl
theorem Poll_ok {w0 w : World} {L : List (Nat × Array Value)} {R : List (Nat × Value × List Value)} {mb mo mn mc : Nat} {M : List Nat} (hv : Mem w0 w L R) (hm : InM R mb mo mn mc M) {base n av la : Nat} {fv cv : Value} {free : List Nat} {chs : List Chn} (hq : InQ R fv cv free chs) (hok : OkQ n free chs) (hb : base + sizeN n ≤ mn) {us ah : Nat} (hus : getN M (base + (backN n + 2)) 2 = us) (hah : (us + 65536 - la) % 65536 = ah) (hla : la < 65536) (hah0 : ah ≠ 0) (hahc : ah ≤ chs.length) {id_ len_ : Nat} (hid : getN M (base + (backN n + (4 + 8 * (la % n)))) 4 = id_) (hlen_ : getN M (base + (backN n + (4 + 8 * (la % n))) + 4) 4 = len_) {at_ : Nat} {c : Chn} (hix : idxF (fun c => c.h == id_) chs = (at_ : Int)) (hc : chs[at_]? = some c) (hrm : len_ ≤ c.rm) :
   Calls Tryz.prog 32 #[(.agg #[(.slice (some ⟨mb, mo, none⟩) mn mc)]), .agg #[.int .i64 base, .int .i64 n, fv, .int .u16 av, .int .u16 la, cv]] w fun e w' => ∃ fv' cv' free' R', e = .returned (.tuple #[.agg #[.int .i64 base, .int .i64 n, fv', .int .u16 av, .int .u16 ((la + 1) % 65536 : Nat), cv'], .int .i64 id_, .int .i64 len_, .int .i64 0]) ∧ Mem w0 w' L R' ∧ InQ R' fv' cv' free' (chs.eraseIdx at_) ∧ free'.Perm (free ++ c.ds) ∧ free'.Pairwise (· ≤ ·) ∧ ∀ x ∈ R, x ∈ R' := by
 have hv_ := hv
 obtain ⟨fa, fn, fc, rfl, _⟩ := id (hv_.rd hq.fr)
 obtain ⟨ca, cn, cc, rfl, gc, _⟩ := id (hv_.rd hq.ch)
 rw [cellsC_len] at gc
 have hcn : chs.length = cn := by omega
 have hus2 : us < 65536 := by rw [← hus]; exact getN_lt' hm.good _ (k := 2) (by decide)
 have hle := hok.sz.le
 have hlen := hok.len
 have hchl := chs_len (fun c hc => (hok.hd c hc).1)
 have HM := Lib.hid hm
 have HQ := Lib.hid hq
 have HOK := Lib.hid hok
 have HB := Lib.hid hb
 have HUS := Lib.hid hus
 have q1 : IntKind.u16.wrap ((us : Int) - (la : Int)) = (ah : Int) := sub16 hus2 hla hah
 have hat := (List.getElem?_eq_some_iff.1 hc).1
 have hcm := List.mem_of_getElem? hc
 have hdsle := ds_le hcm
 have hhd := hok.hd _ hcm
 obtain ⟨c_h, c_b, c_0, c_n, c_c, c_r, c_ds⟩ := c
 have hcx := chain_cells chs hat
 rw [(List.getElem?_eq_some_iff.1 hc).2] at hcx
 have HCR : Hid ((cellsC chs)[at_ * 3 + 2]? = some (.int .i64 c_r)) := Lib.hid (by
   have := congrArg (fun l => l[2]?) hcx
   simp only [List.getElem?_take, List.getElem?_drop] at this
   exact this)
 have hati : (at_ : Int) < (cn : Int) := by omega
 obtain ⟨cb, co, _, _, e9, hq9⟩ := (hv_.rd hq.ch).some (by rw [cellsC_len]; omega)
 clear hq9
 cases e9
 have HL1 : Hid (chs.length ≤ 100000) := Lib.hid (by omega)
 have HHB : Hid (∀ c ∈ chs, c.h < 65536) := Lib.hid (fun c hc => by
   have h1 := (hok.hd c hc).1
   have h2 := hok.le c.h (List.mem_append_right _ (List.mem_flatMap.2 ⟨c, hc, List.mem_of_getElem? h1⟩))
   omega)
 have HUA : Hid (∀ w1, Rd w1 1 (.slice (some ⟨mb, mo, none⟩) mn mc) (cellsB M) → Calls Tryz.prog 63 #[(.agg #[(.slice (some ⟨mb, mo, none⟩) mn mc)]), .int .i64 base, .int .i64 n, .int .u16 la] w1 fun e w' => e = .returned (.tuple #[.agg #[.int .u32 id_, .int .u32 len_], .int .i64 0]) ∧ New w1 w') := Lib.hid (fun w1 hr => UsedAt_w hm.ok base n la hok.sz hb hla hid hlen_ w1 hr)
 have HIX := Lib.hid hix
 have hlb : len_ < 4294967296 := by rw [← hlen_]; exact getN_lt' hm.good _ (k := 4) (by decide)
 have hib : id_ < 4294967296 := by rw [← hid]; exact getN_lt' hm.good _ (k := 4) (by decide)
 have y1 : ((ah : Int) == 0) = false := by rw [beq_eq_false_iff_ne]; omega
 have y2 : decide ((cn : Int) < (ah : Int)) = false := decide_eq_false (by omega)
 have z2 : decide (cn < ah) = false := decide_eq_false (by omega)
 have q2 : IntKind.i64.wrap (ah : Int) = (ah : Int) := IntWalk.i64_in _ (by omega)
 have q3 : IntKind.i64.wrap (len_ : Int) = (len_ : Int) := IntWalk.i64_in _ (by omega)
 have q4 : IntKind.i64.wrap (id_ : Int) = (id_ : Int) := IntWalk.i64_in _ (by omega)
 obtain ⟨la2, hla2⟩ : ∃ j, (la + 1) % 65536 = j := ⟨_, rfl⟩
 have q5 : IntKind.u16.wrap ((la : Int) + 1) = (la2 : Int) := by rw [inc16, hla2]
 rw [hla2]
 have y3 : decide ((at_ : Int) < 0) = false := decide_eq_false (by omega)
 have y4 : decide ((c_r : Int) < (len_ : Int)) = false := decide_eq_false (by simp only at hrm; omega)
 have z4 : decide (c_r < len_) = false := decide_eq_false (by simp only at hrm; omega)
 have HC := Lib.hid hc
 have HD0 : Hid (0 < c_ds.length) := Lib.hid (List.getElem?_eq_some_iff.1 hhd.1).1
 have HD16 : Hid (free.length + c_ds.length ≤ 16) := Lib.hid (by simp only at hdsle; omega)
 have HC16 : Hid (chs.length ≤ 16) := Lib.hid (by omega)
 clear hv_ hm hq hok hb hus hah hla gc hcn hus2 hle hlen hchl hah0 hahc hid hlen_ hlb hib hix hla2 hat hcm hdsle hhd hcx hrm hc
 go_enter Tryz.func32, Tryz.ntmps32
 go_wp2_with (first
   | ((with_reducible refine at_box (T := 26) (dst := some 2) ?_); refine wl_newb rfl #[(.slice (some ⟨mb, mo, none⟩) mn mc)] 26 (fun _ => rfl) ?_; intro b2 w2 hm2; replace hv := hv.madeAt hm2; clear hm2)
   | ((with_reducible refine at_box (T := 30) (dst := some 3) ?_); refine wl_newb rfl #[.int .i64 base, .int .i64 n, .slice fa fn fc, .int .u16 av, .int .u16 la, .slice (some ⟨cb, co, none⟩) cn cc] 30 (fun _ => rfl) ?_; intro b3 w2 hm2; replace hv := hv.madeAt hm2; clear hm2)
   | ((with_reducible refine at_alloc (T := 30) (dst := some 4) ?_); refine wl_newb rfl #[.int .i64 0, .int .i64 0, .slice none 0 0, .int .u16 0, .int .u16 0, .slice none 0 0] 30 (fun _ => rfl) ?_; intro b4 w2 hm2; replace hv := hv.madeAt hm2; clear hm2)
   | ((with_reducible refine at_load (T := 26) ?_); refine wl_ldv rfl b2 rfl _ hv.vars.ro 1 _ Tryz.underlying26 rfl infoM (by decide) rfl ?_)
   | ((with_reducible refine at_load (T := 30) ?_); refine wl_ldv rfl b3 rfl _ hv.vars.ro 6 _ Tryz.underlying30 rfl infoQ (by decide) rfl ?_)
   | (go_at_call 61; (with_reducible refine (QRight_ok hv HM.out HQ.out HOK.out HB.out).mono ?_); rintro e w1 ⟨rfl, hn1⟩; replace hv := hv.new hn1; clear hn1)
   | ((with_reducible refine at_build ?_); refine wl_build rfl _ rfl (built_wrk _ _ _ _ _ _ _ _ _ _) ?_)
   | ((with_reducible refine at_box (T := 146) (dst := some 23) ?_); refine wl_newb rfl #[.int .i64 base, .int .i64 n, .slice fa fn fc, .int .u16 av, .int .u16 la, .slice (some ⟨cb, co, none⟩) cn cc, (.slice (some ⟨mb, mo, none⟩) mn mc)] 146 (fun _ => rfl) ?_; intro b23 w2 hm2; replace hv := hv.madeAt hm2; clear hm2)
   | ((with_reducible refine at_load (T := 3) ?_); refine wl_ldc rfl b3 0 rfl _ hv.vars.ro _ Tryz.underlying3 rfl (.int .i64 base) rfl ?_)
   | ((with_reducible refine at_load (T := 3) ?_); refine wl_ldc rfl b3 1 rfl _ hv.vars.ro _ Tryz.underlying3 rfl (.int .i64 n) rfl ?_)
   | (go_at_call 62; (with_reducible refine (Used_w HM.out.ok base n HOK.out.sz HB.out HUS.out _ (hv.rd HM.out.rd)).mono ?_); rintro e w1 ⟨rfl, hn1⟩; replace hv := hv.new hn1; clear hn1)
   | ((with_reducible refine at_load (T := 27) ?_); refine wl_ldc rfl b23 4 rfl _ hv.vars.ro _ Tryz.underlying27 rfl (.int .u16 la) rfl ?_)
   | ((with_reducible refine at_load (T := 28) ?_); refine wl_ldc rfl b23 5 rfl _ hv.vars.ro _ Tryz.underlying28 rfl (.slice (some ⟨cb, co, none⟩) cn cc) rfl ?_))
 replace hv : Mem w0 _ ([(b23, _), (b4, _), (b3, _), (b2, _)] ++ L) _ := hv
 have HPM := Lib.hid (Any.rd_start (hv.keep (List.sublist_append_left [(b23, #[.int .i64 base, .int .i64 n, .slice fa fn fc, .int .u16 av, .int .u16 la, .slice (some ⟨cb, co, none⟩) cn cc, (.slice (some ⟨mb, mo, none⟩) mn mc)]), (b4, #[.int .i64 0, .int .i64 0, .slice none 0 0, .int .u16 0, .int .u16 0, .slice none 0 0]), (b3, #[.int .i64 base, .int .i64 n, .slice fa fn fc, .int .u16 av, .int .u16 la, .slice (some ⟨cb, co, none⟩) cn cc]), (b2, #[(.slice (some ⟨mb, mo, none⟩) mn mc)])] L)) HM.out.rd)
 refine Any.wp_region_walk [⟨[1003], none⟩, ⟨[], none⟩, ⟨[], none⟩, ⟨[], none⟩, ⟨[], none⟩, ⟨[1000], none⟩, ⟨[], none⟩, ⟨[], none⟩, ⟨[], none⟩, ⟨[], none⟩, ⟨[1000], none⟩, ⟨[], none⟩, ⟨[], none⟩, ⟨[], none⟩, ⟨[], none⟩, ⟨[1000], none⟩, ⟨[], none⟩, ⟨[], none⟩, ⟨[], none⟩, ⟨[], none⟩, ⟨[], some 12⟩, ⟨[12], some 12⟩, ⟨[], none⟩] [.val, .val, .val, .val, .val, .val, .val, .val, .val, .val, .val, .val, .val, .val, .val, .val, .val, .val, .val, .val, .lay #[.int .u32 0, .int .u32 0], .put, .val] (by kernel_rfl) (by kernel_rfl) (hv.vars.keep (List.sublist_append_left [(b23, #[.int .i64 base, .int .i64 n, .slice fa fn fc, .int .u16 av, .int .u16 la, .slice (some ⟨cb, co, none⟩) cn cc, (.slice (some ⟨mb, mo, none⟩) mn mc)]), (b4, #[.int .i64 0, .int .i64 0, .slice none 0 0, .int .u16 0, .int .u16 0, .slice none 0 0]), (b3, #[.int .i64 base, .int .i64 n, .slice fa fn fc, .int .u16 av, .int .u16 la, .slice (some ⟨cb, co, none⟩) cn cc]), (b2, #[(.slice (some ⟨mb, mo, none⟩) mn mc)])] L)) ?_
 simp only [List.length_cons, List.length_nil, Nat.zero_add, Any.someVals]
 iterate 23 apply Exists.intro
 repeat (first
   | (refine Any.E_off rfl ?_; simp only [Act.put, sia, scs, scz])
   | (apply Any.E_pureq rfl rfl rfl
      case h => intro K hK; go_big_quiet_op; (refine hK _ ?_; rfl)
      case hr => exact fun _ => rfl
      simp only [Act.put, sia, scs, scz])
   | (apply Any.E_val rfl rfl rfl rfl
      case h =>
        intro E' hA K hK
        first
          | ((with_reducible refine Any.at_qload (T := 26) ?_); refine Any.q_ldv 1003 hA (by decide) rfl rfl 1 _ Tryz.underlying26 rfl infoM (by decide) rfl ?_; refine hK _ ?_; rfl)
          | ((with_reducible refine Any.at_qload (T := 3) ?_); refine Any.q_ldc 1000 hA (by decide) rfl rfl _ Tryz.underlying3 rfl (.int .i64 base) rfl ?_; refine hK _ ?_; rfl)
          | ((with_reducible refine Any.at_qload (T := 3) ?_); refine Any.q_ldc 1000 hA (by decide) rfl rfl _ Tryz.underlying3 rfl (.int .i64 n) rfl ?_; refine hK _ ?_; rfl)
          | ((with_reducible refine Any.at_qload (T := 27) ?_); refine Any.q_ldc 1000 hA (by decide) rfl rfl _ Tryz.underlying27 rfl (.int .u16 la) rfl ?_; refine hK _ ?_; rfl)
          | (go_big_quiet_op; first
            | (refine hK _ ?_; rfl)
            | (refine ⟨_, fun _ _ => rfl, ?_⟩; refine hK _ ?_; rfl)
            | (apply Exists.intro; refine ⟨fun w1 hw1 => ?_, ?_⟩; · (first
                | (go_at_call 63; exact Any.calls_VE (HUA.out _ (hw1.rdold HPM.out.1 HPM.out.2)) hw1))
               refine hK _ ?_; rfl))
      case hD => rfl
      simp only [Act.put, sia, scs, scz])
   | ((with_reducible refine Any.at_ealloc ?_); refine Any.E_lay rfl rfl rfl (fun _ => rfl) ?_; intro b12; simp only [Act.put, sia, scs, scz])
   | ((with_reducible refine Any.at_estore (T := 142) ?_); refine Any.E_putv (T := 142) rfl rfl rfl rfl rfl rfl 2 infoUsd rfl rfl (by simp [Value.oneCell']) ?_; simp only [Act.put, sia, scs, scz]))
 try any_goals exact undef
 refine Any.E_nil ?_
 intro w9 hE9
 replace hv : Mem w0 w9 ([(b12, #[.int .u32 id_, .int .u32 len_]), (b23, #[.int .i64 base, .int .i64 n, .slice fa fn fc, .int .u16 av, .int .u16 la, .slice (some ⟨cb, co, none⟩) cn cc, (.slice (some ⟨mb, mo, none⟩) mn mc)]), (b4, #[.int .i64 0, .int .i64 0, .slice none 0 0, .int .u16 0, .int .u16 0, .slice none 0 0]), (b3, #[.int .i64 base, .int .i64 n, .slice fa fn fc, .int .u16 av, .int .u16 la, .slice (some ⟨cb, co, none⟩) cn cc]), (b2, #[(.slice (some ⟨mb, mo, none⟩) mn mc)])] ++ L) _ := hE9.memr hv [12, 1000, 1001, 1002, 1003] (by decide)
 clear hE9
 simp only [List.cons_append, List.nil_append] at hv
 clear HPM
 go_wp2_with (first
   | ((with_reducible refine at_load (T := 27) ?_); refine wl_ldc rfl b23 4 rfl _ hv.vars.ro _ Tryz.underlying27 rfl (.int .u16 la) rfl ?_)
   | ((with_reducible refine at_store (T := 27) ?_); refine wl_stc rfl b23 4 rfl (.int .u16 la2) rfl _ hv.vars.ro hv.vars.so (by kernel_rfl) rfl (by show 4 < 7; decide) ?_; intro w2 hw2; replace hv := hv.sets (by repeat first | exact .z | apply SetM.s) hw2; clear hw2)
   | ((with_reducible refine at_load (T := 28) ?_); refine wl_ldc rfl b23 5 rfl _ hv.vars.ro _ Tryz.underlying28 rfl (.slice (some ⟨cb, co, none⟩) cn cc) rfl ?_)
   | (go_at_call 64; (refine (IndexC_any (l := chs) (f := 65) (cap := #[.pointer (some ⟨b12, 0, none⟩)]) HL1.out (fun c => c.h == id_) (Go.Proofs.enters_of Tryz.func65 (by kernel_rfl) rfl) _ (hv.rd HQ.out.ch) (fun c hc w1 hn => Poll1_ok c.h c.db c.d0 c.dn c.dc c.rm (HHB.out c hc) w1 ((New.row hn (hv.vars.lt (b := b12) (by repeat first | exact mz | apply ms))).trans (hv.vars.ro (b := b12))) (Nat.lt_of_lt_of_le (hv.vars.lt (b := b12) (by repeat first | exact mz | apply ms)) hn.size))).mono ?_); rw [HIX.out]; rintro e w1 ⟨rfl, hn1⟩; replace hv := hv.new hn1; clear hn1))
 replace hv : Mem w0 _ ([(b12, _), (b23, _), (b4, _), (b3, _), (b2, _)] ++ L) _ := hv
 have HPC := Lib.hid (Any.rd_start (hv.keep (List.sublist_append_left [(b12, #[.int .u32 id_, .int .u32 len_]), (b23, #[.int .i64 base, .int .i64 n, .slice fa fn fc, .int .u16 av, .int .u16 la2, .slice (some ⟨cb, co, none⟩) cn cc, (.slice (some ⟨mb, mo, none⟩) mn mc)]), (b4, #[.int .i64 0, .int .i64 0, .slice none 0 0, .int .u16 0, .int .u16 0, .slice none 0 0]), (b3, #[.int .i64 base, .int .i64 n, .slice fa fn fc, .int .u16 av, .int .u16 la, .slice (some ⟨cb, co, none⟩) cn cc]), (b2, #[(.slice (some ⟨mb, mo, none⟩) mn mc)])] L)) HQ.out.ch)
 refine Any.wp_region_walk [⟨[], none⟩, ⟨[], none⟩, ⟨[], none⟩, ⟨[], none⟩, ⟨[1000], none⟩, ⟨[], none⟩, ⟨[], none⟩, ⟨[], none⟩, ⟨[], none⟩, ⟨[], none⟩, ⟨[1001], none⟩, ⟨[], none⟩, ⟨[], none⟩, ⟨[], none⟩, ⟨[], none⟩, ⟨[], none⟩, ⟨[], none⟩] [.val, .val, .val, .val, .val, .val, .val, .val, .val, .val, .val, .val, .val, .val, .val, .val, .val] (by kernel_rfl) (by kernel_rfl) (hv.vars.keep (List.sublist_append_left [(b12, #[.int .u32 id_, .int .u32 len_]), (b23, #[.int .i64 base, .int .i64 n, .slice fa fn fc, .int .u16 av, .int .u16 la2, .slice (some ⟨cb, co, none⟩) cn cc, (.slice (some ⟨mb, mo, none⟩) mn mc)]), (b4, #[.int .i64 0, .int .i64 0, .slice none 0 0, .int .u16 0, .int .u16 0, .slice none 0 0]), (b3, #[.int .i64 base, .int .i64 n, .slice fa fn fc, .int .u16 av, .int .u16 la, .slice (some ⟨cb, co, none⟩) cn cc]), (b2, #[(.slice (some ⟨mb, mo, none⟩) mn mc)])] L)) ?_
 simp only [List.length_cons, List.length_nil, Nat.zero_add, Any.someVals]
 iterate 17 apply Exists.intro
 repeat (first
   | (refine Any.E_off rfl ?_; simp only [Act.put, sia, scs, scz])
   | (apply Any.E_pureq rfl rfl rfl
      case h => intro K hK; go_big_quiet_op; (refine hK _ ?_; rfl)
      case hr => exact fun _ => rfl
      simp only [Act.put, sia, scs, scz])
   | (apply Any.E_val rfl rfl rfl rfl
      case h =>
        intro E' hA K hK
        first
          | ((with_reducible refine Any.at_qload (T := 135) ?_); refine Any.q_ldc 1000 hA (by decide) rfl rfl _ Tryz.underlying135 rfl (.int .u32 len_) rfl ?_; refine hK _ ?_; rfl)
          | ((with_reducible refine Any.at_qload (T := 28) ?_); refine Any.q_ldc 1001 hA (by decide) rfl rfl _ Tryz.underlying28 rfl (.slice (some ⟨cb, co, none⟩) cn cc) rfl ?_; refine hK _ ?_; rfl)
          | ((with_reducible refine Any.at_qload (T := 3) ?_); refine Any.q_rd HPC.out (at_ * 3 + 2) rfl _ Tryz.underlying3 rfl (.int .i64 c_r) HCR.out ?_; refine hK _ ?_; rfl)
          | (go_big_quiet_op; first
            | (refine hK _ ?_; rfl)
            | (refine ⟨_, fun _ _ => rfl, ?_⟩; refine hK _ ?_; rfl)
            | (apply Exists.intro; refine ⟨fun w1 hw1 => ?_, ?_⟩; · (first
                | fail)
               refine hK _ ?_; rfl))
      case hD => rfl
      simp only [Act.put, sia, scs, scz])
   | ((with_reducible refine Any.at_ealloc ?_); refine Any.E_lay rfl rfl rfl (fun _ => rfl) ?_; intro B; simp only [Act.put, sia, scs, scz]))
 try any_goals exact undef
 refine Any.E_nil ?_
 intro w9 hE9
 replace hv : Mem w0 w9 ([(b12, #[.int .u32 id_, .int .u32 len_]), (b23, #[.int .i64 base, .int .i64 n, .slice fa fn fc, .int .u16 av, .int .u16 la2, .slice (some ⟨cb, co, none⟩) cn cc, (.slice (some ⟨mb, mo, none⟩) mn mc)]), (b4, #[.int .i64 0, .int .i64 0, .slice none 0 0, .int .u16 0, .int .u16 0, .slice none 0 0]), (b3, #[.int .i64 base, .int .i64 n, .slice fa fn fc, .int .u16 av, .int .u16 la, .slice (some ⟨cb, co, none⟩) cn cc]), (b2, #[(.slice (some ⟨mb, mo, none⟩) mn mc)])] ++ L) _ := hE9.memr hv [1000, 1001, 1002, 1003, 1004] (by decide)
 clear hE9
 simp only [List.cons_append, List.nil_append] at hv
 clear HPC
 go_wp2_with (first
   | (go_at_call 66; (with_reducible refine (back_M (hv.perm (List.Perm.swap _ _ _)) HQ.out at_ HC.out HD0.out HD16.out HC16.out).mono ?_); rintro e w1 ⟨rfl, fv2, cv2, fr2, R2, hv1, hi1, hp1, hs1, hr1⟩; replace hv := hv1; have HI1 := Lib.hid hi1; have HP1 := Lib.hid hp1; have HS1 := Lib.hid hs1; have HR1 := Lib.hid hr1; clear hv1 hi1 hp1 hs1 hr1))
 obtain ⟨fa2, fn2, fc2, rfl, _⟩ := id (hv.rd HI1.out.fr)
 obtain ⟨ca2, cn2, cc2, rfl, _⟩ := id (hv.rd HI1.out.ch)
 replace hv : Mem w0 _ ([(b23, _), (b12, _), (b4, _), (b3, _), (b2, _)] ++ L) _ := hv
 refine Any.wp_region_walk [⟨[], none⟩, ⟨[], none⟩, ⟨[], none⟩, ⟨[1000], none⟩, ⟨[], none⟩, ⟨[1001], none⟩, ⟨[], none⟩, ⟨[], none⟩, ⟨[1001], none⟩, ⟨[], none⟩, ⟨[1002], some 1002⟩, ⟨[], none⟩, ⟨[], none⟩, ⟨[], none⟩] [.val, .val, .val, .val, .val, .val, .val, .val, .val, .val, .put, .val, .val, .val] (by kernel_rfl) (by kernel_rfl) (hv.vars.keep (List.sublist_append_left [(b23, #[.int .i64 base, .int .i64 n, .slice fa2 fn2 fc2, .int .u16 av, .int .u16 la2, .slice ca2 cn2 cc2, (.slice (some ⟨mb, mo, none⟩) mn mc)]), (b12, #[.int .u32 id_, .int .u32 len_]), (b4, #[.int .i64 0, .int .i64 0, .slice none 0 0, .int .u16 0, .int .u16 0, .slice none 0 0]), (b3, #[.int .i64 base, .int .i64 n, .slice fa fn fc, .int .u16 av, .int .u16 la, .slice (some ⟨cb, co, none⟩) cn cc]), (b2, #[(.slice (some ⟨mb, mo, none⟩) mn mc)])] L)) ?_
 simp only [List.length_cons, List.length_nil, Nat.zero_add, Any.someVals]
 iterate 14 apply Exists.intro
 repeat (first
   | (refine Any.E_off rfl ?_; simp only [Act.put, sia, scs, scz])
   | (apply Any.E_pureq rfl rfl rfl
      case h => intro K hK; go_big_quiet_op; (refine hK _ ?_; rfl)
      case hr => exact fun _ => rfl
      simp only [Act.put, sia, scs, scz])
   | (apply Any.E_val rfl rfl rfl rfl
      case h =>
        intro E' hA K hK
        first
          | ((with_reducible refine Any.at_qload (T := 30) ?_); refine Any.q_ldp 1000 hA (by decide) rfl rfl 6 _ Tryz.underlying30 rfl infoQ (by decide) (show 0 + 6 ≤ 7 from by decide) #[.int .i64 base, .int .i64 n, .slice fa2 fn2 fc2, .int .u16 av, .int .u16 la2, .slice ca2 cn2 cc2] rfl ?_; refine hK _ ?_; rfl)
          | ((with_reducible refine Any.at_qload (T := 135) ?_); refine Any.q_ldc 1001 hA (by decide) rfl rfl _ Tryz.underlying135 rfl (.int .u32 id_) rfl ?_; refine hK _ ?_; rfl)
          | ((with_reducible refine Any.at_qload (T := 135) ?_); refine Any.q_ldc 1001 hA (by decide) rfl rfl _ Tryz.underlying135 rfl (.int .u32 len_) rfl ?_; refine hK _ ?_; rfl)
          | (go_big_quiet_op; first
            | (refine hK _ ?_; rfl)
            | (refine ⟨_, fun _ _ => rfl, ?_⟩; refine hK _ ?_; rfl)
            | (apply Exists.intro; refine ⟨fun w1 hw1 => ?_, ?_⟩; · (first
                | fail)
               refine hK _ ?_; rfl))
      case hD => rfl
      simp only [Act.put, sia, scs, scz])
   | ((with_reducible refine Any.at_ealloc ?_); refine Any.E_lay rfl rfl rfl (fun _ => rfl) ?_; intro B; simp only [Act.put, sia, scs, scz])
   | ((with_reducible refine Any.at_estore (T := 30) ?_); refine Any.E_putv (T := 30) rfl rfl rfl rfl rfl rfl 6 infoQ rfl rfl (by simp [Value.oneCell']) ?_; simp only [Act.put, sia, scs, scz]))
 try any_goals exact undef
 refine Any.E_nil ?_
 intro w9 hE9
 replace hv : Mem w0 w9 ([(b23, #[.int .i64 base, .int .i64 n, .slice fa2 fn2 fc2, .int .u16 av, .int .u16 la2, .slice ca2 cn2 cc2, (.slice (some ⟨mb, mo, none⟩) mn mc)]), (b12, #[.int .u32 id_, .int .u32 len_]), (b4, #[.int .i64 base, .int .i64 n, .slice fa2 fn2 fc2, .int .u16 av, .int .u16 la2, .slice ca2 cn2 cc2]), (b3, #[.int .i64 base, .int .i64 n, .slice fa fn fc, .int .u16 av, .int .u16 la, .slice (some ⟨cb, co, none⟩) cn cc]), (b2, #[(.slice (some ⟨mb, mo, none⟩) mn mc)])] ++ L) _ := hE9.memr hv [1000, 1001, 1002, 1003, 1004] (by decide)
 clear hE9
 simp only [List.cons_append, List.nil_append] at hv
 go_wp2
 try simp only [Exit.inBlock, Exit.then]
 refine ret_cttt (v := .agg #[.int .i64 base, .int .i64 n, .slice fa2 fn2 fc2, .int .u16 av, .int .u16 la2, .slice ca2 cn2 cc2]) (v1 := .int .i64 id_) (v2 := .int .i64 len_) (v3 := .int .i64 0) rfl rfl (read_row _ b4 30 _ (hv.vars.ro (b := b4)) 6 _ Tryz.underlying30 rfl infoQ (by decide) rfl) rfl rfl rfl rfl ?_
 exact ⟨.slice fa2 fn2 fc2, .slice ca2 cn2 cc2, fr2, R2, rfl, hv.drop.drop.drop.drop.drop, HI1.out, HP1.out, HS1.out, HR1.out⟩
end Go.Proofs.YtjmibgomkgkhnaaGreat
end
