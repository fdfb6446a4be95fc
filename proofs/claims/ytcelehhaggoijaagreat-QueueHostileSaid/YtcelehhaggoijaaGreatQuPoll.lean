/-
  A driver looks what comes back: Poll.
-/
import Derived.Test.YtcelehhaggoijaaGreatQuBack
set_option linter.unusedVariables false
set_option linter.unusedSimpArgs false
namespace Go.Proofs.Qu
open Go Go.RowKit Go.Proofs.Nm
def idxF {α : Type} (p : α → Bool) (l : List α) : Int := match l.findIdx? p with | none => -1 | some k => (k : Int)
theorem idxF_some {α : Type} {p : α → Bool} {l : List α} {k : Nat} {x : α} (hx : l[k]? = some x) (hp : p x = true) (h : ∀ j, j < k → ∀ y, l[j]? = some y → p y = false) : idxF p l = (k : Int) := by
  obtain ⟨h1, h2⟩ := List.getElem?_eq_some_iff.1 hx
  have e : l.findIdx? p = some k := List.findIdx?_eq_some_iff_getElem.2 ⟨h1, by rw [h2]; exact hp, fun j hj => by
    have := h j hj l[j] (List.getElem?_eq_getElem (by omega))
    simp [this]⟩
  unfold idxF; rw [e]
theorem idxF_none {α : Type} {p : α → Bool} {l : List α} (h : ∀ j, j < l.length → ∀ y, l[j]? = some y → p y = false) : idxF p l = -1 := by
  have e : l.findIdx? p = none := List.findIdx?_eq_none_iff.2 fun x hx => by
    obtain ⟨j, hj⟩ := List.mem_iff_getElem?.1 hx
    exact h j (List.getElem?_eq_some_iff.1 hj).1 x hj
  unfold idxF; rw [e]
theorem chain_cells (l : List Chn) {k : Nat} (hk : k < l.length) : ((cellsC l).drop (k * 3)).take 3 = encC l[k] := part_flat (k := 3) (en := encC) (fun _ => rfl) l k hk
end Go.Proofs.Qu
namespace Go.Proofs.YtcelehhaggoijaaGreat
open Go.Proofs.Qu Go.Proofs.Nm Go.RowKit Go.Proofs
set_option maxRecDepth 100000 in
set_option maxHeartbeats 4000000 in
theorem Poll1_ok {bu id_ len_ : Nat} (c_h c_b c_0 c_n c_c c_r : Nat) (hh : c_h < 65536) (w : World) (hrow : w.rowD bu = #[.int .u32 (id_ : Nat), .int .u32 (len_ : Nat)]) (hlt : bu < w.heap.size) :
    Calls Tryz.prog 55 #[.agg #[.int .i64 (c_h : Nat), .slice (some ⟨c_b, c_0, none⟩) c_n c_c, .int .i64 (c_r : Nat)], .pointer (some ⟨bu, 0, none⟩)] w fun e w' => e = .returned (.bool (c_h == id_)) ∧ New w w' := by
  have hv := Mem.nil w
  have HROW := Lib.hid hrow
  have HLT := Lib.hid hlt
  have q1 : IntKind.u32.wrap (c_h : Int) = (c_h : Int) := wrap32 (by omega)
  have y1 : ((c_h : Int) == (id_ : Int)) = (c_h == id_) := by
    by_cases h : c_h = id_
    · subst h; simp
    · have h' : ¬ (c_h : Int) = (id_ : Int) := by omega
      rw [beq_eq_false_iff_ne.2 h, beq_eq_false_iff_ne.2 h']
  obtain ⟨bb, hbb⟩ : ∃ bb, (c_h == id_) = bb := ⟨_, rfl⟩
  rw [hbb] at y1 ⊢
  clear hrow hlt hh hbb
  go_enter Tryz.func55, Tryz.ntmps55
  go_wp2_with (first
    | ((with_reducible refine at_box (T := 115) (dst := some 2) ?_); refine wl_newb rfl #[.int .i64 (c_h : Nat), .slice (some ⟨c_b, c_0, none⟩) c_n c_c, .int .i64 (c_r : Nat)] 115 (fun _ => rfl) ?_; intro b2 w2 hm2; replace hv := hv.madeAt hm2; clear hm2)
    | ((with_reducible refine at_load (T := 3) ?_); refine wl_ldc rfl b2 0 rfl _ (hv.vars.row (by first | exact .head _ | exact .tail _ (.head _) | exact .tail _ (.tail _ (.head _)) | exact .tail _ (.tail _ (.tail _ (.head _))) | exact .tail _ (.tail _ (.tail _ (.tail _ (.head _)))) | exact .tail _ (.tail _ (.tail _ (.tail _ (.tail _ (.head _))))) | exact .tail _ (.tail _ (.tail _ (.tail _ (.tail _ (.tail _ (.head _)))))) | exact .tail _ (.tail _ (.tail _ (.tail _ (.tail _ (.tail _ (.tail _ (.head _))))))))) _ Tryz.underlying3 rfl (.int .i64 (c_h : Nat)) rfl ?_)
    | ((with_reducible refine at_load (T := 43) ?_); refine wl_ldc rfl bu 0 rfl _ ((New.row hv.below HLT.out).trans HROW.out) _ Tryz.underlying43 rfl (.int .u32 (id_ : Nat)) rfl ?_))
  go_ret
  exact ⟨rfl, hv.below⟩
set_option maxRecDepth 100000 in
set_option maxHeartbeats 4000000 in
theorem IndexC_any {v : Value} {l : List Chn} (hl100 : l.length ≤ 100000) {f : FuncId} {cap : Array Value} (p : Chn → Bool) (hE : Enters Tryz.prog f) (w : World) (hr : Rd w 3 v (cellsC l)) (hdo : ∀ c ∈ l, ∀ w1, New w w1 → Calls Tryz.prog f (#[.agg #[.int .i64 (c.h : Nat), .slice (some ⟨c.db, c.d0, none⟩) c.dn c.dc, .int .i64 (c.rm : Nat)]] ++ cap) w1 fun e w' => e = .returned (.bool (p c)) ∧ New w1 w') :
    Calls Tryz.prog 54 #[v, .func (.func f) #[] cap] w fun e w' => e = .returned (.int .i64 (idxF p l)) ∧ New w w' := by
  have hv := (Mem.nil w).old hr
  obtain ⟨aa, an, ac, rfl, g1, _⟩ := id hr
  rw [cellsC_len] at g1
  have HL : Hid ((3, Value.slice aa an ac, cellsC l) ∈ [(3, Value.slice aa an ac, cellsC l)]) := Lib.hid Mem.z
  have HE := Lib.hid hE
  have HDO := Lib.hid hdo
  have hln : l.length = an := by omega
  have HLN := Lib.hid hln
  have HAB : Hid (an ≤ 100000) := Lib.hid (by omega)
  obtain ⟨res, hres⟩ : ∃ r, idxF p l = r := ⟨_, rfl⟩
  have HRES := Lib.hid hres
  rw [hres]
  clear hl100 hE hdo hr hln g1 hres
  go_enter Tryz.func54, Tryz.ntmps54
  go_wp2
  go_loopw [8] (fun kv wr => ∃ k : Nat, k ≤ an ∧ kv = .int .i64 (k : Nat) ∧ Hid (∀ j, j < k → ∀ y, l[j]? = some y → p y = false) ∧ Mem w wr [] [(3, Value.slice aa an ac, cellsC l)]) (fun kv _ => an - (intOf kv).toNat)
  case atStart => exact ⟨0, Nat.zero_le _, rfl, Lib.hid (fun j hj => absurd hj (Nat.not_lt_zero _)), hv⟩
  case round =>
    clear hv
    obtain ⟨k, hk0, rfl, HNO, hv⟩ := hrel
    by_cases hk : k < an
    · have hki : (k : Int) < (an : Int) := by omega
      have hkb : (k : Int) ≤ 100000 := by have := HAB.out; omega
      have hkl : k < l.length := by rw [HLN.out]; exact hk
      obtain ⟨⟨c_h, c_b, c_0, c_n, c_c, c_r, c_ds⟩, hc⟩ : ∃ c, l[k] = c := ⟨_, rfl⟩
      have HX : Hid (l[k]? = some ⟨c_h, c_b, c_0, c_n, c_c, c_r, c_ds⟩) := Lib.hid (by rw [List.getElem?_eq_getElem hkl, hc])
      have HKC : Hid (((cellsC l).drop (k * 3)).take 3 = [.int .i64 (c_h : Nat), .slice (some ⟨c_b, c_0, none⟩) c_n c_c, .int .i64 (c_r : Nat)]) := Lib.hid (by
        have := chain_cells l hkl
        rw [hc] at this; exact this)
      obtain ⟨pb, hpb⟩ : ∃ b, p ⟨c_h, c_b, c_0, c_n, c_c, c_r, c_ds⟩ = b := ⟨_, rfl⟩
      have HP : Hid (∀ w1, New w w1 → Calls Tryz.prog f (#[.agg #[.int .i64 (c_h : Nat), .slice (some ⟨c_b, c_0, none⟩) c_n c_c, .int .i64 (c_r : Nat)]] ++ cap) w1 fun e w' => e = .returned (.bool pb) ∧ New w1 w') := Lib.hid (fun w1 hn => by
        have := HDO.out l[k] (List.getElem_mem _) w1 hn
        rw [hc, hpb] at this; exact this)
      obtain ⟨xb, xo, _, _, e, hq⟩ := (hv.rd HL.out).some (by rw [cellsC_len]; omega)
      clear hq
      cases e
      have HKN := Lib.hid hk
      have HPB := Lib.hid hpb
      clear hkl hc hk0 hk hpb
      cases pb with
      | false =>
        go_wp2_with (first
          | ((with_reducible refine at_load (T := 115) ?_); refine wl_rdv rfl (hv.rd HL.out) (k * 3) rfl 3 _ Tryz.underlying115 rfl infoC3 (by decide) #[.int .i64 (c_h : Nat), .slice (some ⟨c_b, c_0, none⟩) c_n c_c, .int .i64 (c_r : Nat)] HKC.out rfl ?_)
          | ((with_reducible refine at_call ?_); refine wl_callv rfl HE.out rfl [.agg #[.int .i64 (c_h : Nat), .slice (some ⟨c_b, c_0, none⟩) c_n c_c, .int .i64 (c_r : Nat)]] rfl (HP.out _ hv.below) ?_; rintro e w1 ⟨rfl, hn1⟩; refine ⟨_, rfl, ?_⟩; replace hv := hv.new hn1; clear hn1))
        have hkn := HKN.out
        go_roundw
        case rel => exact ⟨k + 1, by omega, by go_num, Lib.hid (fun j hj y hy => by
          rcases Nat.lt_succ_iff_lt_or_eq.1 hj with h | h
          · exact HNO.out j h y hy
          · rw [h, HX.out] at hy; cases hy; exact HPB.out), hv⟩
        case measure => simp [intOf]; omega
      | true =>
        go_wp2_with (first
          | ((with_reducible refine at_load (T := 115) ?_); refine wl_rdv rfl (hv.rd HL.out) (k * 3) rfl 3 _ Tryz.underlying115 rfl infoC3 (by decide) #[.int .i64 (c_h : Nat), .slice (some ⟨c_b, c_0, none⟩) c_n c_c, .int .i64 (c_r : Nat)] HKC.out rfl ?_)
          | ((with_reducible refine at_call ?_); refine wl_callv rfl HE.out rfl [.agg #[.int .i64 (c_h : Nat), .slice (some ⟨c_b, c_0, none⟩) c_n c_c, .int .i64 (c_r : Nat)]] rfl (HP.out _ hv.below) ?_; rintro e w1 ⟨rfl, hn1⟩; refine ⟨_, rfl, ?_⟩; replace hv := hv.new hn1; clear hn1))
        go_ret
        exact ⟨ret_i (by rw [← HRES.out]; exact (idxF_some HX.out HPB.out HNO.out).symm), hv.below⟩
    · have hki : ¬ (k : Int) < (an : Int) := by omega
      have hn : ∀ j, j < l.length → ∀ y, l[j]? = some y → p y = false := fun j hj => HNO.out j (by rw [HLN.out] at hj; omega)
      have HN := Lib.hid hn
      clear hk hk0 hn
      go_wp2
      go_ret
      exact ⟨ret_i (by rw [← HRES.out]; exact (idxF_none HN.out).symm), hv.below⟩
theorem sub16 {us la ah : Nat} (h1 : us < 65536) (h2 : la < 65536) (h : (us + 65536 - la) % 65536 = ah) : IntKind.u16.wrap ((us : Int) - (la : Int)) = (ah : Int) := by
  have e : IntKind.u16.wrap ((us : Int) - (la : Int)) = ((us : Int) - (la : Int)) % 65536 := rfl
  rw [e]; omega
set_option maxRecDepth 100000 in
set_option maxHeartbeats 16000000 in
theorem Poll_none {w0 w : World} {L : List (Nat × Array Value)} {R : List (Nat × Value × List Value)} {mb mo mn mc : Nat} {M : List Nat} (hv : Mem w0 w L R) (hm : InM R mb mo mn mc M) {base n av la : Nat} {fv cv : Value} {free : List Nat} {chs : List Chn} (hq : InQ R fv cv free chs) (hok : OkQ n free chs) (hb : base + sizeN n ≤ mn) {us ah : Nat} (hus : getN M (base + (backN n + 2)) 2 = us) (hah : (us + 65536 - la) % 65536 = ah) (hla : la < 65536) (h0 : ah = 0) :
    Calls Tryz.prog 12 #[(.agg #[(.slice (some ⟨mb, mo, none⟩) mn mc)]), .agg #[.int .i64 (base : Nat), .int .i64 (n : Nat), fv, .int .u16 (av : Nat), .int .u16 (la : Nat), cv]] w fun e w' => e = .returned (.tuple #[.agg #[.int .i64 (base : Nat), .int .i64 (n : Nat), fv, .int .u16 (av : Nat), .int .u16 (la : Nat), cv], .int .i64 0, .int .i64 0, .int .i64 7]) ∧ New w w' := by
  have hv0 := hv
  clear hv
  have hv : Mem w w [] R := ⟨Vars.nil w, fun x hx => ⟨(hv0.rds x hx).1, fun _ _ _ _ _ _ p hp => (List.not_mem_nil hp).elim⟩⟩
  clear hv0
  have hv_ := hv
  obtain ⟨fa, fn, fc, rfl, _⟩ := id (hv_.rd hq.fr)
  obtain ⟨ca, cn, cc, rfl, gc, _⟩ := id (hv_.rd hq.ch)
  rw [cellsC_len] at gc
  have hcn : chs.length = cn := by omega
  have hus2 : us < 65536 := by rw [← hus]; exact getN_lt' hm.good _ (k := 2) (by decide)
  have hle := hok.sz.le
  have hlen := hok.len
  have hchl := chs_len (fun c hc => (hok.hd c hc).1)
  have HM := Lib.hid hm
  have HQ := Lib.hid hq
  have HOK := Lib.hid hok
  have HB := Lib.hid hb
  have HUS := Lib.hid hus
  have q1 : IntKind.u16.wrap ((us : Int) - (la : Int)) = (ah : Int) := sub16 hus2 hla hah
  have y1 : ((ah : Int) == 0) = true := by rw [h0]; rfl
  clear hv_ hm hq hok hb hus hah hla gc hcn hus2 hle hlen hchl h0
  go_enter Tryz.func12, Tryz.ntmps12
  go_wp2_with (first
    | ((with_reducible refine at_box (T := 28) (dst := some 2) ?_); refine wl_newb rfl #[(.slice (some ⟨mb, mo, none⟩) mn mc)] 28 (fun _ => rfl) ?_; intro b2 w2 hm2; replace hv := hv.madeAt hm2; clear hm2)
    | ((with_reducible refine at_box (T := 32) (dst := some 3) ?_); refine wl_newb rfl #[.int .i64 (base : Nat), .int .i64 (n : Nat), .slice fa fn fc, .int .u16 (av : Nat), .int .u16 (la : Nat), .slice ca cn cc] 32 (fun _ => rfl) ?_; intro b3 w2 hm2; replace hv := hv.madeAt hm2; clear hm2)
    | ((with_reducible refine at_alloc (T := 32) (dst := some 4) ?_); refine wl_newb rfl #[.int .i64 0, .int .i64 0, .slice none 0 0, .int .u16 0, .int .u16 0, .slice none 0 0] 32 (fun _ => rfl) ?_; intro b4 w2 hm2; replace hv := hv.madeAt hm2; clear hm2)
    | ((with_reducible refine at_load (T := 28) ?_); refine wl_ldv rfl b2 rfl _ (hv.vars.row (by first | exact .head _ | exact .tail _ (.head _) | exact .tail _ (.tail _ (.head _)) | exact .tail _ (.tail _ (.tail _ (.head _))) | exact .tail _ (.tail _ (.tail _ (.tail _ (.head _)))) | exact .tail _ (.tail _ (.tail _ (.tail _ (.tail _ (.head _))))) | exact .tail _ (.tail _ (.tail _ (.tail _ (.tail _ (.tail _ (.head _)))))) | exact .tail _ (.tail _ (.tail _ (.tail _ (.tail _ (.tail _ (.tail _ (.head _))))))))) 1 _ Tryz.underlying28 rfl infoM (by decide) rfl ?_)
    | ((with_reducible refine at_load (T := 32) ?_); refine wl_ldv rfl b3 rfl _ (hv.vars.row (by first | exact .head _ | exact .tail _ (.head _) | exact .tail _ (.tail _ (.head _)) | exact .tail _ (.tail _ (.tail _ (.head _))) | exact .tail _ (.tail _ (.tail _ (.tail _ (.head _)))) | exact .tail _ (.tail _ (.tail _ (.tail _ (.tail _ (.head _))))) | exact .tail _ (.tail _ (.tail _ (.tail _ (.tail _ (.tail _ (.head _)))))) | exact .tail _ (.tail _ (.tail _ (.tail _ (.tail _ (.tail _ (.tail _ (.head _))))))))) 6 _ Tryz.underlying32 rfl infoQ (by decide) rfl ?_)
    | (go_at_call 41; (with_reducible refine (QRight_ok hv HM.out HQ.out HOK.out HB.out).mono ?_); rintro e w1 ⟨rfl, hn1⟩; replace hv := hv.new hn1; clear hn1)
    | ((with_reducible refine at_build ?_); refine wl_build rfl _ rfl (built_wrk _ _ _ _ _ _ _ _ _ _) ?_)
    | ((with_reducible refine at_box (T := 112) (dst := some 23) ?_); refine wl_newb rfl #[.int .i64 (base : Nat), .int .i64 (n : Nat), .slice fa fn fc, .int .u16 (av : Nat), .int .u16 (la : Nat), .slice ca cn cc, (.slice (some ⟨mb, mo, none⟩) mn mc)] 112 (fun _ => rfl) ?_; intro b23 w2 hm2; replace hv := hv.madeAt hm2; clear hm2)
    | ((with_reducible refine at_load (T := 3) ?_); refine wl_ldc rfl b3 0 rfl _ (hv.vars.row (by first | exact .head _ | exact .tail _ (.head _) | exact .tail _ (.tail _ (.head _)) | exact .tail _ (.tail _ (.tail _ (.head _))) | exact .tail _ (.tail _ (.tail _ (.tail _ (.head _)))) | exact .tail _ (.tail _ (.tail _ (.tail _ (.tail _ (.head _))))) | exact .tail _ (.tail _ (.tail _ (.tail _ (.tail _ (.tail _ (.head _)))))) | exact .tail _ (.tail _ (.tail _ (.tail _ (.tail _ (.tail _ (.tail _ (.head _))))))))) _ Tryz.underlying3 rfl (.int .i64 (base : Nat)) rfl ?_)
    | ((with_reducible refine at_load (T := 3) ?_); refine wl_ldc rfl b3 1 rfl _ (hv.vars.row (by first | exact .head _ | exact .tail _ (.head _) | exact .tail _ (.tail _ (.head _)) | exact .tail _ (.tail _ (.tail _ (.head _))) | exact .tail _ (.tail _ (.tail _ (.tail _ (.head _)))) | exact .tail _ (.tail _ (.tail _ (.tail _ (.tail _ (.head _))))) | exact .tail _ (.tail _ (.tail _ (.tail _ (.tail _ (.tail _ (.head _)))))) | exact .tail _ (.tail _ (.tail _ (.tail _ (.tail _ (.tail _ (.tail _ (.head _))))))))) _ Tryz.underlying3 rfl (.int .i64 (n : Nat)) rfl ?_)
    | (go_at_call 52; (with_reducible refine (Used_w HM.out.ok base n HOK.out.sz HB.out HUS.out _ (hv.rd HM.out.rd)).mono ?_); rintro e w1 ⟨rfl, hn1⟩; replace hv := hv.new hn1; clear hn1)
    | ((with_reducible refine at_load (T := 29) ?_); refine wl_ldc rfl b23 4 rfl _ (hv.vars.row (by first | exact .head _ | exact .tail _ (.head _) | exact .tail _ (.tail _ (.head _)) | exact .tail _ (.tail _ (.tail _ (.head _))) | exact .tail _ (.tail _ (.tail _ (.tail _ (.head _)))) | exact .tail _ (.tail _ (.tail _ (.tail _ (.tail _ (.head _))))) | exact .tail _ (.tail _ (.tail _ (.tail _ (.tail _ (.tail _ (.head _)))))) | exact .tail _ (.tail _ (.tail _ (.tail _ (.tail _ (.tail _ (.tail _ (.head _))))))))) _ Tryz.underlying29 rfl (.int .u16 (la : Nat)) rfl ?_)
    | ((with_reducible refine at_store (T := 32) ?_); refine wl_stv rfl b4 rfl _ rfl _ (hv.vars.row (by first | exact .head _ | exact .tail _ (.head _) | exact .tail _ (.tail _ (.head _)) | exact .tail _ (.tail _ (.tail _ (.head _))) | exact .tail _ (.tail _ (.tail _ (.tail _ (.head _)))) | exact .tail _ (.tail _ (.tail _ (.tail _ (.tail _ (.head _))))) | exact .tail _ (.tail _ (.tail _ (.tail _ (.tail _ (.tail _ (.head _)))))) | exact .tail _ (.tail _ (.tail _ (.tail _ (.tail _ (.tail _ (.tail _ (.head _))))))))) (hv.vars.sft (by first | exact .head _ | exact .tail _ (.head _) | exact .tail _ (.tail _ (.head _)) | exact .tail _ (.tail _ (.tail _ (.head _))) | exact .tail _ (.tail _ (.tail _ (.tail _ (.head _)))) | exact .tail _ (.tail _ (.tail _ (.tail _ (.tail _ (.head _))))) | exact .tail _ (.tail _ (.tail _ (.tail _ (.tail _ (.tail _ (.head _)))))) | exact .tail _ (.tail _ (.tail _ (.tail _ (.tail _ (.tail _ (.tail _ (.head _))))))))) 6 infoQ rfl rfl (by simp [Value.oneCell']) ?_; intro w2 hw2; (first | (replace hv := hv.set 0 rfl hw2) | (replace hv := hv.set 1 rfl hw2) | (replace hv := hv.set 2 rfl hw2) | (replace hv := hv.set 3 rfl hw2) | (replace hv := hv.set 4 rfl hw2) | (replace hv := hv.set 5 rfl hw2) | (replace hv := hv.set 6 rfl hw2) | (replace hv := hv.set 7 rfl hw2)); clear hw2; simp only [List.set] at hv))
  try simp only [Exit.inBlock, Exit.then]
  exact ret_cttt (v := .agg #[.int .i64 (base : Nat), .int .i64 (n : Nat), .slice fa fn fc, .int .u16 (av : Nat), .int .u16 (la : Nat), .slice ca cn cc]) (v1 := .int .i64 0) (v2 := .int .i64 0) (v3 := .int .i64 7) rfl rfl (read_row _ b4 32 _ (hv.vars.row (b := b4) (by first | exact .head _ | exact .tail _ (.head _) | exact .tail _ (.tail _ (.head _)) | exact .tail _ (.tail _ (.tail _ (.head _))) | exact .tail _ (.tail _ (.tail _ (.tail _ (.head _)))) | exact .tail _ (.tail _ (.tail _ (.tail _ (.tail _ (.head _))))) | exact .tail _ (.tail _ (.tail _ (.tail _ (.tail _ (.tail _ (.head _)))))) | exact .tail _ (.tail _ (.tail _ (.tail _ (.tail _ (.tail _ (.tail _ (.head _))))))))) 6 _ Tryz.underlying32 rfl infoQ (by decide) rfl) rfl rfl rfl rfl ⟨rfl, hv.below⟩
set_option maxRecDepth 100000 in
set_option maxHeartbeats 16000000 in
theorem Poll_jump {w0 w : World} {L : List (Nat × Array Value)} {R : List (Nat × Value × List Value)} {mb mo mn mc : Nat} {M : List Nat} (hv : Mem w0 w L R) (hm : InM R mb mo mn mc M) {base n av la : Nat} {fv cv : Value} {free : List Nat} {chs : List Chn} (hq : InQ R fv cv free chs) (hok : OkQ n free chs) (hb : base + sizeN n ≤ mn) {us ah : Nat} (hus : getN M (base + (backN n + 2)) 2 = us) (hah : (us + 65536 - la) % 65536 = ah) (hla : la < 65536) (h0 : ah ≠ 0) (h1 : chs.length < ah) :
    Calls Tryz.prog 12 #[(.agg #[(.slice (some ⟨mb, mo, none⟩) mn mc)]), .agg #[.int .i64 (base : Nat), .int .i64 (n : Nat), fv, .int .u16 (av : Nat), .int .u16 (la : Nat), cv]] w fun e w' => e = .returned (.tuple #[.agg #[.int .i64 (base : Nat), .int .i64 (n : Nat), fv, .int .u16 (av : Nat), .int .u16 (us : Nat), cv], .int .i64 0, .int .i64 0, .int .i64 80]) ∧ New w w' := by
  have hv0 := hv
  clear hv
  have hv : Mem w w [] R := ⟨Vars.nil w, fun x hx => ⟨(hv0.rds x hx).1, fun _ _ _ _ _ _ p hp => (List.not_mem_nil hp).elim⟩⟩
  clear hv0
  have hv_ := hv
  obtain ⟨fa, fn, fc, rfl, _⟩ := id (hv_.rd hq.fr)
  obtain ⟨ca, cn, cc, rfl, gc, _⟩ := id (hv_.rd hq.ch)
  rw [cellsC_len] at gc
  have hcn : chs.length = cn := by omega
  have hus2 : us < 65536 := by rw [← hus]; exact getN_lt' hm.good _ (k := 2) (by decide)
  have hle := hok.sz.le
  have hlen := hok.len
  have hchl := chs_len (fun c hc => (hok.hd c hc).1)
  have HM := Lib.hid hm
  have HQ := Lib.hid hq
  have HOK := Lib.hid hok
  have HB := Lib.hid hb
  have HUS := Lib.hid hus
  have q1 : IntKind.u16.wrap ((us : Int) - (la : Int)) = (ah : Int) := sub16 hus2 hla hah
  have y1 : ((ah : Int) == 0) = false := by rw [beq_eq_false_iff_ne]; omega
  have y2 : decide ((cn : Int) < (ah : Int)) = true := decide_eq_true (by omega)
  have z2 : decide (cn < ah) = true := decide_eq_true (by omega)
  have q2 : IntKind.i64.wrap (ah : Int) = (ah : Int) := IntWalk.i64_in _ (by omega)
  clear hv_ hm hq hok hb hus hah hla gc hcn hus2 hle hlen hchl h0 h1
  go_enter Tryz.func12, Tryz.ntmps12
  go_wp2_with (first
    | ((with_reducible refine at_box (T := 28) (dst := some 2) ?_); refine wl_newb rfl #[(.slice (some ⟨mb, mo, none⟩) mn mc)] 28 (fun _ => rfl) ?_; intro b2 w2 hm2; replace hv := hv.madeAt hm2; clear hm2)
    | ((with_reducible refine at_box (T := 32) (dst := some 3) ?_); refine wl_newb rfl #[.int .i64 (base : Nat), .int .i64 (n : Nat), .slice fa fn fc, .int .u16 (av : Nat), .int .u16 (la : Nat), .slice ca cn cc] 32 (fun _ => rfl) ?_; intro b3 w2 hm2; replace hv := hv.madeAt hm2; clear hm2)
    | ((with_reducible refine at_alloc (T := 32) (dst := some 4) ?_); refine wl_newb rfl #[.int .i64 0, .int .i64 0, .slice none 0 0, .int .u16 0, .int .u16 0, .slice none 0 0] 32 (fun _ => rfl) ?_; intro b4 w2 hm2; replace hv := hv.madeAt hm2; clear hm2)
    | ((with_reducible refine at_load (T := 28) ?_); refine wl_ldv rfl b2 rfl _ (hv.vars.row (by first | exact .head _ | exact .tail _ (.head _) | exact .tail _ (.tail _ (.head _)) | exact .tail _ (.tail _ (.tail _ (.head _))) | exact .tail _ (.tail _ (.tail _ (.tail _ (.head _)))) | exact .tail _ (.tail _ (.tail _ (.tail _ (.tail _ (.head _))))) | exact .tail _ (.tail _ (.tail _ (.tail _ (.tail _ (.tail _ (.head _)))))) | exact .tail _ (.tail _ (.tail _ (.tail _ (.tail _ (.tail _ (.tail _ (.head _))))))))) 1 _ Tryz.underlying28 rfl infoM (by decide) rfl ?_)
    | ((with_reducible refine at_load (T := 32) ?_); refine wl_ldv rfl b3 rfl _ (hv.vars.row (by first | exact .head _ | exact .tail _ (.head _) | exact .tail _ (.tail _ (.head _)) | exact .tail _ (.tail _ (.tail _ (.head _))) | exact .tail _ (.tail _ (.tail _ (.tail _ (.head _)))) | exact .tail _ (.tail _ (.tail _ (.tail _ (.tail _ (.head _))))) | exact .tail _ (.tail _ (.tail _ (.tail _ (.tail _ (.tail _ (.head _)))))) | exact .tail _ (.tail _ (.tail _ (.tail _ (.tail _ (.tail _ (.tail _ (.head _))))))))) 6 _ Tryz.underlying32 rfl infoQ (by decide) rfl ?_)
    | (go_at_call 41; (with_reducible refine (QRight_ok hv HM.out HQ.out HOK.out HB.out).mono ?_); rintro e w1 ⟨rfl, hn1⟩; replace hv := hv.new hn1; clear hn1)
    | ((with_reducible refine at_build ?_); refine wl_build rfl _ rfl (built_wrk _ _ _ _ _ _ _ _ _ _) ?_)
    | ((with_reducible refine at_box (T := 112) (dst := some 23) ?_); refine wl_newb rfl #[.int .i64 (base : Nat), .int .i64 (n : Nat), .slice fa fn fc, .int .u16 (av : Nat), .int .u16 (la : Nat), .slice ca cn cc, (.slice (some ⟨mb, mo, none⟩) mn mc)] 112 (fun _ => rfl) ?_; intro b23 w2 hm2; replace hv := hv.madeAt hm2; clear hm2)
    | ((with_reducible refine at_load (T := 3) ?_); refine wl_ldc rfl b3 0 rfl _ (hv.vars.row (by first | exact .head _ | exact .tail _ (.head _) | exact .tail _ (.tail _ (.head _)) | exact .tail _ (.tail _ (.tail _ (.head _))) | exact .tail _ (.tail _ (.tail _ (.tail _ (.head _)))) | exact .tail _ (.tail _ (.tail _ (.tail _ (.tail _ (.head _))))) | exact .tail _ (.tail _ (.tail _ (.tail _ (.tail _ (.tail _ (.head _)))))) | exact .tail _ (.tail _ (.tail _ (.tail _ (.tail _ (.tail _ (.tail _ (.head _))))))))) _ Tryz.underlying3 rfl (.int .i64 (base : Nat)) rfl ?_)
    | ((with_reducible refine at_load (T := 3) ?_); refine wl_ldc rfl b3 1 rfl _ (hv.vars.row (by first | exact .head _ | exact .tail _ (.head _) | exact .tail _ (.tail _ (.head _)) | exact .tail _ (.tail _ (.tail _ (.head _))) | exact .tail _ (.tail _ (.tail _ (.tail _ (.head _)))) | exact .tail _ (.tail _ (.tail _ (.tail _ (.tail _ (.head _))))) | exact .tail _ (.tail _ (.tail _ (.tail _ (.tail _ (.tail _ (.head _)))))) | exact .tail _ (.tail _ (.tail _ (.tail _ (.tail _ (.tail _ (.tail _ (.head _))))))))) _ Tryz.underlying3 rfl (.int .i64 (n : Nat)) rfl ?_)
    | (go_at_call 52; (with_reducible refine (Used_w HM.out.ok base n HOK.out.sz HB.out HUS.out _ (hv.rd HM.out.rd)).mono ?_); rintro e w1 ⟨rfl, hn1⟩; replace hv := hv.new hn1; clear hn1)
    | ((with_reducible refine at_load (T := 29) ?_); refine wl_ldc rfl b23 4 rfl _ (hv.vars.row (by first | exact .head _ | exact .tail _ (.head _) | exact .tail _ (.tail _ (.head _)) | exact .tail _ (.tail _ (.tail _ (.head _))) | exact .tail _ (.tail _ (.tail _ (.tail _ (.head _)))) | exact .tail _ (.tail _ (.tail _ (.tail _ (.tail _ (.head _))))) | exact .tail _ (.tail _ (.tail _ (.tail _ (.tail _ (.tail _ (.head _)))))) | exact .tail _ (.tail _ (.tail _ (.tail _ (.tail _ (.tail _ (.tail _ (.head _))))))))) _ Tryz.underlying29 rfl (.int .u16 (la : Nat)) rfl ?_)
    | ((with_reducible refine at_load (T := 30) ?_); refine wl_ldc rfl b23 5 rfl _ (hv.vars.row (by first | exact .head _ | exact .tail _ (.head _) | exact .tail _ (.tail _ (.head _)) | exact .tail _ (.tail _ (.tail _ (.head _))) | exact .tail _ (.tail _ (.tail _ (.tail _ (.head _)))) | exact .tail _ (.tail _ (.tail _ (.tail _ (.tail _ (.head _))))) | exact .tail _ (.tail _ (.tail _ (.tail _ (.tail _ (.tail _ (.head _)))))) | exact .tail _ (.tail _ (.tail _ (.tail _ (.tail _ (.tail _ (.tail _ (.head _))))))))) _ Tryz.underlying30 rfl (.slice ca cn cc) rfl ?_)
    | ((with_reducible refine at_store (T := 29) ?_); refine wl_stc rfl b23 4 rfl (.int .u16 (us : Nat)) rfl _ (hv.vars.row (by first | exact .head _ | exact .tail _ (.head _) | exact .tail _ (.tail _ (.head _)) | exact .tail _ (.tail _ (.tail _ (.head _))) | exact .tail _ (.tail _ (.tail _ (.tail _ (.head _)))) | exact .tail _ (.tail _ (.tail _ (.tail _ (.tail _ (.head _))))) | exact .tail _ (.tail _ (.tail _ (.tail _ (.tail _ (.tail _ (.head _)))))) | exact .tail _ (.tail _ (.tail _ (.tail _ (.tail _ (.tail _ (.tail _ (.head _))))))))) (hv.vars.sft (by first | exact .head _ | exact .tail _ (.head _) | exact .tail _ (.tail _ (.head _)) | exact .tail _ (.tail _ (.tail _ (.head _))) | exact .tail _ (.tail _ (.tail _ (.tail _ (.head _)))) | exact .tail _ (.tail _ (.tail _ (.tail _ (.tail _ (.head _))))) | exact .tail _ (.tail _ (.tail _ (.tail _ (.tail _ (.tail _ (.head _)))))) | exact .tail _ (.tail _ (.tail _ (.tail _ (.tail _ (.tail _ (.tail _ (.head _))))))))) (by kernel_rfl) rfl (by show 4 < 7; decide) ?_; intro w2 hw2; (first | (replace hv := hv.set 0 rfl hw2) | (replace hv := hv.set 1 rfl hw2) | (replace hv := hv.set 2 rfl hw2) | (replace hv := hv.set 3 rfl hw2)); clear hw2; simp only [List.set] at hv)
    | ((with_reducible refine at_load (T := 32) ?_); refine wl_ldp rfl b23 0 rfl _ (hv.vars.row (by first | exact .head _ | exact .tail _ (.head _) | exact .tail _ (.tail _ (.head _)) | exact .tail _ (.tail _ (.tail _ (.head _))) | exact .tail _ (.tail _ (.tail _ (.tail _ (.head _)))) | exact .tail _ (.tail _ (.tail _ (.tail _ (.tail _ (.head _))))) | exact .tail _ (.tail _ (.tail _ (.tail _ (.tail _ (.tail _ (.head _)))))) | exact .tail _ (.tail _ (.tail _ (.tail _ (.tail _ (.tail _ (.tail _ (.head _))))))))) 6 _ Tryz.underlying32 rfl infoQ (by decide) (by show 0 + 6 ≤ 7; decide) #[.int .i64 (base : Nat), .int .i64 (n : Nat), .slice fa fn fc, .int .u16 (av : Nat), .int .u16 (us : Nat), .slice ca cn cc] rfl ?_)
    | ((with_reducible refine at_store (T := 32) ?_); refine wl_stv rfl b4 rfl _ rfl _ (hv.vars.row (by first | exact .head _ | exact .tail _ (.head _) | exact .tail _ (.tail _ (.head _)) | exact .tail _ (.tail _ (.tail _ (.head _))) | exact .tail _ (.tail _ (.tail _ (.tail _ (.head _)))) | exact .tail _ (.tail _ (.tail _ (.tail _ (.tail _ (.head _))))) | exact .tail _ (.tail _ (.tail _ (.tail _ (.tail _ (.tail _ (.head _)))))) | exact .tail _ (.tail _ (.tail _ (.tail _ (.tail _ (.tail _ (.tail _ (.head _))))))))) (hv.vars.sft (by first | exact .head _ | exact .tail _ (.head _) | exact .tail _ (.tail _ (.head _)) | exact .tail _ (.tail _ (.tail _ (.head _))) | exact .tail _ (.tail _ (.tail _ (.tail _ (.head _)))) | exact .tail _ (.tail _ (.tail _ (.tail _ (.tail _ (.head _))))) | exact .tail _ (.tail _ (.tail _ (.tail _ (.tail _ (.tail _ (.head _)))))) | exact .tail _ (.tail _ (.tail _ (.tail _ (.tail _ (.tail _ (.tail _ (.head _))))))))) 6 infoQ rfl rfl (by simp [Value.oneCell']) ?_; intro w2 hw2; (first | (replace hv := hv.set 0 rfl hw2) | (replace hv := hv.set 1 rfl hw2) | (replace hv := hv.set 2 rfl hw2) | (replace hv := hv.set 3 rfl hw2) | (replace hv := hv.set 4 rfl hw2) | (replace hv := hv.set 5 rfl hw2) | (replace hv := hv.set 6 rfl hw2) | (replace hv := hv.set 7 rfl hw2)); clear hw2; simp only [List.set] at hv))
  try simp only [Exit.inBlock, Exit.then]
  exact ret_cttt (v := .agg #[.int .i64 (base : Nat), .int .i64 (n : Nat), .slice fa fn fc, .int .u16 (av : Nat), .int .u16 (us : Nat), .slice ca cn cc]) (v1 := .int .i64 0) (v2 := .int .i64 0) (v3 := .int .i64 80) rfl rfl (read_row _ b4 32 _ (hv.vars.row (b := b4) (by first | exact .head _ | exact .tail _ (.head _) | exact .tail _ (.tail _ (.head _)) | exact .tail _ (.tail _ (.tail _ (.head _))) | exact .tail _ (.tail _ (.tail _ (.tail _ (.head _)))) | exact .tail _ (.tail _ (.tail _ (.tail _ (.tail _ (.head _))))) | exact .tail _ (.tail _ (.tail _ (.tail _ (.tail _ (.tail _ (.head _)))))) | exact .tail _ (.tail _ (.tail _ (.tail _ (.tail _ (.tail _ (.tail _ (.head _))))))))) 6 _ Tryz.underlying32 rfl infoQ (by decide) rfl) rfl rfl rfl rfl ⟨rfl, hv.below⟩
end Go.Proofs.YtcelehhaggoijaaGreat
