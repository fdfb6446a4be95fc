import Derived.Test.YtcelehhaggoijaaVrMem
import Derived.Test.YtcelehhaggoijaaBnp
import Derived.Test.YtcelehhaggoijaaQuHd
section
/-
  Entropy behind a ring (layer 11): its driver may be; asked.
-/
set_option linter.unusedVariables false
set_option linter.unusedSimpArgs false
namespace Go.Proofs.Qu
open Go Go.RowKit Go.Proofs.Nm
theorem ok1 : okN 1 := by unfold okN; omega
def VM0 : List Nat := List.replicate 80 0
def VM1 : List Nat := putB VM0 0 (List.replicate (sizeN 1) 0)
def VL : List Pt := [(60, 16, true)]
/-- What is asked for waits. -/
def Asked (R : List (Nat × Value × List Value)) (vb vc : Nat) (fv cv : Value) (M free : List Nat) (c : Chn) (hd av av1 : Nat) : Prop :=
  Drv R 80 vb vc fv cv M 1 free [c] ∧ free.length = 0 ∧ c.h = hd ∧ c.ds.length = 1 ∧ c.rm = 16 ∧ getN M (0 + (16 * 1 + 2)) 2 = av1 ∧ getN M (0 + (16 * 1 + (4 + 2 * (av % 1)))) 2 = hd ∧ ChainAt 80 M 0 1 hd VL ∧ hd < 1
theorem Asked.mono {R R' : List (Nat × Value × List Value)} {vb vc : Nat} {fv cv : Value} {M free : List Nat} {c : Chn} {hd av av1 : Nat} (h : Asked R vb vc fv cv M free c hd av av1) (hs : ∀ x ∈ R, x ∈ R') : Asked R' vb vc fv cv M free c hd av av1 := ⟨h.1.mono hs, h.2⟩
def AddW (R0 : List (Nat × Value × List Value)) (av av1 : Nat) (v : Value) (R' : List (Nat × Value × List Value)) : Prop :=
  ∃ (vb vc fc cc : Nat) (fa ca : Option Addr) (M free : List Nat) (c : Chn) (hd : Nat), v = .tuple #[.agg #[.slice (some ⟨vb, 0, none⟩) 80 vc], .agg #[.int .i64 0, .int .i64 1, .slice fa 0 fc, .int .u16 (av1 : Nat), .int .u16 (av : Nat), .slice ca 1 cc], .int .i64 (hd : Nat), .int .i64 0] ∧ Asked R' vb vc (.slice fa 0 fc) (.slice ca 1 cc) M free c hd av av1 ∧ ∀ x ∈ R0, x ∈ R'
end Go.Proofs.Qu
namespace Go.Proofs.Ytcelehhaggoijaa
open Go.Proofs.Qu Go.Proofs.Nm Go.RowKit Go.Proofs
theorem infoV : (Try.prog.info? 32).map (·.size) = some 8 := by kernel_rfl
theorem infoVW : (Try.prog.info? 58).map (·.size) = some 10 := by kernel_rfl
theorem built_vbuf : Try.prog.built 60 [(0, .int .i64 60), (1, .int .i64 16), (2, .bool true)] = some #[.int .i64 60, .int .i64 16, .bool true] := by kernel_rfl
theorem built_vwk (av la vb vc : Nat) (fv cv : Value) (b : Bool) : Try.prog.built 58 [(0, .agg #[.int .i64 0, .int .i64 1, fv, .int .u16 (av : Nat), .int .u16 (la : Nat), cv, .int .i64 60, .bool b]), (1, .agg #[.slice (some ⟨vb, 0, none⟩) 80 vc])] = some #[.int .i64 0, .int .i64 1, fv, .int .u16 (av : Nat), .int .u16 (la : Nat), cv, .int .i64 60, .bool b, .slice (some ⟨vb, 0, none⟩) 80 vc, .slice none 0 0] := by kernel_rfl
theorem QCk_V {w0 w : World} {L : List (Nat × Array Value)} {R : List (Nat × Value × List Value)} (hv : Mem w0 w L R) {av la : Nat} {free : List Nat} {chs : List Chn} {fv cv : Value} (hq : InQ R fv cv free chs) (ho : OkQ 1 free chs) : Calls Try.prog 26 #[.agg #[.int .i64 0, .int .i64 1, fv, .int .u16 (av : Nat), .int .u16 (la : Nat), cv]] w fun e w' => e = .returned (.bool true) ∧ New w w' := QCheck_ok (base := 0) (n := 1) hv hq ho
theorem New_V {w0 w : World} {L : List (Nat × Array Value)} {R : List (Nat × Value × List Value)} (hv : Mem w0 w L R) {mb mc : Nat} (hm : InM R mb 0 80 mc VM0) : Calls Try.prog 11 #[.agg #[.slice (some ⟨mb, 0, none⟩) 80 mc], .int .i64 0, .int .i64 1] w fun e w' => ∃ vb vc fa fc R' M free, e = .returned (.tuple #[.agg #[.slice (some ⟨vb, 0, none⟩) 80 vc], .agg #[.int .i64 0, .int .i64 1, .slice fa 1 fc, .int .u16 0, .int .u16 0, .slice none 0 0], .int .i64 0]) ∧ Mem w0 w' L R' ∧ Drv R' 80 vb vc (.slice fa 1 fc) (.slice none 0 0) M 1 free [] ∧ free.length = 1 ∧ ∀ x ∈ R, x ∈ R' := by
  refine (New_D hv hm 0 1 ok1 (by decide)).mono ?_
  rintro e w' ⟨vb, vc, fa, fc, R', rfl, h1, h2, h3⟩
  exact ⟨vb, vc, fa, fc, R', _, _, rfl, h1, h2, by simp, h3⟩
theorem Add_V {w0 w : World} {L : List (Nat × Array Value)} {R R0 : List (Nat × Value × List Value)} (hv : Mem w0 w L R) (hR : ∀ x ∈ R0, x ∈ R) {vb vc fc cc av av1 : Nat} {fa ca : Option Addr} {M free : List Nat} (hd0 : Drv R0 80 vb vc (.slice fa 1 fc) (.slice ca 0 cc) M 1 free []) (hfl : free.length = 1) {lv : Value} (hl : (3, lv, cellsPt VL) ∈ R) (hav : av < 65536) (hav1 : (av + 1) % 65536 = av1) : Calls Try.prog 16 #[.agg #[.slice (some ⟨vb, 0, none⟩) 80 vc], .agg #[.int .i64 0, .int .i64 1, .slice fa 1 fc, .int .u16 (av : Nat), .int .u16 (av : Nat), .slice ca 0 cc], lv] w fun e w' => ∃ v R', e = .returned v ∧ AddW R0 av av1 v R' ∧ Mem w0 w' L R' ∧ ∀ x ∈ R, x ∈ R' := by
  have hd := hd0.mono hR
  have hlie : ∀ p ∈ VL, 0 < p.2.1 ∧ p.1 + p.2.1 ≤ 80 := by decide
  refine (Add_D (base := 0) (n := 1) (av := av) (la := av) hv hd (by decide) hl (Nat.zero_lt_one) (by show 1 ≤ _; omega) hlie hav).mono ?_
  rintro e w' ⟨vb', vc', fa', fc', ca', cc', c, R', rfl, hv1, hd1, e1, e2, e3, hs⟩
  have hA : AddOk 80 M 0 1 free VL := ⟨ok1, by rw [hd.m.len]; decide, hd.ok.nd, fun d hdd => hd.ok.le d (List.mem_append_left _ hdd), Nat.zero_lt_one, by show 1 ≤ _; omega, hlie, by decide⟩
  have hl1 : VL.length = 1 := rfl
  rw [hl1, hfl, List.nil_append] at hd1
  rw [hl1, hfl]
  have g1 := addM_idx (av := av) hA
  rw [hav1] at g1 ⊢
  refine ⟨_, R', rfl, ⟨vb', vc', fc', cc', fa', ca', _, _, c, _, rfl, ⟨hd1, by rw [List.length_drop, hfl], e1, by rw [e2, List.length_take, hl1, hfl]; rfl, ?_, g1, addM_at hA, addM_chain hA, hA.hd.2⟩, fun x hx => hs x (hR x hx)⟩, hv1, hs⟩
  rw [e3]; rfl
set_option maxRecDepth 100000 in
set_option maxHeartbeats 4000000 in
theorem VCk_idle {w0 w : World} {L : List (Nat × Array Value)} {R : List (Nat × Value × List Value)} (hv : Mem w0 w L R) {cc av la : Nat} {fv : Value} {ca : Option Addr} {free : List Nat} {chs : List Chn} (hq : InQ R fv (.slice ca 0 cc) free chs) (ho : OkQ 1 free chs) : Calls Try.prog 13 #[.agg #[.int .i64 0, .int .i64 1, fv, .int .u16 (av : Nat), .int .u16 (la : Nat), .slice ca 0 cc, .int .i64 60, .bool false]] w fun e w' => e = .returned (.bool true) ∧ New w w' := by
  have hv0 := hv
  clear hv
  have hv : Mem w w [] R := ⟨Vars.nil w, fun x hx => ⟨(hv0.rds x hx).1, fun _ _ _ _ _ _ p hp => (List.not_mem_nil hp).elim⟩⟩
  obtain ⟨fa, fn, fc, rfl, _⟩ := id (hv.rd hq.fr)
  have HQ := Lib.hid hq
  have HO := Lib.hid ho
  clear hv0 hq ho
  go_enter Try.func13, Try.ntmps13
  go_wp2_with (first
    | ((with_reducible refine at_box (T := 32) (dst := some 1) ?_); refine wl_newb rfl #[.int .i64 0, .int .i64 1, .slice fa fn fc, .int .u16 (av : Nat), .int .u16 (la : Nat), .slice ca 0 cc, .int .i64 60, .bool false] 32 (fun _ => rfl) ?_; intro b1 w2 hm2; replace hv := hv.madeAt hm2; clear hm2)
    | ((with_reducible refine at_load (T := 30) ?_); refine wl_ldp rfl b1 0 rfl _ (hv.vars.row (by first | exact .head _ | exact .tail _ (.head _) | exact .tail _ (.tail _ (.head _)) | exact .tail _ (.tail _ (.tail _ (.head _))) | exact .tail _ (.tail _ (.tail _ (.tail _ (.head _)))) | exact .tail _ (.tail _ (.tail _ (.tail _ (.tail _ (.head _))))) | exact .tail _ (.tail _ (.tail _ (.tail _ (.tail _ (.tail _ (.head _)))))) | exact .tail _ (.tail _ (.tail _ (.tail _ (.tail _ (.tail _ (.tail _ (.head _))))))))) 6 _ Try.underlying30 rfl infoQ (by decide) (by show 0 + 6 ≤ 8; decide) #[.int .i64 0, .int .i64 1, .slice fa fn fc, .int .u16 (av : Nat), .int .u16 (la : Nat), .slice ca 0 cc] rfl ?_)
    | (go_at_call 26; (with_reducible refine (QCk_V hv HQ.out HO.out).mono ?_); rintro e w1 ⟨rfl, hn1⟩; replace hv := hv.new hn1; clear hn1)
    | ((with_reducible refine at_load (T := 3) ?_); refine wl_ldc rfl b1 1 rfl _ (hv.vars.row (by first | exact .head _ | exact .tail _ (.head _) | exact .tail _ (.tail _ (.head _)) | exact .tail _ (.tail _ (.tail _ (.head _))) | exact .tail _ (.tail _ (.tail _ (.tail _ (.head _)))) | exact .tail _ (.tail _ (.tail _ (.tail _ (.tail _ (.head _))))) | exact .tail _ (.tail _ (.tail _ (.tail _ (.tail _ (.tail _ (.head _)))))) | exact .tail _ (.tail _ (.tail _ (.tail _ (.tail _ (.tail _ (.tail _ (.head _))))))))) _ Try.underlying3 rfl (.int .i64 1) rfl ?_)
    | ((with_reducible refine at_load (T := 3) ?_); refine wl_ldc rfl b1 6 rfl _ (hv.vars.row (by first | exact .head _ | exact .tail _ (.head _) | exact .tail _ (.tail _ (.head _)) | exact .tail _ (.tail _ (.tail _ (.head _))) | exact .tail _ (.tail _ (.tail _ (.tail _ (.head _)))) | exact .tail _ (.tail _ (.tail _ (.tail _ (.tail _ (.head _))))) | exact .tail _ (.tail _ (.tail _ (.tail _ (.tail _ (.tail _ (.head _)))))) | exact .tail _ (.tail _ (.tail _ (.tail _ (.tail _ (.tail _ (.tail _ (.head _))))))))) _ Try.underlying3 rfl (.int .i64 60) rfl ?_)
    | ((with_reducible refine at_load (T := 4) ?_); refine wl_ldc rfl b1 7 rfl _ (hv.vars.row (by first | exact .head _ | exact .tail _ (.head _) | exact .tail _ (.tail _ (.head _)) | exact .tail _ (.tail _ (.tail _ (.head _))) | exact .tail _ (.tail _ (.tail _ (.tail _ (.head _)))) | exact .tail _ (.tail _ (.tail _ (.tail _ (.tail _ (.head _))))) | exact .tail _ (.tail _ (.tail _ (.tail _ (.tail _ (.tail _ (.head _)))))) | exact .tail _ (.tail _ (.tail _ (.tail _ (.tail _ (.tail _ (.tail _ (.head _))))))))) _ Try.underlying4 rfl (.bool false) rfl ?_)
    | ((with_reducible refine at_load (T := 28) ?_); refine wl_ldc rfl b1 5 rfl _ (hv.vars.row (by first | exact .head _ | exact .tail _ (.head _) | exact .tail _ (.tail _ (.head _)) | exact .tail _ (.tail _ (.tail _ (.head _))) | exact .tail _ (.tail _ (.tail _ (.tail _ (.head _)))) | exact .tail _ (.tail _ (.tail _ (.tail _ (.tail _ (.head _))))) | exact .tail _ (.tail _ (.tail _ (.tail _ (.tail _ (.tail _ (.head _)))))) | exact .tail _ (.tail _ (.tail _ (.tail _ (.tail _ (.tail _ (.tail _ (.head _))))))))) _ Try.underlying28 rfl (.slice ca 0 cc) rfl ?_))
  go_ret
  exact ⟨rfl, hv.below⟩
set_option maxRecDepth 100000 in
set_option maxHeartbeats 4000000 in
theorem VCk_busy {w0 w : World} {L : List (Nat × Array Value)} {R : List (Nat × Value × List Value)} (hv : Mem w0 w L R) {cc av la : Nat} {fv : Value} {ca : Option Addr} {free : List Nat} {chs : List Chn} (hq : InQ R fv (.slice ca 1 cc) free chs) (ho : OkQ 1 free chs) : Calls Try.prog 13 #[.agg #[.int .i64 0, .int .i64 1, fv, .int .u16 (av : Nat), .int .u16 (la : Nat), .slice ca 1 cc, .int .i64 60, .bool true]] w fun e w' => e = .returned (.bool true) ∧ New w w' := by
  have hv0 := hv
  clear hv
  have hv : Mem w w [] R := ⟨Vars.nil w, fun x hx => ⟨(hv0.rds x hx).1, fun _ _ _ _ _ _ p hp => (List.not_mem_nil hp).elim⟩⟩
  obtain ⟨fa, fn, fc, rfl, _⟩ := id (hv.rd hq.fr)
  have HQ := Lib.hid hq
  have HO := Lib.hid ho
  clear hv0 hq ho
  go_enter Try.func13, Try.ntmps13
  go_wp2_with (first
    | ((with_reducible refine at_box (T := 32) (dst := some 1) ?_); refine wl_newb rfl #[.int .i64 0, .int .i64 1, .slice fa fn fc, .int .u16 (av : Nat), .int .u16 (la : Nat), .slice ca 1 cc, .int .i64 60, .bool true] 32 (fun _ => rfl) ?_; intro b1 w2 hm2; replace hv := hv.madeAt hm2; clear hm2)
    | ((with_reducible refine at_load (T := 30) ?_); refine wl_ldp rfl b1 0 rfl _ (hv.vars.row (by first | exact .head _ | exact .tail _ (.head _) | exact .tail _ (.tail _ (.head _)) | exact .tail _ (.tail _ (.tail _ (.head _))) | exact .tail _ (.tail _ (.tail _ (.tail _ (.head _)))) | exact .tail _ (.tail _ (.tail _ (.tail _ (.tail _ (.head _))))) | exact .tail _ (.tail _ (.tail _ (.tail _ (.tail _ (.tail _ (.head _)))))) | exact .tail _ (.tail _ (.tail _ (.tail _ (.tail _ (.tail _ (.tail _ (.head _))))))))) 6 _ Try.underlying30 rfl infoQ (by decide) (by show 0 + 6 ≤ 8; decide) #[.int .i64 0, .int .i64 1, .slice fa fn fc, .int .u16 (av : Nat), .int .u16 (la : Nat), .slice ca 1 cc] rfl ?_)
    | (go_at_call 26; (with_reducible refine (QCk_V hv HQ.out HO.out).mono ?_); rintro e w1 ⟨rfl, hn1⟩; replace hv := hv.new hn1; clear hn1)
    | ((with_reducible refine at_load (T := 3) ?_); refine wl_ldc rfl b1 1 rfl _ (hv.vars.row (by first | exact .head _ | exact .tail _ (.head _) | exact .tail _ (.tail _ (.head _)) | exact .tail _ (.tail _ (.tail _ (.head _))) | exact .tail _ (.tail _ (.tail _ (.tail _ (.head _)))) | exact .tail _ (.tail _ (.tail _ (.tail _ (.tail _ (.head _))))) | exact .tail _ (.tail _ (.tail _ (.tail _ (.tail _ (.tail _ (.head _)))))) | exact .tail _ (.tail _ (.tail _ (.tail _ (.tail _ (.tail _ (.tail _ (.head _))))))))) _ Try.underlying3 rfl (.int .i64 1) rfl ?_)
    | ((with_reducible refine at_load (T := 3) ?_); refine wl_ldc rfl b1 6 rfl _ (hv.vars.row (by first | exact .head _ | exact .tail _ (.head _) | exact .tail _ (.tail _ (.head _)) | exact .tail _ (.tail _ (.tail _ (.head _))) | exact .tail _ (.tail _ (.tail _ (.tail _ (.head _)))) | exact .tail _ (.tail _ (.tail _ (.tail _ (.tail _ (.head _))))) | exact .tail _ (.tail _ (.tail _ (.tail _ (.tail _ (.tail _ (.head _)))))) | exact .tail _ (.tail _ (.tail _ (.tail _ (.tail _ (.tail _ (.tail _ (.head _))))))))) _ Try.underlying3 rfl (.int .i64 60) rfl ?_)
    | ((with_reducible refine at_load (T := 4) ?_); refine wl_ldc rfl b1 7 rfl _ (hv.vars.row (by first | exact .head _ | exact .tail _ (.head _) | exact .tail _ (.tail _ (.head _)) | exact .tail _ (.tail _ (.tail _ (.head _))) | exact .tail _ (.tail _ (.tail _ (.tail _ (.head _)))) | exact .tail _ (.tail _ (.tail _ (.tail _ (.tail _ (.head _))))) | exact .tail _ (.tail _ (.tail _ (.tail _ (.tail _ (.tail _ (.head _)))))) | exact .tail _ (.tail _ (.tail _ (.tail _ (.tail _ (.tail _ (.tail _ (.head _))))))))) _ Try.underlying4 rfl (.bool true) rfl ?_)
    | ((with_reducible refine at_load (T := 28) ?_); refine wl_ldc rfl b1 5 rfl _ (hv.vars.row (by first | exact .head _ | exact .tail _ (.head _) | exact .tail _ (.tail _ (.head _)) | exact .tail _ (.tail _ (.tail _ (.head _))) | exact .tail _ (.tail _ (.tail _ (.tail _ (.head _)))) | exact .tail _ (.tail _ (.tail _ (.tail _ (.tail _ (.head _))))) | exact .tail _ (.tail _ (.tail _ (.tail _ (.tail _ (.tail _ (.head _)))))) | exact .tail _ (.tail _ (.tail _ (.tail _ (.tail _ (.tail _ (.tail _ (.head _))))))))) _ Try.underlying28 rfl (.slice ca 1 cc) rfl ?_))
  go_ret
  exact ⟨rfl, hv.below⟩
end Go.Proofs.Ytcelehhaggoijaa
end

section
/-
  Entropy behind a ring (layer 11): what asking does at work.
-/
set_option linter.unusedVariables false
set_option linter.unusedSimpArgs false
namespace Go.Proofs.Ytcelehhaggoijaa
open Go.Proofs.Qu Go.Proofs.Nm Go.RowKit Go.Proofs
theorem splice_10_8_1 (a0 a1 a2 a3 a4 a5 a6 a7 a8 a9 v0 : Value) : splice #[a0, a1, a2, a3, a4, a5, a6, a7, a8, a9] 8 #[v0] = #[a0, a1, a2, a3, a4, a5, a6, a7, v0, a9] := by simp [splice]
theorem splice_10_0_6 (a0 a1 a2 a3 a4 a5 a6 a7 a8 a9 v0 v1 v2 v3 v4 v5 : Value) : splice #[a0, a1, a2, a3, a4, a5, a6, a7, a8, a9] 0 #[v0, v1, v2, v3, v4, v5] = #[v0, v1, v2, v3, v4, v5, a6, a7, a8, a9] := by simp [splice]
set_option maxRecDepth 100000 in
set_option maxHeartbeats 16000000 in
theorem Ask1_V {w0 w : World} {L : List (Nat × Array Value)} {R : List (Nat × Value × List Value)} {b vb vc fc cc av av1 : Nat} {fa ca : Option Addr} {M free : List Nat} (hv : Mem w0 w ((b, #[.int .i64 0, .int .i64 1, .slice fa 1 fc, .int .u16 (av : Nat), .int .u16 (av : Nat), .slice ca 0 cc, .int .i64 60, .bool false, .slice (some ⟨vb, 0, none⟩) 80 vc, .slice none 0 0]) :: L) R) (hd : Drv R 80 vb vc (.slice fa 1 fc) (.slice ca 0 cc) M 1 free []) (hfl : free.length = 1) (hav : av < 65536) (hav1 : (av + 1) % 65536 = av1) :
    Calls Try.prog 15 #[.pointer (some ⟨b, 0, none⟩)] w fun e w' => ∃ vb2 vc2 fc2 cc2 fa2 ca2 M2 free2 c2 hdn R2, e = .returned (.int .i64 0) ∧ Mem w0 w' ((b, #[.int .i64 0, .int .i64 1, .slice fa2 0 fc2, .int .u16 (av1 : Nat), .int .u16 (av : Nat), .slice ca2 1 cc2, .int .i64 60, .bool true, .slice (some ⟨vb2, 0, none⟩) 80 vc2, .slice none 0 0]) :: L) R2 ∧ Asked R2 vb2 vc2 (.slice fa2 0 fc2) (.slice ca2 1 cc2) M2 free2 c2 hdn av av1 ∧ ∀ x ∈ R, x ∈ R2 := by
  have HD := Lib.hid hd
  have HFL := Lib.hid hfl
  have HAV := Lib.hid hav
  have HA1 := Lib.hid hav1
  have HSO : Hid (∃ v R', AddW R av av1 v R') := Lib.hid (Bny.some_of (Add_V ((hv.bsl' (k := 3) (n := 1) (c := cellsPt VL) ⟨rfl, made_alloc _ #[.int .i64 60, .int .i64 16, .bool true] 60⟩ rfl rfl (by unfold maxLen; omega))) (fun x hx => Mem.s hx) hd hfl Mem.z hav hav1))
  have HKN : Hid (∀ (B15 : Nat) {E : Bny.Env} (ks : List Nat), 15 ∈ ks → E 15 = .rds [(3, .slice (some ⟨B15, 0, none⟩) 1 1, cellsPt VL)] → ∀ x ∈ (3, Value.slice (some ⟨B15, 0, none⟩) 1 1, cellsPt VL) :: R, Bny.Known ⟨w0, L, R⟩ E ks x) := Lib.hid (fun B15 E ks h1 h2 x hx => by
    rcases List.mem_cons.1 hx with rfl | hx
    · exact .inr ⟨15, h1, by rw [h2]; exact List.mem_singleton_self _⟩
    · exact .inl hx)
  clear hd hfl hav hav1
  go_enter Try.func15, Try.ntmps15
  go_wp2
  have hv0 := hv
  clear hv
  have hv : Mem w0 _ ([(b, #[.int .i64 0, .int .i64 1, .slice fa 1 fc, .int .u16 (av : Nat), .int .u16 (av : Nat), .slice ca 0 cc, .int .i64 60, .bool false, .slice (some ⟨vb, 0, none⟩) 80 vc, .slice none 0 0])] ++ L) _ := hv0
  clear hv0
  try simp only [Act.put]
  refine Bny.wp_region_walk [(b, #[.int .i64 0, .int .i64 1, .slice fa 1 fc, .int .u16 (av : Nat), .int .u16 (av : Nat), .slice ca 0 cc, .int .i64 60, .bool false, .slice (some ⟨vb, 0, none⟩) 80 vc, .slice none 0 0])] L [⟨[], none⟩, ⟨[], none⟩, ⟨[], none⟩, ⟨[1000], none⟩, ⟨[], none⟩, ⟨[], none⟩, ⟨[], none⟩, ⟨[], none⟩, ⟨[1000], none⟩, ⟨[], none⟩, ⟨[], none⟩, ⟨[], none⟩, ⟨[], none⟩, ⟨[1000], none⟩, ⟨[], none⟩, ⟨[], some 15⟩, ⟨[15], some 16⟩, ⟨[], none⟩, ⟨[], none⟩, ⟨[], none⟩, ⟨[], none⟩, ⟨[], none⟩, ⟨[], some 22⟩, ⟨[], some 23⟩, ⟨[22], some 22⟩, ⟨[23], some 23⟩, ⟨[], none⟩, ⟨[], none⟩] [.val, .val, .val, .val, .val, .val, .val, .val, .val, .val, .val, .val, .val, .val, .val, .bslR 3 1 #[.int .i64 60, .int .i64 16, .bool true], .mem (AddW R av av1), .pure, .pure, .pure, .pure, .pure, .lay #[.slice none 0 0], .lay #[.int .i64 0, .int .i64 0, .slice none 0 0, .int .u16 0, .int .u16 0, .slice none 0 0], .put, .put, .pure, .pure] (by kernel_rfl) (by kernel_rfl) hv ?_
  simp only [List.length_cons, List.length_nil, Nat.zero_add, Any.someVals]
  iterate 28 apply Exists.intro
  repeat (first
    | (refine Bny.E_off rfl ?_; simp only [Act.put, List.setIfInBounds_toArray, List.set_cons_succ, List.set_cons_zero])
    | ((with_reducible refine Bny.at_ealloc ?_); refine Bny.E_lay (t := 25) rfl rfl rfl (fun _ => rfl) ?_; intro b22; simp only [Act.put, List.setIfInBounds_toArray, List.set_cons_succ, List.set_cons_zero])
    | ((with_reducible refine Bny.at_ealloc ?_); refine Bny.E_lay (t := 30) rfl rfl rfl (fun _ => rfl) ?_; intro b23; simp only [Act.put, List.setIfInBounds_toArray, List.set_cons_succ, List.set_cons_zero])
    | ((with_reducible refine Bny.at_estore (T := 25) ?_); refine Bny.E_putv (T := 25) rfl rfl rfl rfl rfl rfl 1 infoM rfl rfl (by simp [Value.oneCell']) ?_; simp only [Act.put, List.setIfInBounds_toArray, List.set_cons_succ, List.set_cons_zero])
    | ((with_reducible refine Bny.at_estore (T := 30) ?_); refine Bny.E_putv (T := 30) rfl rfl rfl rfl rfl rfl 6 infoQ rfl rfl (by simp [Value.oneCell']) ?_; simp only [Act.put, List.setIfInBounds_toArray, List.set_cons_succ, List.set_cons_zero])
    | ((with_reducible refine Bny.at_ecall ?_); refine Bny.E_callmem rfl rfl rfl (Go.Proofs.enters_of Try.func16 (by kernel_rfl) rfl) rfl [.agg #[.slice (some ⟨vb, 0, none⟩) 80 vc], .agg #[.int .i64 0, .int .i64 1, .slice fa 1 fc, .int .u16 (av : Nat), .int .u16 (av : Nat), .slice ca 0 cc], .slice (some ⟨B15, 0, none⟩) 1 1] rfl HSO.out ((3, .slice (some ⟨B15, 0, none⟩) 1 1, cellsPt VL) :: R) (HKN.out B15 _ (by decide) rfl) (fun w0 w L R' hm hs => Add_V hm (fun x hx => hs x (List.mem_cons_of_mem _ hx)) HD.out HFL.out (hs _ (List.mem_cons_self ..)) HAV.out HA1.out) ?_; rintro v R2 ⟨vb2, vc2, fc2, cc2, fa2, ca2, M2, free2, c2, hdn, rfl, hAs, hS2⟩; replace hAs := Lib.hid hAs; replace hS2 := Lib.hid hS2; simp only [Act.put, List.setIfInBounds_toArray, List.set_cons_succ, List.set_cons_zero])
    | ((with_reducible refine Bny.at_ebsl ?_); refine Bny.E_bslR (t := 60) rfl rfl rfl (fun w' => (by unfold execOp; go_simp)) rfl (by unfold maxLen; omega) ?_; intro B15; simp only [Act.put, List.setIfInBounds_toArray, List.set_cons_succ, List.set_cons_zero])
    | (apply Bny.E_pureq rfl rfl rfl
       case h => intro K hK; go_big_quiet_op; (refine hK _ ?_; rfl)
       case hr => exact fun _ => rfl
       simp only [Act.put, List.setIfInBounds_toArray, List.set_cons_succ, List.set_cons_zero])
    | (apply Bny.E_val rfl rfl rfl rfl
       case h =>
         intro E' hA K hK
         first
           | ((with_reducible refine Bny.at_qload (T := 25) ?_); refine Bny.q_ldp 1000 (o := 8) hA (by decide) rfl rfl 1 _ Try.underlying25 rfl infoM (by decide) (by show 8 + 1 ≤ 10; decide) #[.slice (some ⟨vb, 0, none⟩) 80 vc] rfl ?_; refine hK _ ?_; rfl)
           | ((with_reducible refine Bny.at_qload (T := 30) ?_); refine Bny.q_ldp 1000 (o := 0) hA (by decide) rfl rfl 6 _ Try.underlying30 rfl infoQ (by decide) (by show 0 + 6 ≤ 10; decide) #[.int .i64 0, .int .i64 1, .slice fa 1 fc, .int .u16 (av : Nat), .int .u16 (av : Nat), .slice ca 0 cc] rfl ?_; refine hK _ ?_; rfl)
           | ((with_reducible refine Bny.at_qload (T := 3) ?_); refine Bny.q_ldc 1000 hA (by decide) rfl rfl _ Try.underlying3 rfl (.int .i64 60) rfl ?_; refine hK _ ?_; rfl)
           | ((with_reducible refine Any.at_qbuild (T := 60) ?_); refine Any.q_build _ rfl (built_vbuf) ?_; refine hK _ ?_; rfl)
           | (go_big_quiet_op; first
             | (refine hK _ ?_; rfl)
             | (refine ⟨_, fun _ _ => rfl, ?_⟩; refine hK _ ?_; rfl)
             | (apply Exists.intro; refine ⟨fun w1 hw1 => ?_, ?_⟩; · (first
                 | fail)
                refine hK _ ?_; rfl))
       case hD => rfl
       simp only [Act.put, List.setIfInBounds_toArray, List.set_cons_succ, List.set_cons_zero]))
  try any_goals exact undef
  refine Bny.E_nil ?_
  intro w9 hE9
  replace hv : Mem w0 w9 ([(b, #[.int .i64 0, .int .i64 1, .slice fa 1 fc, .int .u16 (av : Nat), .int .u16 (av : Nat), .slice ca 0 cc, .int .i64 60, .bool false, .slice (some ⟨vb, 0, none⟩) 80 vc, .slice none 0 0]), (b22, #[.slice (some ⟨vb2, 0, none⟩) 80 vc2]), (b23, #[.int .i64 0, .int .i64 1, .slice fa2 0 fc2, .int .u16 (av1 : Nat), .int .u16 (av : Nat), .slice ca2 1 cc2])] ++ L) R2 := hE9.mem1 [1000, 22, 23] (by decide) 16 rfl
  clear hE9
  simp only [List.cons_append, List.nil_append] at hv
  go_wp2
  have hv0 := hv
  clear hv
  have hv : Mem w0 _ ([(b, #[.int .i64 0, .int .i64 1, .slice fa 1 fc, .int .u16 (av : Nat), .int .u16 (av : Nat), .slice ca 0 cc, .int .i64 60, .bool false, .slice (some ⟨vb, 0, none⟩) 80 vc, .slice none 0 0]), (b22, #[.slice (some ⟨vb2, 0, none⟩) 80 vc2]), (b23, #[.int .i64 0, .int .i64 1, .slice fa2 0 fc2, .int .u16 (av1 : Nat), .int .u16 (av : Nat), .slice ca2 1 cc2])] ++ L) _ := hv0
  clear hv0
  try simp only [Act.put]
  refine Bny.wp_region_walk [(b, #[.int .i64 0, .int .i64 1, .slice fa 1 fc, .int .u16 (av : Nat), .int .u16 (av : Nat), .slice ca 0 cc, .int .i64 60, .bool false, .slice (some ⟨vb, 0, none⟩) 80 vc, .slice none 0 0]), (b22, #[.slice (some ⟨vb2, 0, none⟩) 80 vc2]), (b23, #[.int .i64 0, .int .i64 1, .slice fa2 0 fc2, .int .u16 (av1 : Nat), .int .u16 (av : Nat), .slice ca2 1 cc2])] L [⟨[], none⟩, ⟨[], none⟩, ⟨[], none⟩, ⟨[1001], none⟩, ⟨[1002], none⟩, ⟨[], none⟩, ⟨[], none⟩, ⟨[1000], some 1000⟩, ⟨[], none⟩, ⟨[], none⟩, ⟨[], none⟩, ⟨[1000], some 1000⟩, ⟨[], none⟩, ⟨[], none⟩, ⟨[], none⟩, ⟨[1000], some 1000⟩] [.val, .val, .val, .val, .val, .val, .val, .put, .val, .val, .val, .put, .val, .val, .val, .put] (by kernel_rfl) (by kernel_rfl) hv ?_
  simp only [List.length_cons, List.length_nil, Nat.zero_add, Any.someVals]
  iterate 16 apply Exists.intro
  repeat (first
    | (refine Bny.E_off rfl ?_; simp only [Act.put, List.setIfInBounds_toArray, List.set_cons_succ, List.set_cons_zero])
    | ((with_reducible refine Bny.at_estore (T := 25) ?_); refine Bny.E_putp (T := 25) (off := 8) rfl rfl rfl rfl rfl rfl 1 infoM rfl (by show 8 + 1 ≤ 10; decide) (by simp [Value.oneCell']) (splice_10_8_1 _ _ _ _ _ _ _ _ _ _ _) ?_; simp only [Act.put, List.setIfInBounds_toArray, List.set_cons_succ, List.set_cons_zero])
    | ((with_reducible refine Bny.at_estore (T := 30) ?_); refine Bny.E_putp (T := 30) (off := 0) rfl rfl rfl rfl rfl rfl 6 infoQ rfl (by show 0 + 6 ≤ 10; decide) (by simp [Value.oneCell']) (splice_10_0_6 _ _ _ _ _ _ _ _ _ _ _ _ _ _ _ _) ?_; simp only [Act.put, List.setIfInBounds_toArray, List.set_cons_succ, List.set_cons_zero])
    | ((with_reducible refine Bny.at_estore (T := 4) ?_); refine Bny.E_putc (T := 4) (off := 7) rfl rfl rfl rfl rfl rfl (by kernel_rfl) rfl (by show 7 < 10; decide) ?_; simp only [Act.put, List.setIfInBounds_toArray, List.set_cons_succ, List.set_cons_zero])
    | (apply Bny.E_pureq rfl rfl rfl
       case h => intro K hK; go_big_quiet_op; (refine hK _ ?_; rfl)
       case hr => exact fun _ => rfl
       simp only [Act.put, List.setIfInBounds_toArray, List.set_cons_succ, List.set_cons_zero])
    | (apply Bny.E_val rfl rfl rfl rfl
       case h =>
         intro E' hA K hK
         first
           | ((with_reducible refine Bny.at_qload (T := 25) ?_); refine Bny.q_ldv 1001 hA (by decide) rfl rfl 1 _ Try.underlying25 rfl infoM (by decide) rfl ?_; refine hK _ ?_; rfl)
           | ((with_reducible refine Bny.at_qload (T := 30) ?_); refine Bny.q_ldv 1002 hA (by decide) rfl rfl 6 _ Try.underlying30 rfl infoQ (by decide) rfl ?_; refine hK _ ?_; rfl)
           | (go_big_quiet_op; first
             | (refine hK _ ?_; rfl)
             | (refine ⟨_, fun _ _ => rfl, ?_⟩; refine hK _ ?_; rfl)
             | (apply Exists.intro; refine ⟨fun w1 hw1 => ?_, ?_⟩; · (first
                 | fail)
                refine hK _ ?_; rfl))
       case hD => rfl
       simp only [Act.put, List.setIfInBounds_toArray, List.set_cons_succ, List.set_cons_zero]))
  try any_goals exact undef
  refine Bny.E_nil ?_
  intro w9 hE9
  replace hv : Mem w0 w9 ([(b, #[.int .i64 0, .int .i64 1, .slice fa2 0 fc2, .int .u16 (av1 : Nat), .int .u16 (av : Nat), .slice ca2 1 cc2, .int .i64 60, .bool true, .slice (some ⟨vb2, 0, none⟩) 80 vc2, .slice none 0 0]), (b22, #[.slice (some ⟨vb2, 0, none⟩) 80 vc2]), (b23, #[.int .i64 0, .int .i64 1, .slice fa2 0 fc2, .int .u16 (av1 : Nat), .int .u16 (av : Nat), .slice ca2 1 cc2])] ++ L) R2 := hE9.mem0 [1000, 1001, 1002] (by decide)
  clear hE9
  simp only [List.cons_append, List.nil_append] at hv
  go_wp2
  go_ret
  exact ⟨vb2, vc2, fc2, cc2, fa2, ca2, M2, free2, c2, hdn, R2, rfl, (hv.perm (List.Perm.refl _)).keep (by exact List.Sublist.cons_cons _ ((List.sublist_append_right [_, _] L))), hAs.out, hS2.out⟩
end Go.Proofs.Ytcelehhaggoijaa
end

section
/-
  Entropy behind a ring (layer 11): asking.
-/
set_option linter.unusedVariables false
set_option linter.unusedSimpArgs false
namespace Go.Proofs.Ytcelehhaggoijaa
open Go.Proofs.Qu Go.Proofs.Nm Go.RowKit Go.Proofs
theorem calls_cap0 {P : Program} {f : FuncId} {args : Array Value} {w : World} {R : Ending → World → Prop} (h : Calls P f args w R) : Calls P f (args ++ #[]) w R := by rw [Array.append_empty]; exact h
set_option maxRecDepth 100000 in
set_option maxHeartbeats 4000000 in
theorem doneAsk_V {w0 w : World} {L : List (Nat × Array Value)} {R : List (Nat × Value × List Value)} (hv : Mem w0 w L R) {vb vc fc cc av av1 : Nat} {fa ca : Option Addr} {M free : List Nat} (hd : Drv R 80 vb vc (.slice fa 1 fc) (.slice ca 0 cc) M 1 free []) (hfl : free.length = 1) (hav : av < 65536) (hav1 : (av + 1) % 65536 = av1) :
    Calls Try.prog 14 #[.agg #[.slice (some ⟨vb, 0, none⟩) 80 vc], .agg #[.int .i64 0, .int .i64 1, .slice fa 1 fc, .int .u16 (av : Nat), .int .u16 (av : Nat), .slice ca 0 cc, .int .i64 60, .bool false], .bool false, .func (.func 15) #[] #[]] w fun e w' => ∃ b vb2 vc2 fc2 cc2 fa2 ca2 M2 free2 c2 hdn R2, e = .returned (.tuple #[.pointer (some ⟨b, 0, none⟩), .int .i64 0]) ∧ Mem w0 w' ((b, #[.int .i64 0, .int .i64 1, .slice fa2 0 fc2, .int .u16 (av1 : Nat), .int .u16 (av : Nat), .slice ca2 1 cc2, .int .i64 60, .bool true, .slice (some ⟨vb2, 0, none⟩) 80 vc2, .slice none 0 0]) :: L) R2 ∧ Asked R2 vb2 vc2 (.slice fa2 0 fc2) (.slice ca2 1 cc2) M2 free2 c2 hdn av av1 ∧ ∀ x ∈ R, x ∈ R2 := by
  have HD := Lib.hid hd
  have HFL := Lib.hid hfl
  have HAV := Lib.hid hav
  have HA1 := Lib.hid hav1
  clear hd hfl hav hav1
  go_enter Try.func14, Try.ntmps14
  go_wp2_with (first
    | ((with_reducible refine at_box (T := 25) (dst := some 4) ?_); refine wl_newb rfl #[.slice (some ⟨vb, 0, none⟩) 80 vc] 25 (fun _ => rfl) ?_; intro b4 w2 hm2; replace hv := hv.madeAt hm2; clear hm2)
    | ((with_reducible refine at_box (T := 32) (dst := some 5) ?_); refine wl_newb rfl #[.int .i64 0, .int .i64 1, .slice fa 1 fc, .int .u16 (av : Nat), .int .u16 (av : Nat), .slice ca 0 cc, .int .i64 60, .bool false] 32 (fun _ => rfl) ?_; intro b5 w2 hm2; replace hv := hv.madeAt hm2; clear hm2)
    | ((with_reducible refine at_load (T := 32) ?_); refine wl_ldv rfl b5 rfl _ (hv.vars.row (by first | exact .head _ | exact .tail _ (.head _) | exact .tail _ (.tail _ (.head _)) | exact .tail _ (.tail _ (.tail _ (.head _))) | exact .tail _ (.tail _ (.tail _ (.tail _ (.head _)))) | exact .tail _ (.tail _ (.tail _ (.tail _ (.tail _ (.head _))))) | exact .tail _ (.tail _ (.tail _ (.tail _ (.tail _ (.tail _ (.head _)))))) | exact .tail _ (.tail _ (.tail _ (.tail _ (.tail _ (.tail _ (.tail _ (.head _))))))))) 8 _ Try.underlying32 rfl infoV (by decide) rfl ?_)
    | ((with_reducible refine at_load (T := 25) ?_); refine wl_ldv rfl b4 rfl _ (hv.vars.row (by first | exact .head _ | exact .tail _ (.head _) | exact .tail _ (.tail _ (.head _)) | exact .tail _ (.tail _ (.tail _ (.head _))) | exact .tail _ (.tail _ (.tail _ (.tail _ (.head _)))) | exact .tail _ (.tail _ (.tail _ (.tail _ (.tail _ (.head _))))) | exact .tail _ (.tail _ (.tail _ (.tail _ (.tail _ (.tail _ (.head _)))))) | exact .tail _ (.tail _ (.tail _ (.tail _ (.tail _ (.tail _ (.tail _ (.head _))))))))) 1 _ Try.underlying25 rfl infoM (by decide) rfl ?_)
    | ((with_reducible refine at_build (T := 58) ?_); refine wl_build rfl _ rfl (built_vwk _ _ _ _ _ _ _) ?_)
    | ((with_reducible refine at_box (T := 58) (dst := some 14) ?_); refine wl_newb rfl #[.int .i64 0, .int .i64 1, .slice fa 1 fc, .int .u16 (av : Nat), .int .u16 (av : Nat), .slice ca 0 cc, .int .i64 60, .bool false, .slice (some ⟨vb, 0, none⟩) 80 vc, .slice none 0 0] 58 (fun _ => rfl) ?_; intro b14 w2 hm2; replace hv := hv.madeAt hm2; clear hm2)
    | (go_at_call 13; (with_reducible refine (VCk_idle hv HD.out.q HD.out.ok).mono ?_); rintro e w1 ⟨rfl, hn1⟩; replace hv := hv.new hn1; clear hn1)
    | ((with_reducible refine at_load (T := 4) ?_); refine wl_ldc rfl b5 7 rfl _ (hv.vars.row (by first | exact .head _ | exact .tail _ (.head _) | exact .tail _ (.tail _ (.head _)) | exact .tail _ (.tail _ (.tail _ (.head _))) | exact .tail _ (.tail _ (.tail _ (.tail _ (.head _)))) | exact .tail _ (.tail _ (.tail _ (.tail _ (.tail _ (.head _))))) | exact .tail _ (.tail _ (.tail _ (.tail _ (.tail _ (.tail _ (.head _)))))) | exact .tail _ (.tail _ (.tail _ (.tail _ (.tail _ (.tail _ (.tail _ (.head _))))))))) _ Try.underlying4 rfl (.bool false) rfl ?_)
    | ((with_reducible refine at_call ?_); refine wl_callv rfl (Go.Proofs.enters_of Try.func15 (by kernel_rfl) rfl) rfl [.pointer (some ⟨b14, 0, none⟩)] rfl (calls_cap0 (Ask1_V hv HD.out HFL.out HAV.out HA1.out)) ?_; rintro e w1 ⟨vb2, vc2, fc2, cc2, fa2, ca2, M2, free2, c2, hdn, R2, rfl, hv1, hAs, hS2⟩; refine ⟨_, rfl, ?_⟩; replace hv := hv1; clear hv1; replace hAs := Lib.hid hAs; replace hS2 := Lib.hid hS2))
  go_ret2
  exact ⟨b14, vb2, vc2, fc2, cc2, fa2, ca2, M2, free2, c2, hdn, R2, rfl, hv.keep (by exact List.Sublist.cons_cons _ (List.sublist_append_right [_, _] L)), hAs.out, hS2.out⟩
set_option maxRecDepth 100000 in
set_option maxHeartbeats 4000000 in
theorem doneBusy_V {w0 w : World} {L : List (Nat × Array Value)} {R : List (Nat × Value × List Value)} (hv : Mem w0 w L R) {vb vc fc cc nf av la : Nat} {fa ca : Option Addr} {free : List Nat} {chs : List Chn} (hq : InQ R (.slice fa nf fc) (.slice ca 1 cc) free chs) (ho : OkQ 1 free chs) (fv : Value) :
    Calls Try.prog 14 #[.agg #[.slice (some ⟨vb, 0, none⟩) 80 vc], .agg #[.int .i64 0, .int .i64 1, .slice fa nf fc, .int .u16 (av : Nat), .int .u16 (la : Nat), .slice ca 1 cc, .int .i64 60, .bool true], .bool false, fv] w fun e w' => ∃ b, e = .returned (.tuple #[.pointer (some ⟨b, 0, none⟩), .int .i64 8]) ∧ Mem w0 w' ((b, #[.int .i64 0, .int .i64 1, .slice fa nf fc, .int .u16 (av : Nat), .int .u16 (la : Nat), .slice ca 1 cc, .int .i64 60, .bool true, .slice (some ⟨vb, 0, none⟩) 80 vc, .slice none 0 0]) :: L) R := by
  have HQ := Lib.hid hq
  have HO := Lib.hid ho
  clear hq ho
  go_enter Try.func14, Try.ntmps14
  go_wp2_with (first
    | ((with_reducible refine at_box (T := 25) (dst := some 4) ?_); refine wl_newb rfl #[.slice (some ⟨vb, 0, none⟩) 80 vc] 25 (fun _ => rfl) ?_; intro b4 w2 hm2; replace hv := hv.madeAt hm2; clear hm2)
    | ((with_reducible refine at_box (T := 32) (dst := some 5) ?_); refine wl_newb rfl #[.int .i64 0, .int .i64 1, .slice fa nf fc, .int .u16 (av : Nat), .int .u16 (la : Nat), .slice ca 1 cc, .int .i64 60, .bool true] 32 (fun _ => rfl) ?_; intro b5 w2 hm2; replace hv := hv.madeAt hm2; clear hm2)
    | ((with_reducible refine at_load (T := 32) ?_); refine wl_ldv rfl b5 rfl _ (hv.vars.row (by first | exact .head _ | exact .tail _ (.head _) | exact .tail _ (.tail _ (.head _)) | exact .tail _ (.tail _ (.tail _ (.head _))) | exact .tail _ (.tail _ (.tail _ (.tail _ (.head _)))) | exact .tail _ (.tail _ (.tail _ (.tail _ (.tail _ (.head _))))) | exact .tail _ (.tail _ (.tail _ (.tail _ (.tail _ (.tail _ (.head _)))))) | exact .tail _ (.tail _ (.tail _ (.tail _ (.tail _ (.tail _ (.tail _ (.head _))))))))) 8 _ Try.underlying32 rfl infoV (by decide) rfl ?_)
    | ((with_reducible refine at_load (T := 25) ?_); refine wl_ldv rfl b4 rfl _ (hv.vars.row (by first | exact .head _ | exact .tail _ (.head _) | exact .tail _ (.tail _ (.head _)) | exact .tail _ (.tail _ (.tail _ (.head _))) | exact .tail _ (.tail _ (.tail _ (.tail _ (.head _)))) | exact .tail _ (.tail _ (.tail _ (.tail _ (.tail _ (.head _))))) | exact .tail _ (.tail _ (.tail _ (.tail _ (.tail _ (.tail _ (.head _)))))) | exact .tail _ (.tail _ (.tail _ (.tail _ (.tail _ (.tail _ (.tail _ (.head _))))))))) 1 _ Try.underlying25 rfl infoM (by decide) rfl ?_)
    | ((with_reducible refine at_build (T := 58) ?_); refine wl_build rfl _ rfl (built_vwk _ _ _ _ _ _ _) ?_)
    | ((with_reducible refine at_box (T := 58) (dst := some 14) ?_); refine wl_newb rfl #[.int .i64 0, .int .i64 1, .slice fa nf fc, .int .u16 (av : Nat), .int .u16 (la : Nat), .slice ca 1 cc, .int .i64 60, .bool true, .slice (some ⟨vb, 0, none⟩) 80 vc, .slice none 0 0] 58 (fun _ => rfl) ?_; intro b14 w2 hm2; replace hv := hv.madeAt hm2; clear hm2)
    | (go_at_call 13; (with_reducible refine (VCk_busy hv HQ.out HO.out).mono ?_); rintro e w1 ⟨rfl, hn1⟩; replace hv := hv.new hn1; clear hn1)
    | ((with_reducible refine at_load (T := 4) ?_); refine wl_ldc rfl b5 7 rfl _ (hv.vars.row (by first | exact .head _ | exact .tail _ (.head _) | exact .tail _ (.tail _ (.head _)) | exact .tail _ (.tail _ (.tail _ (.head _))) | exact .tail _ (.tail _ (.tail _ (.tail _ (.head _)))) | exact .tail _ (.tail _ (.tail _ (.tail _ (.tail _ (.head _))))) | exact .tail _ (.tail _ (.tail _ (.tail _ (.tail _ (.tail _ (.head _)))))) | exact .tail _ (.tail _ (.tail _ (.tail _ (.tail _ (.tail _ (.tail _ (.head _))))))))) _ Try.underlying4 rfl (.bool true) rfl ?_))
  go_ret2
  exact ⟨b14, rfl, hv.keep (by exact List.Sublist.cons_cons _ (List.sublist_append_right [_, _] L))⟩
set_option maxRecDepth 100000 in
set_option maxHeartbeats 4000000 in
theorem doneIdle_V {w0 w : World} {L : List (Nat × Array Value)} {R : List (Nat × Value × List Value)} (hv : Mem w0 w L R) {vb vc fc cc nf av la : Nat} {fa ca : Option Addr} {free : List Nat} {chs : List Chn} (hq : InQ R (.slice fa nf fc) (.slice ca 0 cc) free chs) (ho : OkQ 1 free chs) (fv : Value) :
    Calls Try.prog 14 #[.agg #[.slice (some ⟨vb, 0, none⟩) 80 vc], .agg #[.int .i64 0, .int .i64 1, .slice fa nf fc, .int .u16 (av : Nat), .int .u16 (la : Nat), .slice ca 0 cc, .int .i64 60, .bool false], .bool true, fv] w fun e w' => ∃ b, e = .returned (.tuple #[.pointer (some ⟨b, 0, none⟩), .int .i64 8]) ∧ Mem w0 w' ((b, #[.int .i64 0, .int .i64 1, .slice fa nf fc, .int .u16 (av : Nat), .int .u16 (la : Nat), .slice ca 0 cc, .int .i64 60, .bool false, .slice (some ⟨vb, 0, none⟩) 80 vc, .slice none 0 0]) :: L) R := by
  have HQ := Lib.hid hq
  have HO := Lib.hid ho
  clear hq ho
  go_enter Try.func14, Try.ntmps14
  go_wp2_with (first
    | ((with_reducible refine at_box (T := 25) (dst := some 4) ?_); refine wl_newb rfl #[.slice (some ⟨vb, 0, none⟩) 80 vc] 25 (fun _ => rfl) ?_; intro b4 w2 hm2; replace hv := hv.madeAt hm2; clear hm2)
    | ((with_reducible refine at_box (T := 32) (dst := some 5) ?_); refine wl_newb rfl #[.int .i64 0, .int .i64 1, .slice fa nf fc, .int .u16 (av : Nat), .int .u16 (la : Nat), .slice ca 0 cc, .int .i64 60, .bool false] 32 (fun _ => rfl) ?_; intro b5 w2 hm2; replace hv := hv.madeAt hm2; clear hm2)
    | ((with_reducible refine at_load (T := 32) ?_); refine wl_ldv rfl b5 rfl _ (hv.vars.row (by first | exact .head _ | exact .tail _ (.head _) | exact .tail _ (.tail _ (.head _)) | exact .tail _ (.tail _ (.tail _ (.head _))) | exact .tail _ (.tail _ (.tail _ (.tail _ (.head _)))) | exact .tail _ (.tail _ (.tail _ (.tail _ (.tail _ (.head _))))) | exact .tail _ (.tail _ (.tail _ (.tail _ (.tail _ (.tail _ (.head _)))))) | exact .tail _ (.tail _ (.tail _ (.tail _ (.tail _ (.tail _ (.tail _ (.head _))))))))) 8 _ Try.underlying32 rfl infoV (by decide) rfl ?_)
    | ((with_reducible refine at_load (T := 25) ?_); refine wl_ldv rfl b4 rfl _ (hv.vars.row (by first | exact .head _ | exact .tail _ (.head _) | exact .tail _ (.tail _ (.head _)) | exact .tail _ (.tail _ (.tail _ (.head _))) | exact .tail _ (.tail _ (.tail _ (.tail _ (.head _)))) | exact .tail _ (.tail _ (.tail _ (.tail _ (.tail _ (.head _))))) | exact .tail _ (.tail _ (.tail _ (.tail _ (.tail _ (.tail _ (.head _)))))) | exact .tail _ (.tail _ (.tail _ (.tail _ (.tail _ (.tail _ (.tail _ (.head _))))))))) 1 _ Try.underlying25 rfl infoM (by decide) rfl ?_)
    | ((with_reducible refine at_build (T := 58) ?_); refine wl_build rfl _ rfl (built_vwk _ _ _ _ _ _ _) ?_)
    | ((with_reducible refine at_box (T := 58) (dst := some 14) ?_); refine wl_newb rfl #[.int .i64 0, .int .i64 1, .slice fa nf fc, .int .u16 (av : Nat), .int .u16 (la : Nat), .slice ca 0 cc, .int .i64 60, .bool false, .slice (some ⟨vb, 0, none⟩) 80 vc, .slice none 0 0] 58 (fun _ => rfl) ?_; intro b14 w2 hm2; replace hv := hv.madeAt hm2; clear hm2)
    | (go_at_call 13; (with_reducible refine (VCk_idle hv HQ.out HO.out).mono ?_); rintro e w1 ⟨rfl, hn1⟩; replace hv := hv.new hn1; clear hn1)
    | ((with_reducible refine at_load (T := 4) ?_); refine wl_ldc rfl b5 7 rfl _ (hv.vars.row (by first | exact .head _ | exact .tail _ (.head _) | exact .tail _ (.tail _ (.head _)) | exact .tail _ (.tail _ (.tail _ (.head _))) | exact .tail _ (.tail _ (.tail _ (.tail _ (.head _)))) | exact .tail _ (.tail _ (.tail _ (.tail _ (.tail _ (.head _))))) | exact .tail _ (.tail _ (.tail _ (.tail _ (.tail _ (.tail _ (.head _)))))) | exact .tail _ (.tail _ (.tail _ (.tail _ (.tail _ (.tail _ (.tail _ (.head _))))))))) _ Try.underlying4 rfl (.bool false) rfl ?_))
  go_ret2
  exact ⟨b14, rfl, hv.keep (by exact List.Sublist.cons_cons _ (List.sublist_append_right [_, _] L))⟩
set_option maxRecDepth 100000 in
set_option maxHeartbeats 4000000 in
theorem Ask_V {w0 w : World} {L : List (Nat × Array Value)} {R : List (Nat × Value × List Value)} (hv : Mem w0 w L R) {vb vc fc cc av av1 : Nat} {fa ca : Option Addr} {M free : List Nat} (hd : Drv R 80 vb vc (.slice fa 1 fc) (.slice ca 0 cc) M 1 free []) (hfl : free.length = 1) (hav : av < 65536) (hav1 : (av + 1) % 65536 = av1) :
    Calls Try.prog 7 #[.agg #[.slice (some ⟨vb, 0, none⟩) 80 vc], .agg #[.int .i64 0, .int .i64 1, .slice fa 1 fc, .int .u16 (av : Nat), .int .u16 (av : Nat), .slice ca 0 cc, .int .i64 60, .bool false]] w fun e w' => ∃ vb2 vc2 fc2 cc2 fa2 ca2 M2 free2 c2 hdn R2, e = .returned (.tuple #[.agg #[.slice (some ⟨vb2, 0, none⟩) 80 vc2], .agg #[.int .i64 0, .int .i64 1, .slice fa2 0 fc2, .int .u16 (av1 : Nat), .int .u16 (av : Nat), .slice ca2 1 cc2, .int .i64 60, .bool true], .int .i64 0]) ∧ Mem w0 w' L R2 ∧ Asked R2 vb2 vc2 (.slice fa2 0 fc2) (.slice ca2 1 cc2) M2 free2 c2 hdn av av1 ∧ ∀ x ∈ R, x ∈ R2 := by
  have HD := Lib.hid hd
  have HFL := Lib.hid hfl
  have HAV := Lib.hid hav
  have HA1 := Lib.hid hav1
  clear hd hfl hav hav1
  go_enter Try.func7, Try.ntmps7
  go_wp2_with (first
    | ((with_reducible refine at_box (T := 25) (dst := some 2) ?_); refine wl_newb rfl #[.slice (some ⟨vb, 0, none⟩) 80 vc] 25 (fun _ => rfl) ?_; intro b2 w2 hm2; replace hv := hv.madeAt hm2; clear hm2)
    | ((with_reducible refine at_box (T := 32) (dst := some 3) ?_); refine wl_newb rfl #[.int .i64 0, .int .i64 1, .slice fa 1 fc, .int .u16 (av : Nat), .int .u16 (av : Nat), .slice ca 0 cc, .int .i64 60, .bool false] 32 (fun _ => rfl) ?_; intro b3 w2 hm2; replace hv := hv.madeAt hm2; clear hm2)
    | ((with_reducible refine at_alloc (T := 25) (dst := some 4) ?_); refine wl_newb rfl #[.slice none 0 0] 25 (fun _ => rfl) ?_; intro b4 w2 hm2; replace hv := hv.madeAt hm2; clear hm2)
    | ((with_reducible refine at_alloc (T := 32) (dst := some 5) ?_); refine wl_newb rfl #[.int .i64 0, .int .i64 0, .slice none 0 0, .int .u16 0, .int .u16 0, .slice none 0 0, .int .i64 0, .bool false] 32 (fun _ => rfl) ?_; intro b5 w2 hm2; replace hv := hv.madeAt hm2; clear hm2)
    | ((with_reducible refine at_load (T := 25) ?_); refine wl_ldv rfl b2 rfl _ (hv.vars.row (by first | exact .head _ | exact .tail _ (.head _) | exact .tail _ (.tail _ (.head _)) | exact .tail _ (.tail _ (.tail _ (.head _))) | exact .tail _ (.tail _ (.tail _ (.tail _ (.head _)))) | exact .tail _ (.tail _ (.tail _ (.tail _ (.tail _ (.head _))))) | exact .tail _ (.tail _ (.tail _ (.tail _ (.tail _ (.tail _ (.head _)))))) | exact .tail _ (.tail _ (.tail _ (.tail _ (.tail _ (.tail _ (.tail _ (.head _))))))))) 1 _ Try.underlying25 rfl infoM (by decide) rfl ?_)
    | ((with_reducible refine at_load (T := 32) ?_); refine wl_ldv rfl b3 rfl _ (hv.vars.row (by first | exact .head _ | exact .tail _ (.head _) | exact .tail _ (.tail _ (.head _)) | exact .tail _ (.tail _ (.tail _ (.head _))) | exact .tail _ (.tail _ (.tail _ (.tail _ (.head _)))) | exact .tail _ (.tail _ (.tail _ (.tail _ (.tail _ (.head _))))) | exact .tail _ (.tail _ (.tail _ (.tail _ (.tail _ (.tail _ (.head _)))))) | exact .tail _ (.tail _ (.tail _ (.tail _ (.tail _ (.tail _ (.tail _ (.head _))))))))) 8 _ Try.underlying32 rfl infoV (by decide) rfl ?_)
    | (go_at_call 14; (with_reducible refine (doneAsk_V hv HD.out HFL.out HAV.out HA1.out).mono ?_); rintro e w1 ⟨b, vb2, vc2, fc2, cc2, fa2, ca2, M2, free2, c2, hdn, R2, rfl, hv1, hAs, hS2⟩; replace hv := hv1; clear hv1; replace hAs := Lib.hid hAs; replace hS2 := Lib.hid hS2))
  have hv0 := hv
  clear hv
  have hv : Mem w0 _ ([(b, #[.int .i64 0, .int .i64 1, .slice fa2 0 fc2, .int .u16 (av1 : Nat), .int .u16 (av : Nat), .slice ca2 1 cc2, .int .i64 60, .bool true, .slice (some ⟨vb2, 0, none⟩) 80 vc2, .slice none 0 0]), (b5, #[.int .i64 0, .int .i64 0, .slice none 0 0, .int .u16 0, .int .u16 0, .slice none 0 0, .int .i64 0, .bool false]), (b4, #[.slice none 0 0])] ++ ((b3, #[.int .i64 0, .int .i64 1, .slice fa 1 fc, .int .u16 (av : Nat), .int .u16 (av : Nat), .slice ca 0 cc, .int .i64 60, .bool false]) :: (b2, #[.slice (some ⟨vb, 0, none⟩) 80 vc]) :: L)) _ := hv0
  clear hv0
  try simp only [Act.put]
  refine Bny.wp_region_walk [(b, #[.int .i64 0, .int .i64 1, .slice fa2 0 fc2, .int .u16 (av1 : Nat), .int .u16 (av : Nat), .slice ca2 1 cc2, .int .i64 60, .bool true, .slice (some ⟨vb2, 0, none⟩) 80 vc2, .slice none 0 0]), (b5, #[.int .i64 0, .int .i64 0, .slice none 0 0, .int .u16 0, .int .u16 0, .slice none 0 0, .int .i64 0, .bool false]), (b4, #[.slice none 0 0])] ((b3, #[.int .i64 0, .int .i64 1, .slice fa 1 fc, .int .u16 (av : Nat), .int .u16 (av : Nat), .slice ca 0 cc, .int .i64 60, .bool false]) :: (b2, #[.slice (some ⟨vb, 0, none⟩) 80 vc]) :: L) [⟨[], none⟩, ⟨[], none⟩, ⟨[], none⟩, ⟨[1000], none⟩, ⟨[], none⟩, ⟨[], none⟩, ⟨[], none⟩, ⟨[1000], none⟩, ⟨[], none⟩, ⟨[1002], some 1002⟩, ⟨[1001], some 1001⟩, ⟨[], none⟩] [.val, .val, .val, .val, .val, .val, .val, .val, .val, .put, .put, .val] (by kernel_rfl) (by kernel_rfl) hv ?_
  simp only [List.length_cons, List.length_nil, Nat.zero_add, Any.someVals]
  iterate 12 apply Exists.intro
  repeat (first
    | (refine Bny.E_off rfl ?_; simp only [Act.put, List.setIfInBounds_toArray, List.set_cons_succ, List.set_cons_zero])
    | ((with_reducible refine Bny.at_estore (T := 25) ?_); refine Bny.E_putv (T := 25) rfl rfl rfl rfl rfl rfl 1 infoM rfl rfl (by simp [Value.oneCell']) ?_; simp only [Act.put, List.setIfInBounds_toArray, List.set_cons_succ, List.set_cons_zero])
    | ((with_reducible refine Bny.at_estore (T := 32) ?_); refine Bny.E_putv (T := 32) rfl rfl rfl rfl rfl rfl 8 infoV rfl rfl (by simp [Value.oneCell']) ?_; simp only [Act.put, List.setIfInBounds_toArray, List.set_cons_succ, List.set_cons_zero])
    | (apply Bny.E_pureq rfl rfl rfl
       case h => intro K hK; go_big_quiet_op; (refine hK _ ?_; rfl)
       case hr => exact fun _ => rfl
       simp only [Act.put, List.setIfInBounds_toArray, List.set_cons_succ, List.set_cons_zero])
    | (apply Bny.E_val rfl rfl rfl rfl
       case h =>
         intro E' hA K hK
         first
           | ((with_reducible refine Bny.at_qload (T := 25) ?_); refine Bny.q_ldp 1000 (o := 8) hA (by decide) rfl rfl 1 _ Try.underlying25 rfl infoM (by decide) (by show 8 + 1 ≤ 10; decide) #[.slice (some ⟨vb2, 0, none⟩) 80 vc2] rfl ?_; refine hK _ ?_; rfl)
           | ((with_reducible refine Bny.at_qload (T := 32) ?_); refine Bny.q_ldp 1000 (o := 0) hA (by decide) rfl rfl 8 _ Try.underlying32 rfl infoV (by decide) (by show 0 + 8 ≤ 10; decide) #[.int .i64 0, .int .i64 1, .slice fa2 0 fc2, .int .u16 (av1 : Nat), .int .u16 (av : Nat), .slice ca2 1 cc2, .int .i64 60, .bool true] rfl ?_; refine hK _ ?_; rfl)
           | (go_big_quiet_op; first
             | (refine hK _ ?_; rfl)
             | (refine ⟨_, fun _ _ => rfl, ?_⟩; refine hK _ ?_; rfl)
             | (apply Exists.intro; refine ⟨fun w1 hw1 => ?_, ?_⟩; · (first
                 | fail)
                refine hK _ ?_; rfl))
       case hD => rfl
       simp only [Act.put, List.setIfInBounds_toArray, List.set_cons_succ, List.set_cons_zero]))
  try any_goals exact undef
  refine Bny.E_nil ?_
  intro w9 hE9
  replace hv : Mem w0 w9 ([(b, #[.int .i64 0, .int .i64 1, .slice fa2 0 fc2, .int .u16 (av1 : Nat), .int .u16 (av : Nat), .slice ca2 1 cc2, .int .i64 60, .bool true, .slice (some ⟨vb2, 0, none⟩) 80 vc2, .slice none 0 0]), (b5, #[.int .i64 0, .int .i64 1, .slice fa2 0 fc2, .int .u16 (av1 : Nat), .int .u16 (av : Nat), .slice ca2 1 cc2, .int .i64 60, .bool true]), (b4, #[.slice (some ⟨vb2, 0, none⟩) 80 vc2])] ++ ((b3, #[.int .i64 0, .int .i64 1, .slice fa 1 fc, .int .u16 (av : Nat), .int .u16 (av : Nat), .slice ca 0 cc, .int .i64 60, .bool false]) :: (b2, #[.slice (some ⟨vb, 0, none⟩) 80 vc]) :: L)) _ := hE9.mem0 [1000, 1001, 1002] (by decide)
  clear hE9
  simp only [List.cons_append, List.nil_append] at hv
  go_wp2
  try simp only [Exit.inBlock, Exit.then]
  refine ret_cct (v := .agg #[.slice (some ⟨vb2, 0, none⟩) 80 vc2]) (v' := .agg #[.int .i64 0, .int .i64 1, .slice fa2 0 fc2, .int .u16 (av1 : Nat), .int .u16 (av : Nat), .slice ca2 1 cc2, .int .i64 60, .bool true]) (v1 := .int .i64 0) rfl rfl rfl (read_row _ b4 25 _ (hv.vars.row (b := b4) (by first | exact .head _ | exact .tail _ (.head _) | exact .tail _ (.tail _ (.head _)) | exact .tail _ (.tail _ (.tail _ (.head _))) | exact .tail _ (.tail _ (.tail _ (.tail _ (.head _)))) | exact .tail _ (.tail _ (.tail _ (.tail _ (.tail _ (.head _))))) | exact .tail _ (.tail _ (.tail _ (.tail _ (.tail _ (.tail _ (.head _)))))) | exact .tail _ (.tail _ (.tail _ (.tail _ (.tail _ (.tail _ (.tail _ (.head _))))))))) 1 _ Try.underlying25 rfl infoM (by decide) rfl) (read_row _ b5 32 _ (hv.vars.row (b := b5) (by first | exact .head _ | exact .tail _ (.head _) | exact .tail _ (.tail _ (.head _)) | exact .tail _ (.tail _ (.tail _ (.head _))) | exact .tail _ (.tail _ (.tail _ (.tail _ (.head _)))) | exact .tail _ (.tail _ (.tail _ (.tail _ (.tail _ (.head _))))) | exact .tail _ (.tail _ (.tail _ (.tail _ (.tail _ (.tail _ (.head _)))))) | exact .tail _ (.tail _ (.tail _ (.tail _ (.tail _ (.tail _ (.tail _ (.head _))))))))) 8 _ Try.underlying32 rfl infoV (by decide) rfl) rfl rfl ?_
  exact ⟨vb2, vc2, fc2, cc2, fa2, ca2, M2, free2, c2, hdn, R2, rfl, hv.keep (by exact List.sublist_append_right [_, _, _, _, _] L), hAs.out, hS2.out⟩
set_option maxRecDepth 100000 in
set_option maxHeartbeats 4000000 in
theorem AskBusy_V {w0 w : World} {L : List (Nat × Array Value)} {R : List (Nat × Value × List Value)} (hv : Mem w0 w L R) {vb vc fc cc nf av la : Nat} {fa ca : Option Addr} {free : List Nat} {chs : List Chn} (hq : InQ R (.slice fa nf fc) (.slice ca 1 cc) free chs) (ho : OkQ 1 free chs) :
    Calls Try.prog 7 #[.agg #[.slice (some ⟨vb, 0, none⟩) 80 vc], .agg #[.int .i64 0, .int .i64 1, .slice fa nf fc, .int .u16 (av : Nat), .int .u16 (la : Nat), .slice ca 1 cc, .int .i64 60, .bool true]] w fun e w' => e = .returned (.tuple #[.agg #[.slice (some ⟨vb, 0, none⟩) 80 vc], .agg #[.int .i64 0, .int .i64 1, .slice fa nf fc, .int .u16 (av : Nat), .int .u16 (la : Nat), .slice ca 1 cc, .int .i64 60, .bool true], .int .i64 8]) ∧ Mem w0 w' L R := by
  have HQ := Lib.hid hq
  have HO := Lib.hid ho
  clear hq ho
  go_enter Try.func7, Try.ntmps7
  go_wp2_with (first
    | ((with_reducible refine at_box (T := 25) (dst := some 2) ?_); refine wl_newb rfl #[.slice (some ⟨vb, 0, none⟩) 80 vc] 25 (fun _ => rfl) ?_; intro b2 w2 hm2; replace hv := hv.madeAt hm2; clear hm2)
    | ((with_reducible refine at_box (T := 32) (dst := some 3) ?_); refine wl_newb rfl #[.int .i64 0, .int .i64 1, .slice fa nf fc, .int .u16 (av : Nat), .int .u16 (la : Nat), .slice ca 1 cc, .int .i64 60, .bool true] 32 (fun _ => rfl) ?_; intro b3 w2 hm2; replace hv := hv.madeAt hm2; clear hm2)
    | ((with_reducible refine at_alloc (T := 25) (dst := some 4) ?_); refine wl_newb rfl #[.slice none 0 0] 25 (fun _ => rfl) ?_; intro b4 w2 hm2; replace hv := hv.madeAt hm2; clear hm2)
    | ((with_reducible refine at_alloc (T := 32) (dst := some 5) ?_); refine wl_newb rfl #[.int .i64 0, .int .i64 0, .slice none 0 0, .int .u16 0, .int .u16 0, .slice none 0 0, .int .i64 0, .bool false] 32 (fun _ => rfl) ?_; intro b5 w2 hm2; replace hv := hv.madeAt hm2; clear hm2)
    | ((with_reducible refine at_load (T := 25) ?_); refine wl_ldv rfl b2 rfl _ (hv.vars.row (by first | exact .head _ | exact .tail _ (.head _) | exact .tail _ (.tail _ (.head _)) | exact .tail _ (.tail _ (.tail _ (.head _))) | exact .tail _ (.tail _ (.tail _ (.tail _ (.head _)))) | exact .tail _ (.tail _ (.tail _ (.tail _ (.tail _ (.head _))))) | exact .tail _ (.tail _ (.tail _ (.tail _ (.tail _ (.tail _ (.head _)))))) | exact .tail _ (.tail _ (.tail _ (.tail _ (.tail _ (.tail _ (.tail _ (.head _))))))))) 1 _ Try.underlying25 rfl infoM (by decide) rfl ?_)
    | ((with_reducible refine at_load (T := 32) ?_); refine wl_ldv rfl b3 rfl _ (hv.vars.row (by first | exact .head _ | exact .tail _ (.head _) | exact .tail _ (.tail _ (.head _)) | exact .tail _ (.tail _ (.tail _ (.head _))) | exact .tail _ (.tail _ (.tail _ (.tail _ (.head _)))) | exact .tail _ (.tail _ (.tail _ (.tail _ (.tail _ (.head _))))) | exact .tail _ (.tail _ (.tail _ (.tail _ (.tail _ (.tail _ (.head _)))))) | exact .tail _ (.tail _ (.tail _ (.tail _ (.tail _ (.tail _ (.tail _ (.head _))))))))) 8 _ Try.underlying32 rfl infoV (by decide) rfl ?_)
    | (go_at_call 14; (with_reducible refine (doneBusy_V hv HQ.out HO.out _).mono ?_); rintro e w1 ⟨b, rfl, hv1⟩; replace hv := hv1; clear hv1))
  have hv0 := hv
  clear hv
  have hv : Mem w0 _ ([(b, #[.int .i64 0, .int .i64 1, .slice fa nf fc, .int .u16 (av : Nat), .int .u16 (la : Nat), .slice ca 1 cc, .int .i64 60, .bool true, .slice (some ⟨vb, 0, none⟩) 80 vc, .slice none 0 0]), (b5, #[.int .i64 0, .int .i64 0, .slice none 0 0, .int .u16 0, .int .u16 0, .slice none 0 0, .int .i64 0, .bool false]), (b4, #[.slice none 0 0])] ++ ((b3, #[.int .i64 0, .int .i64 1, .slice fa nf fc, .int .u16 (av : Nat), .int .u16 (la : Nat), .slice ca 1 cc, .int .i64 60, .bool true]) :: (b2, #[.slice (some ⟨vb, 0, none⟩) 80 vc]) :: L)) _ := hv0
  clear hv0
  try simp only [Act.put]
  refine Bny.wp_region_walk [(b, #[.int .i64 0, .int .i64 1, .slice fa nf fc, .int .u16 (av : Nat), .int .u16 (la : Nat), .slice ca 1 cc, .int .i64 60, .bool true, .slice (some ⟨vb, 0, none⟩) 80 vc, .slice none 0 0]), (b5, #[.int .i64 0, .int .i64 0, .slice none 0 0, .int .u16 0, .int .u16 0, .slice none 0 0, .int .i64 0, .bool false]), (b4, #[.slice none 0 0])] ((b3, #[.int .i64 0, .int .i64 1, .slice fa nf fc, .int .u16 (av : Nat), .int .u16 (la : Nat), .slice ca 1 cc, .int .i64 60, .bool true]) :: (b2, #[.slice (some ⟨vb, 0, none⟩) 80 vc]) :: L) [⟨[], none⟩, ⟨[], none⟩, ⟨[], none⟩, ⟨[1000], none⟩, ⟨[], none⟩, ⟨[], none⟩, ⟨[], none⟩, ⟨[1000], none⟩, ⟨[], none⟩, ⟨[1002], some 1002⟩, ⟨[1001], some 1001⟩, ⟨[], none⟩] [.val, .val, .val, .val, .val, .val, .val, .val, .val, .put, .put, .val] (by kernel_rfl) (by kernel_rfl) hv ?_
  simp only [List.length_cons, List.length_nil, Nat.zero_add, Any.someVals]
  iterate 12 apply Exists.intro
  repeat (first
    | (refine Bny.E_off rfl ?_; simp only [Act.put, List.setIfInBounds_toArray, List.set_cons_succ, List.set_cons_zero])
    | ((with_reducible refine Bny.at_estore (T := 25) ?_); refine Bny.E_putv (T := 25) rfl rfl rfl rfl rfl rfl 1 infoM rfl rfl (by simp [Value.oneCell']) ?_; simp only [Act.put, List.setIfInBounds_toArray, List.set_cons_succ, List.set_cons_zero])
    | ((with_reducible refine Bny.at_estore (T := 32) ?_); refine Bny.E_putv (T := 32) rfl rfl rfl rfl rfl rfl 8 infoV rfl rfl (by simp [Value.oneCell']) ?_; simp only [Act.put, List.setIfInBounds_toArray, List.set_cons_succ, List.set_cons_zero])
    | (apply Bny.E_pureq rfl rfl rfl
       case h => intro K hK; go_big_quiet_op; (refine hK _ ?_; rfl)
       case hr => exact fun _ => rfl
       simp only [Act.put, List.setIfInBounds_toArray, List.set_cons_succ, List.set_cons_zero])
    | (apply Bny.E_val rfl rfl rfl rfl
       case h =>
         intro E' hA K hK
         first
           | ((with_reducible refine Bny.at_qload (T := 25) ?_); refine Bny.q_ldp 1000 (o := 8) hA (by decide) rfl rfl 1 _ Try.underlying25 rfl infoM (by decide) (by show 8 + 1 ≤ 10; decide) #[.slice (some ⟨vb, 0, none⟩) 80 vc] rfl ?_; refine hK _ ?_; rfl)
           | ((with_reducible refine Bny.at_qload (T := 32) ?_); refine Bny.q_ldp 1000 (o := 0) hA (by decide) rfl rfl 8 _ Try.underlying32 rfl infoV (by decide) (by show 0 + 8 ≤ 10; decide) #[.int .i64 0, .int .i64 1, .slice fa nf fc, .int .u16 (av : Nat), .int .u16 (la : Nat), .slice ca 1 cc, .int .i64 60, .bool true] rfl ?_; refine hK _ ?_; rfl)
           | (go_big_quiet_op; first
             | (refine hK _ ?_; rfl)
             | (refine ⟨_, fun _ _ => rfl, ?_⟩; refine hK _ ?_; rfl)
             | (apply Exists.intro; refine ⟨fun w1 hw1 => ?_, ?_⟩; · (first
                 | fail)
                refine hK _ ?_; rfl))
       case hD => rfl
       simp only [Act.put, List.setIfInBounds_toArray, List.set_cons_succ, List.set_cons_zero]))
  try any_goals exact undef
  refine Bny.E_nil ?_
  intro w9 hE9
  replace hv : Mem w0 w9 ([(b, #[.int .i64 0, .int .i64 1, .slice fa nf fc, .int .u16 (av : Nat), .int .u16 (la : Nat), .slice ca 1 cc, .int .i64 60, .bool true, .slice (some ⟨vb, 0, none⟩) 80 vc, .slice none 0 0]), (b5, #[.int .i64 0, .int .i64 1, .slice fa nf fc, .int .u16 (av : Nat), .int .u16 (la : Nat), .slice ca 1 cc, .int .i64 60, .bool true]), (b4, #[.slice (some ⟨vb, 0, none⟩) 80 vc])] ++ ((b3, #[.int .i64 0, .int .i64 1, .slice fa nf fc, .int .u16 (av : Nat), .int .u16 (la : Nat), .slice ca 1 cc, .int .i64 60, .bool true]) :: (b2, #[.slice (some ⟨vb, 0, none⟩) 80 vc]) :: L)) _ := hE9.mem0 [1000, 1001, 1002] (by decide)
  clear hE9
  simp only [List.cons_append, List.nil_append] at hv
  go_wp2
  try simp only [Exit.inBlock, Exit.then]
  refine ret_cct (v := .agg #[.slice (some ⟨vb, 0, none⟩) 80 vc]) (v' := .agg #[.int .i64 0, .int .i64 1, .slice fa nf fc, .int .u16 (av : Nat), .int .u16 (la : Nat), .slice ca 1 cc, .int .i64 60, .bool true]) (v1 := .int .i64 8) rfl rfl rfl (read_row _ b4 25 _ (hv.vars.row (b := b4) (by first | exact .head _ | exact .tail _ (.head _) | exact .tail _ (.tail _ (.head _)) | exact .tail _ (.tail _ (.tail _ (.head _))) | exact .tail _ (.tail _ (.tail _ (.tail _ (.head _)))) | exact .tail _ (.tail _ (.tail _ (.tail _ (.tail _ (.head _))))) | exact .tail _ (.tail _ (.tail _ (.tail _ (.tail _ (.tail _ (.head _)))))) | exact .tail _ (.tail _ (.tail _ (.tail _ (.tail _ (.tail _ (.tail _ (.head _))))))))) 1 _ Try.underlying25 rfl infoM (by decide) rfl) (read_row _ b5 32 _ (hv.vars.row (b := b5) (by first | exact .head _ | exact .tail _ (.head _) | exact .tail _ (.tail _ (.head _)) | exact .tail _ (.tail _ (.tail _ (.head _))) | exact .tail _ (.tail _ (.tail _ (.tail _ (.head _)))) | exact .tail _ (.tail _ (.tail _ (.tail _ (.tail _ (.head _))))) | exact .tail _ (.tail _ (.tail _ (.tail _ (.tail _ (.tail _ (.head _)))))) | exact .tail _ (.tail _ (.tail _ (.tail _ (.tail _ (.tail _ (.tail _ (.head _))))))))) 8 _ Try.underlying32 rfl infoV (by decide) rfl) rfl rfl ?_
  exact ⟨rfl, hv.keep (by exact List.sublist_append_right [_, _, _, _, _] L)⟩
end Go.Proofs.Ytcelehhaggoijaa
end
