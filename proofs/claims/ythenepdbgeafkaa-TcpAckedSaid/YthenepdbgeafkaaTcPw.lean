/-
 Two connections that are established (the tcp laws' pair).
-/
import Derived.Test.YthenepdbgeafkaaGAK
import Derived.Test.YthenepdbgeafkaaGAT
import Derived.Test.YthenepdbgeafkaaGAC
set_option maxRecDepth 100000
set_option maxHeartbeats 8000000
set_option linter.unusedVariables false
set_option linter.unusedSimpArgs false
namespace Go.Proofs.Ythenepdbgeafkaa
open Go.Proofs.Wi Go.RowKit Go.Proofs Go.Proofs.Tp
theorem infoP44 : (Try.prog.info? 35).map (·.size) = some 44 := by kernel_rfl
theorem built_in (x : Int) : Try.prog.built 27 [(0, .int .u32 x)] = some #[.int .u32 x, .slice none 0 0, .slice none 0 0] := by kernel_rfl
theorem built_tc (lo po c e f y : Int) : Try.prog.built 31 [(0, .int .i64 3), (1, .int .i64 lo), (3, .int .i64 po), (4, .int .u32 c), (5, .int .u32 e), (6, .int .u32 f), (8, .int .i64 256), (14, .int .i64 4), (11, .agg #[.int .u32 y, .slice none 0 0, .slice none 0 0])] = some #[.int .i64 3, .int .i64 lo, .int .u32 0, .int .i64 po, .int .u32 c, .int .u32 e, .int .u32 f, .slice none 0 0, .int .i64 256, .bool false, .bool false, .int .u32 y, .slice none 0 0, .slice none 0 0, .bool false, .int .u64 0, .int .i64 4, .int .i64 0, .int .i64 0] := by kernel_rfl
theorem pair_any (w : World) {iss irs : Nat} (hi : iss < 4294967296) (hr : irs < 4294967296) : Calls Try.prog 10 #[.int .u32 iss, .int .u32 irs] w fun e w' => e = .returned (.agg (rowP (rowT (pT iss irs 7 80) (.slice none 0 0) (.slice none 0 0) (.slice none 0 0)) (.slice none 0 0) 0 (.slice none 0 0) (rowT (pT irs iss 80 7) (.slice none 0 0) (.slice none 0 0) (.slice none 0 0)) (.slice none 0 0) 0 (.slice none 0 0))) ∧ New w w' := by
 have hv := Mem.nil w
 obtain ⟨x, hx⟩ : ∃ x, Tp.u32 (iss + 1) = x := ⟨_, rfl⟩
 obtain ⟨y, hy⟩ : ∃ x, Tp.u32 (irs + 1) = x := ⟨_, rfl⟩
 have q1 : IntKind.u32.wrap ((iss : Int) + 1) = (x : Int) := by rw [← hx]; unfold Tp.u32; simp [IntKind.wrap, IntKind.bits, IntKind.signed]
 have q2 : IntKind.u32.wrap ((irs : Int) + 1) = (y : Int) := by rw [← hy]; unfold Tp.u32; simp [IntKind.wrap, IntKind.bits, IntKind.signed]
 have e : rowP (rowT (pT iss irs 7 80) (.slice none 0 0) (.slice none 0 0) (.slice none 0 0)) (.slice none 0 0) 0 (.slice none 0 0) (rowT (pT irs iss 80 7) (.slice none 0 0) (.slice none 0 0) (.slice none 0 0)) (.slice none 0 0) 0 (.slice none 0 0) = #[.int .i64 3, .int .i64 7, .int .u32 0, .int .i64 80, .int .u32 iss, .int .u32 x, .int .u32 x, .slice none 0 0, .int .i64 256, .bool false, .bool false, .int .u32 y, .slice none 0 0, .slice none 0 0, .bool false, .int .u64 0, .int .i64 4, .int .i64 0, .int .i64 0, .slice none 0 0, .int .i64 0, .slice none 0 0, .int .i64 3, .int .i64 80, .int .u32 0, .int .i64 7, .int .u32 irs, .int .u32 y, .int .u32 y, .slice none 0 0, .int .i64 256, .bool false, .bool false, .int .u32 x, .slice none 0 0, .slice none 0 0, .bool false, .int .u64 0, .int .i64 4, .int .i64 0, .int .i64 0, .slice none 0 0, .int .i64 0, .slice none 0 0] := by
   unfold pT rowP rowT
   rw [hx, hy]
   simp
 rw [e]
 clear e hx hy hi hr
 go_enter Try.func10, Try.ntmps10
 go_wp2_with (first
   | ((with_reducible refine gAl 35 4 ?_); refine nwB hv #[.int .i64 0, .int .i64 0, .int .u32 0, .int .i64 0, .int .u32 0, .int .u32 0, .int .u32 0, .slice none 0 0, .int .i64 0, .bool false, .bool false, .int .u32 0, .slice none 0 0, .slice none 0 0, .bool false, .int .u64 0, .int .i64 0, .int .i64 0, .int .i64 0, .slice none 0 0, .int .i64 0, .slice none 0 0, .int .i64 0, .int .i64 0, .int .u32 0, .int .i64 0, .int .u32 0, .int .u32 0, .int .u32 0, .slice none 0 0, .int .i64 0, .bool false, .bool false, .int .u32 0, .slice none 0 0, .slice none 0 0, .bool false, .int .u64 0, .int .i64 0, .int .i64 0, .int .i64 0, .slice none 0 0, .int .i64 0, .slice none 0 0] 35 ?_; clear hv; intro b_4 w2 hv)
   | ((with_reducible refine gAl 31 5 ?_); refine nwB hv #[.int .i64 0, .int .i64 0, .int .u32 0, .int .i64 0, .int .u32 0, .int .u32 0, .int .u32 0, .slice none 0 0, .int .i64 0, .bool false, .bool false, .int .u32 0, .slice none 0 0, .slice none 0 0, .bool false, .int .u64 0, .int .i64 0, .int .i64 0, .int .i64 0] 31 ?_; clear hv; intro b_5 w2 hv)
   | ((with_reducible refine gAl 31 6 ?_); refine nwB hv #[.int .i64 0, .int .i64 0, .int .u32 0, .int .i64 0, .int .u32 0, .int .u32 0, .int .u32 0, .slice none 0 0, .int .i64 0, .bool false, .bool false, .int .u32 0, .slice none 0 0, .slice none 0 0, .bool false, .int .u64 0, .int .i64 0, .int .i64 0, .int .i64 0] 31 ?_; clear hv; intro b_6 w2 hv)
   | ((with_reducible refine at_build (T := 27) ?_); refine wl_build rfl _ rfl (built_in _) ?_)
   | ((with_reducible refine at_build (T := 31) ?_); refine wl_build rfl _ rfl (built_tc _ _ _ _ _ _) ?_)
   | ((with_reducible refine gSt 31 ?_); refine stV hv b_5 19 infoT19 ?_; clear hv; intro w2 hv)
   | ((with_reducible refine gSt 31 ?_); refine stV hv b_6 19 infoT19 ?_; clear hv; intro w2 hv)
   | ((with_reducible refine gLd 31 ?_); refine ldV hv b_5 19 Try.underlying31 infoT19 ?_)
   | ((with_reducible refine gLd 31 ?_); refine ldV hv b_6 19 Try.underlying31 infoT19 ?_)
   | ((with_reducible refine gSt 35 ?_); refine stV hv b_4 44 infoP44 ?_; clear hv; intro w2 hv))
 refine ret_cell1 rfl rfl (read_row _ b_4 35 _ (hv.vars.ro (b := b_4)) 44 _ Try.underlying35 rfl infoP44 (by decide) rfl) rfl ?_
 exact ⟨rfl, hv.below⟩
end Go.Proofs.Ythenepdbgeafkaa
