/-
  The statement InterpInside of the program: for every input the call returns true, and each argument reads as it read before. No condition of ours.
  The frame follows the kit's proof-skeleton; the walk stands in the texts that are imported.
-/
import Derived.Test.YthpodinbbmgfoaaRows
import Derived.Test.YthpodinbbmgfoaaIpInside
import Derived.Test.YthpodinbbmgfoaaIpOpen
namespace Go.Proofs.Ythpodinbbmgfoaa.interpInside
open Go.ChangeShapes Go.WideShapes Go.ChangeAt Go.RowKit Go.Proofs.Ythpodinbbmgfoaa
set_option linter.unusedVariables false

theorem own : ownKnob Try.prog.godebug = none := by kernel_rfl
theorem laid' : laidOutB Try.prog = true := by kernel_rfl

set_option maxRecDepth 100000 in
theorem lifted (os : Os) (started : os.Started) (H : Type) (enc : TypeId × Value → H) :
    ReturnsInHanded {} Try.checked os 16 .any (Rows.interpInsideSpec.pre6 enc Try.prog Try.f16 Rows.interpInsideRow.domain false) (Rows.interpInsideSpec.post enc Try.prog Try.f16 false true false false) := by
  refine returnsInHanded_of_change (C := Try.checked) own started (by kernel_rfl) Try.func16
    (ChangeSpec.witness6 (enc := enc) (C := Try.checked) false ⟨#[], #[.slice none 0 0, .agg #[.int .i64 0, .int .i64 0, .slice none 0 0, .slice none 0 0, .int .u64 0, .int .i64 0, .int .i64 0], .agg Try.zeroCells36], []⟩ 8 (by kernel_rfl) (by kernel_rfl) (by kernel_rfl) (by kernel_rfl)) ?_
  intro W base args ds gs before hval0 hW hcnd _
  have hval : ∀ (j : Nat) t v, Try.f16.params[j]? = some t → args[j]? = some v → Value.okWide Try.prog W .any base t v := hval0
  have hW' := hW
  obtain ⟨p, q, hA0, hV, rfl, hfz, hnd⟩ := hW
  have hlt : ∀ x ∈ p, x.block < W.heap.size := fun x hx => hW'.lt x (by simp [hx])
  have hA : DataW.TrodAll enc Try.prog W 0 (fun _ => true) true Try.f16.params.toList args.toList ds p := hA0
  rw [Try.params16] at hA hval
  obtain ⟨v0, vs0, d0, ds0, p0, q0, hargs, rfl, rfl, h0, r0⟩ := trodAll_cons hA
  obtain ⟨v1, vs1, d1, ds1, p1, q1, rfl, rfl, rfl, h1, r1⟩ := trodAll_cons r0
  obtain ⟨v2, vs2, d2, ds2, p2, q2, rfl, rfl, rfl, h2, r2⟩ := trodAll_cons r1
  obtain ⟨rfl, rfl, rfl⟩ := trodAll_nil r2
  obtain rfl : args = #[v0, v1, v2] := by cases args; simp_all
  have key : ∀ W', Below W.heap.size W W' → Rows.interpInsideSpec.post enc Try.prog Try.f16 false true false false W #[v0, v1, v2] (.bool true) W' := fun W' hb =>
    post_law hW' rfl rfl (by kernel_rfl) Try.underlying4 laid' (by kernel_rfl) hb
  obtain ⟨a0, ln, cp, rfl⟩ := okWide_slice Try.underlying57 (hval 0 57 v0 rfl rfl)
  obtain ⟨fuel, hf⟩ := h0
  obtain ⟨u0, hu, l, hrd, hg⟩ := open_prog1 hf
  obtain rfl : Value.slice a0 ln cp = u0 := by cases hu; rfl
  obtain ⟨st, pc, sk, er, wk, sv, cv, S, C, rfl, hs, hc, hS⟩ := open_thread h1
  obtain ⟨b, q, rfl, hq⟩ := open_pg1 h2
  exact (InterpInside_any _ sv cv st pc sk er wk S C l b q W hrd hg hs hc hS hq).mono fun e W' ⟨he, hg⟩ => ⟨_, he, key W' hg⟩

theorem over : Rows.interpInsideRow.holds Try.pinned (OpenSpec.ofChange Rows.interpInsideSpec) :=
  OpenClaim.holds_of_wide 16 Try.f16 rfl rfl rfl rfl rfl rfl rfl ⟨rfl, rfl, rfl, rfl, rfl⟩ rfl rfl rfl rfl rfl (by kernel_rfl) Try.func16 (by kernel_rfl)
    (of_decide_eq_true (by kernel_rfl)) (by unfold Func.isWrapper; first | (rw [if_pos (by decide +kernel)]; kernel_rfl) | (rw [if_neg (by decide +kernel)]; exact ⟨rfl, rfl⟩))
    (fun os started H enc _ => lifted os started H enc)

/-- The statement. -/
theorem proved : Rows.InterpInsideSaid := over
#print axioms proved
end Go.Proofs.Ythpodinbbmgfoaa.interpInside
