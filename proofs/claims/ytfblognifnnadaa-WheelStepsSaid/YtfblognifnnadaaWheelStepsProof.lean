/-
  The statement WheelSteps of the program: for every input the call returns true, and each argument reads as it read before. No condition of ours.
  The frame follows the kit's proof-skeleton; the walk stands in the texts that are imported.
-/
import Derived.Test.YtfblognifnnadaaRows
import Derived.Test.YtfblognifnnadaaWhSteps
import Derived.Test.YtfblognifnnadaaWhOpen
namespace Go.Proofs.Ytfblognifnnadaa.wheelSteps
open Go.ChangeShapes Go.WideShapes Go.ChangeAt Go.RowKit Go.Proofs.Ytfblognifnnadaa
set_option linter.unusedVariables false

theorem own : ownKnob Try.prog.godebug = none := by kernel_rfl
theorem laid' : laidOutB Try.prog = true := by kernel_rfl

set_option maxRecDepth 100000 in
theorem lifted (os : Os) (started : os.Started) (H : Type) (enc : TypeId × Value → H) :
    ReturnsInHanded {} Try.checked os 4 .any (Rows.wheelStepsSpec.pre6 enc Try.prog Try.f4 Rows.wheelStepsRow.domain false) (Rows.wheelStepsSpec.post enc Try.prog Try.f4 false true false false) := by
  refine returnsInHanded_of_change (C := Try.checked) own started (by kernel_rfl) Try.func4
    (ChangeSpec.witness6 (enc := enc) (C := Try.checked) false ⟨#[], #[.agg #[.int .u64 0, .slice none 0 0, .slice none 0 0, .slice none 0 0, .slice none 0 0, .slice none 0 0, .slice none 0 0, .slice none 0 0, .slice none 0 0], .slice none 0 0, .int .u64 0], []⟩ 8 (by kernel_rfl) (by kernel_rfl) (by kernel_rfl) (by kernel_rfl)) ?_
  intro W base args ds gs before hval0 hW hcnd _
  have hval : ∀ (j : Nat) t v, Try.f4.params[j]? = some t → args[j]? = some v → Value.okWide Try.prog W .any base t v := hval0
  have hW' := hW
  obtain ⟨p, q, hA0, hV, rfl, hfz, hnd⟩ := hW
  have hlt : ∀ x ∈ p, x.block < W.heap.size := fun x hx => hW'.lt x (by simp [hx])
  have hA : DataW.TrodAll enc Try.prog W 0 (fun _ => true) true Try.f4.params.toList args.toList ds p := hA0
  rw [Try.params4] at hA hval
  obtain ⟨v0, vs0, d0, ds0, p0, q0, hargs, rfl, rfl, h0, r0⟩ := trodAll_cons hA
  obtain ⟨v1, vs1, d1, ds1, p1, q1, rfl, rfl, rfl, h1, r1⟩ := trodAll_cons r0
  obtain ⟨v2, vs2, d2, ds2, p2, q2, rfl, rfl, rfl, h2, r2⟩ := trodAll_cons r1
  obtain ⟨rfl, rfl, rfl⟩ := trodAll_nil r2
  obtain rfl : args = #[v0, v1, v2] := by cases args; simp_all
  have key : ∀ W', Below W.heap.size W W' → Rows.wheelStepsSpec.post enc Try.prog Try.f4 false true false false W #[v0, v1, v2] (.bool true) W' := fun W' hb =>
    post_law hW' rfl rfl (by kernel_rfl) Try.underlying4 laid' (by kernel_rfl) hb
  obtain ⟨now, sv, S, R, rfl, _, hr, hi, hgd⟩ := open_wheel h0
  obtain ⟨a1, ln1, cp1, rfl⟩ := okWide_slice Try.underlying34 (hval 1 34 v1 rfl rfl)
  obtain ⟨fuel1, hf1⟩ := h1
  obtain ⟨u1, hu1, tl, hrt, _⟩ := open_times hf1
  obtain rfl : Value.slice a1 ln1 cp1 = u1 := by cases hu1; rfl
  obtain ⟨x, rfl, rfl, rfl, w2⟩ := open_int Try.underlying22 (hval 2 22 v2 rfl rfl) h2
  obtain ⟨en, rfl, _⟩ := Go.Proofs.Wh.u64w_of w2
  exact (WheelSteps_any now sv S _ tl en W R hr hi hgd hrt).mono fun e W' ⟨he, hg⟩ => ⟨_, he, key W' hg⟩

theorem over : Rows.wheelStepsRow.holds Try.pinned (OpenSpec.ofChange Rows.wheelStepsSpec) :=
  OpenClaim.holds_of_wide 4 Try.f4 rfl rfl rfl rfl rfl rfl rfl ⟨rfl, rfl, rfl, rfl, rfl⟩ rfl rfl rfl rfl rfl (by kernel_rfl) Try.func4 (by kernel_rfl)
    (of_decide_eq_true (by kernel_rfl)) (by unfold Func.isWrapper; first | (rw [if_pos (by decide +kernel)]; kernel_rfl) | (rw [if_neg (by decide +kernel)]; exact ⟨rfl, rfl⟩))
    (fun os started H enc _ => lifted os started H enc)

/-- The statement. -/
theorem proved : Rows.WheelStepsSaid := over
#print axioms proved
end Go.Proofs.Ytfblognifnnadaa.wheelSteps
