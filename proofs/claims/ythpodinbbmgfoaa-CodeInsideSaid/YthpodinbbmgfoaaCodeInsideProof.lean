/-
  The statement CodeInside of the program: for every input the call returns true, and each argument reads as it read before. No condition of ours.
  The frame follows the kit's proof-skeleton; the walk stands in the texts that are imported.
-/
import Derived.Test.YthpodinbbmgfoaaRows
import Derived.Test.YthpodinbbmgfoaaCdOpen
import Derived.Test.YthpodinbbmgfoaaCdInside
namespace Go.Proofs.Ythpodinbbmgfoaa.codeInside
open Go.ChangeShapes Go.WideShapes Go.ChangeAt Go.RowKit Go.Proofs.Ythpodinbbmgfoaa
set_option linter.unusedVariables false

theorem own : ownKnob Try.prog.godebug = none := by kernel_rfl
theorem laid' : laidOutB Try.prog = true := by kernel_rfl

set_option maxRecDepth 100000 in
theorem lifted (os : Os) (started : os.Started) (H : Type) (enc : TypeId × Value → H) :
    ReturnsInHanded {} Try.checked os 13 .any (Rows.codeInsideSpec.pre6 enc Try.prog Try.f13 Rows.codeInsideRow.domain false) (Rows.codeInsideSpec.post enc Try.prog Try.f13 false true false false) := by
  refine returnsInHanded_of_change (C := Try.checked) own started (by kernel_rfl) Try.func13
    (ChangeSpec.witness6 (enc := enc) (C := Try.checked) false ⟨#[], #[.slice none 0 0], []⟩ 8 (by kernel_rfl) (by kernel_rfl) (by kernel_rfl) (by kernel_rfl)) ?_
  intro W base args ds gs before hval0 hW hcnd _
  have hval : ∀ (j : Nat) t v, Try.f13.params[j]? = some t → args[j]? = some v → Value.okWide Try.prog W .any base t v := hval0
  have hW' := hW
  obtain ⟨p, q, hA0, hV, rfl, hfz, hnd⟩ := hW
  have hlt : ∀ x ∈ p, x.block < W.heap.size := fun x hx => hW'.lt x (by simp [hx])
  have hA : DataW.TrodAll enc Try.prog W 0 (fun _ => true) true Try.f13.params.toList args.toList ds p := hA0
  rw [Try.params13] at hA hval
  obtain ⟨v0, vs0, d0, ds0, p0, q0, hargs, rfl, rfl, h0, r0⟩ := trodAll_cons hA
  obtain ⟨rfl, rfl, rfl⟩ := trodAll_nil r0
  obtain rfl : args = #[v0] := by cases args; simp_all
  have key : ∀ W', Below W.heap.size W W' → Rows.codeInsideSpec.post enc Try.prog Try.f13 false true false false W #[v0] (.bool true) W' := fun W' hb =>
    post_law hW' rfl rfl (by kernel_rfl) Try.underlying4 laid' (by kernel_rfl) hb
  obtain ⟨a0, ln, cp, rfl⟩ := okWide_slice Try.underlying57 (hval 0 57 v0 rfl rfl)
  obtain ⟨fuel, hf⟩ := h0
  obtain ⟨u0, hu, l, hrd, hg⟩ := open_prog hf
  obtain rfl : Value.slice a0 ln cp = u0 := by cases hu; rfl
  exact (CodeInside_any _ l W hrd hg).mono fun e W' ⟨he, hg⟩ => ⟨_, he, key W' hg⟩

theorem over : Rows.codeInsideRow.holds Try.pinned (OpenSpec.ofChange Rows.codeInsideSpec) :=
  OpenClaim.holds_of_wide 13 Try.f13 rfl rfl rfl rfl rfl rfl rfl ⟨rfl, rfl, rfl, rfl, rfl⟩ rfl rfl rfl rfl rfl (by kernel_rfl) Try.func13 (by kernel_rfl)
    (of_decide_eq_true (by kernel_rfl)) (by unfold Func.isWrapper; first | (rw [if_pos (by decide +kernel)]; kernel_rfl) | (rw [if_neg (by decide +kernel)]; exact ⟨rfl, rfl⟩))
    (fun os started H enc _ => lifted os started H enc)

/-- The statement. -/
theorem proved : Rows.CodeInsideSaid := over
#print axioms proved
end Go.Proofs.Ythpodinbbmgfoaa.codeInside
