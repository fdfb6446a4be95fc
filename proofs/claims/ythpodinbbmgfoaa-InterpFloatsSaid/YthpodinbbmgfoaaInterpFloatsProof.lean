/-
  The statement InterpFloats of the program: for every input the call returns true, and each argument reads as it read before. No condition of ours.
  The frame follows the kit's proof-skeleton; the walk stands in the texts that are imported.
-/
import Derived.Test.YthpodinbbmgfoaaRows
import Derived.Test.YthpodinbbmgfoaaIpFloats
import Derived.Test.YthpodinbbmgfoaaLaw
namespace Go.Proofs.Ythpodinbbmgfoaa.interpFloats
open Go.ChangeShapes Go.WideShapes Go.ChangeAt Go.RowKit Go.Proofs.Ythpodinbbmgfoaa
set_option linter.unusedVariables false

theorem own : ownKnob Try.prog.godebug = none := by kernel_rfl
theorem laid' : laidOutB Try.prog = true := by kernel_rfl

set_option maxRecDepth 100000 in
theorem lifted (os : Os) (started : os.Started) (H : Type) (enc : TypeId × Value → H) :
    ReturnsInHanded {} Try.checked os 14 .any (Rows.interpFloatsSpec.pre6 enc Try.prog Try.f14 Rows.interpFloatsRow.domain false) (Rows.interpFloatsSpec.post enc Try.prog Try.f14 false true false false) := by
  refine returnsInHanded_of_change (C := Try.checked) own started (by kernel_rfl) Try.func14
    (ChangeSpec.witness6 (enc := enc) (C := Try.checked) false ⟨#[], #[.int .u64 0, .int .u64 0], []⟩ 8 (by kernel_rfl) (by kernel_rfl) (by kernel_rfl) (by kernel_rfl)) ?_
  intro W base args ds gs before hval0 hW hcnd _
  have hval : ∀ (j : Nat) t v, Try.f14.params[j]? = some t → args[j]? = some v → Value.okWide Try.prog W .any base t v := hval0
  have hW' := hW
  obtain ⟨p, q, hA0, hV, rfl, hfz, hnd⟩ := hW
  have hlt : ∀ x ∈ p, x.block < W.heap.size := fun x hx => hW'.lt x (by simp [hx])
  have hA : DataW.TrodAll enc Try.prog W 0 (fun _ => true) true Try.f14.params.toList args.toList ds p := hA0
  rw [Try.params14] at hA hval
  obtain ⟨v0, vs0, d0, ds0, p0, q0, hargs, rfl, rfl, h0, r0⟩ := trodAll_cons hA
  obtain ⟨v1, vs1, d1, ds1, p1, q1, rfl, rfl, rfl, h1, r1⟩ := trodAll_cons r0
  obtain ⟨rfl, rfl, rfl⟩ := trodAll_nil r1
  obtain rfl : args = #[v0, v1] := by cases args; simp_all
  have key : ∀ W', Below W.heap.size W W' → Rows.interpFloatsSpec.post enc Try.prog Try.f14 false true false false W #[v0, v1] (.bool true) W' := fun W' hb =>
    post_law hW' rfl rfl (by kernel_rfl) Try.underlying4 laid' (by kernel_rfl) hb
  obtain ⟨x, rfl, rfl, rfl, w1⟩ := open_int Try.underlying22 (hval 0 22 v0 rfl rfl) h0
  obtain ⟨y, rfl, rfl, rfl, w2⟩ := open_int Try.underlying22 (hval 1 22 v1 rfl rfl) h1
  obtain ⟨x, rfl, hx⟩ := u64_nat w1
  obtain ⟨y, rfl, hy⟩ := u64_nat w2
  exact (InterpFloats_any x y hx hy W).mono fun e W' ⟨he, hg⟩ => ⟨_, he, key W' hg⟩

theorem over : Rows.interpFloatsRow.holds Try.pinned (OpenSpec.ofChange Rows.interpFloatsSpec) :=
  OpenClaim.holds_of_wide 14 Try.f14 rfl rfl rfl rfl rfl rfl rfl ⟨rfl, rfl, rfl, rfl, rfl⟩ rfl rfl rfl rfl rfl (by kernel_rfl) Try.func14 (by kernel_rfl)
    (of_decide_eq_true (by kernel_rfl)) (by unfold Func.isWrapper; first | (rw [if_pos (by decide +kernel)]; kernel_rfl) | (rw [if_neg (by decide +kernel)]; exact ⟨rfl, rfl⟩))
    (fun os started H enc _ => lifted os started H enc)

/-- The statement. -/
theorem proved : Rows.InterpFloatsSaid := over
#print axioms proved
end Go.Proofs.Ythpodinbbmgfoaa.interpFloats
