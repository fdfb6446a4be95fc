/-
 The statement VblkFour of the program: for every input the call returns true, and each argument reads as it read before. No condition of ours.
 The frame follows the kit's proof-skeleton; the walk stands in the texts that are imported.
-/
import Derived.Test.YtjmibgomkgkhnaaGreatRows
import Derived.Test.YtjmibgomkgkhnaaGreatVbJ
import Derived.Test.YtjmibgomkgkhnaaGreatQuOpen
import Derived.Test.YtjmibgomkgkhnaaGreatVrOpen
namespace Go.Proofs.YtjmibgomkgkhnaaGreat.vblkFour
open Go.ChangeShapes Go.WideShapes Go.ChangeAt Go.RowKit Go.Proofs.YtjmibgomkgkhnaaGreat
set_option linter.unusedVariables false

theorem own : ownKnob Tryz.prog.godebug = none := by kernel_rfl
theorem laid' : laidOutB Tryz.prog = true := by kernel_rfl

set_option maxRecDepth 100000 in
theorem lifted (os : Os) (started : os.Started) (H : Type) (enc : TypeId × Value → H) :
   ReturnsInHanded {} Tryz.checked os 5 .any (Rows.vblkFourSpec.pre6 enc Tryz.prog Tryz.f5 Rows.vblkFourRow.domain false) (Rows.vblkFourSpec.post enc Tryz.prog Tryz.f5 false true false false) := by
 refine returnsInHanded_of_change (C := Tryz.checked) own started (by kernel_rfl) Tryz.func5
   (ChangeSpec.witness6 (enc := enc) (C := Tryz.checked) false ⟨#[], #[.slice none 0 0, .int .i64 0], []⟩ 8 (by kernel_rfl) (by kernel_rfl) (by kernel_rfl) (by kernel_rfl)) ?_
 intro W base args ds gs before hval0 hW hcnd _
 have hval : ∀ (j : Nat) t v, Tryz.f5.params[j]? = some t → args[j]? = some v → Value.okWide Tryz.prog W .any base t v := hval0
 have hW' := hW
 obtain ⟨p, q, hA0, hV, rfl, hfz, hnd⟩ := hW
 have hlt : ∀ x ∈ p, x.block < W.heap.size := fun x hx => hW'.lt x (by simp [hx])
 have hA : DataW.TrodAll enc Tryz.prog W 0 (fun _ => true) true Tryz.f5.params.toList args.toList ds p := hA0
 rw [Tryz.params5] at hA hval
 obtain ⟨v0, vs0, d0, ds0, p0, q0, hargs, rfl, rfl, h0, r0⟩ := trodAll_cons hA
 obtain ⟨v1, vs1, d1, ds1, p1, q1, rfl, rfl, rfl, h1, r1⟩ := trodAll_cons r0
 obtain ⟨rfl, rfl, rfl⟩ := trodAll_nil r1
 obtain rfl : args = #[v0, v1] := by cases args; simp_all
 have key : ∀ W', Below W.heap.size W W' → Rows.vblkFourSpec.post enc Tryz.prog Tryz.f5 false true false false W #[v0, v1] (.bool true) W' := fun W' hb =>
   post_law hW' rfl rfl (by kernel_rfl) Tryz.underlying4 laid' (by kernel_rfl) hb
 obtain ⟨a0, ln0, cp0, rfl⟩ := okWide_slice Tryz.underlying24 (hval 0 24 v0 rfl rfl)
 obtain ⟨fuel0, hf0⟩ := h0
 obtain ⟨u0, hu0, bs, hr0, hg0⟩ := open_bytesV hf0
 obtain rfl : Value.slice a0 ln0 cp0 = u0 := by cases hu0; rfl
 obtain ⟨st, rfl, rfl, rfl, w1⟩ := open_int Tryz.underlying3 (hval 1 3 v1 rfl rfl) h1
 exact (VblkFour_any _ _ _ bs st W _ ((Mem.nil W).old hr0) Mem.z hg0).mono fun e W' ⟨he, hg⟩ => ⟨_, he, key W' hg⟩

theorem over : Rows.vblkFourRow.holds Tryz.pinned (OpenSpec.ofChange Rows.vblkFourSpec) :=
 OpenClaim.holds_of_wide 5 Tryz.f5 rfl rfl rfl rfl rfl rfl rfl ⟨rfl, rfl, rfl, rfl, rfl⟩ rfl rfl rfl rfl rfl (by kernel_rfl) Tryz.func5 (by kernel_rfl)
   (of_decide_eq_true (by kernel_rfl)) (by unfold Func.isWrapper; first | (rw [if_pos (by decide +kernel)]; kernel_rfl) | (rw [if_neg (by decide +kernel)]; exact ⟨rfl, rfl⟩))
   (fun os started H enc _ => lifted os started H enc)

theorem proved : Rows.VblkFourSaid := over
#print axioms proved
end Go.Proofs.YtjmibgomkgkhnaaGreat.vblkFour
