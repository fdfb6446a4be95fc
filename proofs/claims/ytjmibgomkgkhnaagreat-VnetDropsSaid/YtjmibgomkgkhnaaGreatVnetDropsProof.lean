/-
 The statement VnetDrops of the program: for every input the call returns true, and each argument reads as it read before. No condition of ours.
 The frame follows the kit's proof-skeleton; the walk stands in the texts that are imported.
-/
import Derived.Test.YtjmibgomkgkhnaaGreatRows
import Derived.Test.YtjmibgomkgkhnaaGreatVnHD
import Derived.Test.YtjmibgomkgkhnaaGreatQuOpen
namespace Go.Proofs.YtjmibgomkgkhnaaGreat.vnetDrops
open Go.ChangeShapes Go.WideShapes Go.ChangeAt Go.RowKit Go.Proofs.YtjmibgomkgkhnaaGreat
set_option linter.unusedVariables false

theorem own : ownKnob Tryz.prog.godebug = none := by kernel_rfl
theorem laid' : laidOutB Tryz.prog = true := by kernel_rfl

set_option maxRecDepth 100000 in
theorem lifted (os : Os) (started : os.Started) (H : Type) (enc : TypeId × Value → H) :
   ReturnsInHanded {} Tryz.checked os 3 .any (Rows.vnetDropsSpec.pre6 enc Tryz.prog Tryz.f3 Rows.vnetDropsRow.domain false) (Rows.vnetDropsSpec.post enc Tryz.prog Tryz.f3 false true false false) := by
 refine returnsInHanded_of_change (C := Tryz.checked) own started (by kernel_rfl) Tryz.func3
   (ChangeSpec.witness6 (enc := enc) (C := Tryz.checked) false ⟨#[], #[.slice none 0 0], []⟩ 8 (by kernel_rfl) (by kernel_rfl) (by kernel_rfl) (by kernel_rfl)) ?_
 intro W base args ds gs before hval0 hW hcnd _
 have hval : ∀ (j : Nat) t v, Tryz.f3.params[j]? = some t → args[j]? = some v → Value.okWide Tryz.prog W .any base t v := hval0
 have hW' := hW
 obtain ⟨p, q, hA0, hV, rfl, hfz, hnd⟩ := hW
 have hlt : ∀ x ∈ p, x.block < W.heap.size := fun x hx => hW'.lt x (by simp [hx])
 have hA : DataW.TrodAll enc Tryz.prog W 0 (fun _ => true) true Tryz.f3.params.toList args.toList ds p := hA0
 rw [Tryz.params3] at hA hval
 obtain ⟨v0, vs0, d0, ds0, p0, q0, hargs, rfl, rfl, h0, r0⟩ := trodAll_cons hA
 obtain ⟨rfl, rfl, rfl⟩ := trodAll_nil r0
 obtain rfl : args = #[v0] := by cases args; simp_all
 have key : ∀ W', Below W.heap.size W W' → Rows.vnetDropsSpec.post enc Tryz.prog Tryz.f3 false true false false W #[v0] (.bool true) W' := fun W' hb =>
   post_law hW' rfl rfl (by kernel_rfl) Tryz.underlying4 laid' (by kernel_rfl) hb
 obtain ⟨a0, ln0, cp0, rfl⟩ := okWide_slice Tryz.underlying22 (hval 0 22 v0 rfl rfl)
 obtain ⟨fuel0, hf0⟩ := h0
 obtain ⟨u0, hu0, ol, hro, _⟩ := open_intsQ hf0
 obtain rfl : Value.slice a0 ln0 cp0 = u0 := by cases hu0; rfl
 exact (VnetDrops_any _ _ _ ol W _ ((Mem.nil W).old hro) Mem.z).mono fun e W' ⟨he, hg⟩ => ⟨_, he, key W' hg⟩

theorem over : Rows.vnetDropsRow.holds Tryz.pinned (OpenSpec.ofChange Rows.vnetDropsSpec) :=
 OpenClaim.holds_of_wide 3 Tryz.f3 rfl rfl rfl rfl rfl rfl rfl ⟨rfl, rfl, rfl, rfl, rfl⟩ rfl rfl rfl rfl rfl (by kernel_rfl) Tryz.func3 (by kernel_rfl)
   (of_decide_eq_true (by kernel_rfl)) (by unfold Func.isWrapper; first | (rw [if_pos (by decide +kernel)]; kernel_rfl) | (rw [if_neg (by decide +kernel)]; exact ⟨rfl, rfl⟩))
   (fun os started H enc _ => lifted os started H enc)

theorem proved : Rows.VnetDropsSaid := over
#print axioms proved
end Go.Proofs.YtjmibgomkgkhnaaGreat.vnetDrops
