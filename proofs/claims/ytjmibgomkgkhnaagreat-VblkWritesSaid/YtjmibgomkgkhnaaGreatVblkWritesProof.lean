/-
 The statement VblkWrites of the program: for every input the call returns true, and each argument reads as it read before. No condition of ours.
 The frame follows the kit's proof-skeleton; the walk stands in the texts that are imported.
-/
import Derived.Test.YtjmibgomkgkhnaaGreatRows
import Derived.Test.YtjmibgomkgkhnaaGreatVbH
import Derived.Test.YtjmibgomkgkhnaaGreatQuOpen
import Derived.Test.YtjmibgomkgkhnaaGreatVrOpen
namespace Go.Proofs.YtjmibgomkgkhnaaGreat.vblkWrites
open Go.ChangeShapes Go.WideShapes Go.ChangeAt Go.RowKit Go.Proofs.YtjmibgomkgkhnaaGreat
set_option linter.unusedVariables false

theorem own : ownKnob Tryz.prog.godebug = none := by kernel_rfl
theorem laid' : laidOutB Tryz.prog = true := by kernel_rfl

set_option maxRecDepth 100000 in
theorem lifted (os : Os) (started : os.Started) (H : Type) (enc : TypeId × Value → H) :
   ReturnsInHanded {} Tryz.checked os 6 .any (Rows.vblkWritesSpec.pre6 enc Tryz.prog Tryz.f6 Rows.vblkWritesRow.domain false) (Rows.vblkWritesSpec.post enc Tryz.prog Tryz.f6 false true false false) := by
 refine returnsInHanded_of_change (C := Tryz.checked) own started (by kernel_rfl) Tryz.func6
   (ChangeSpec.witness6 (enc := enc) (C := Tryz.checked) false ⟨#[], #[.slice none 0 0, .slice none 0 0, .slice none 0 0], []⟩ 8 (by kernel_rfl) (by kernel_rfl) (by kernel_rfl) (by kernel_rfl)) ?_
 intro W base args ds gs before hval0 hW hcnd _
 have hval : ∀ (j : Nat) t v, Tryz.f6.params[j]? = some t → args[j]? = some v → Value.okWide Tryz.prog W .any base t v := hval0
 have hW' := hW
 obtain ⟨p, q, hA0, hV, rfl, hfz, hnd⟩ := hW
 have hlt : ∀ x ∈ p, x.block < W.heap.size := fun x hx => hW'.lt x (by simp [hx])
 have hA : DataW.TrodAll enc Tryz.prog W 0 (fun _ => true) true Tryz.f6.params.toList args.toList ds p := hA0
 rw [Tryz.params6] at hA hval
 obtain ⟨v0, vs0, d0, ds0, p0, q0, hargs, rfl, rfl, h0, r0⟩ := trodAll_cons hA
 obtain ⟨v1, vs1, d1, ds1, p1, q1, rfl, rfl, rfl, h1, r1⟩ := trodAll_cons r0
 obtain ⟨v2, vs2, d2, ds2, p2, q2, rfl, rfl, rfl, h2, r2⟩ := trodAll_cons r1
 obtain ⟨rfl, rfl, rfl⟩ := trodAll_nil r2
 obtain rfl : args = #[v0, v1, v2] := by cases args; simp_all
 have key : ∀ W', Below W.heap.size W W' → Rows.vblkWritesSpec.post enc Tryz.prog Tryz.f6 false true false false W #[v0, v1, v2] (.bool true) W' := fun W' hb =>
   post_law hW' rfl rfl (by kernel_rfl) Tryz.underlying4 laid' (by kernel_rfl) hb
 obtain ⟨a0, ln0, cp0, rfl⟩ := okWide_slice Tryz.underlying22 (hval 0 22 v0 rfl rfl)
 obtain ⟨fuel0, hf0⟩ := h0
 obtain ⟨u0, hu0, l0, hr0, _⟩ := open_intsQ hf0
 obtain rfl : Value.slice a0 ln0 cp0 = u0 := by cases hu0; rfl
 obtain ⟨a1, ln1, cp1, rfl⟩ := okWide_slice Tryz.underlying24 (hval 1 24 v1 rfl rfl)
 obtain ⟨fuel1, hf1⟩ := h1
 obtain ⟨u1, hu1, bs, hr1, hg1⟩ := open_bytesV hf1
 obtain rfl : Value.slice a1 ln1 cp1 = u1 := by cases hu1; rfl
 obtain ⟨a2, ln2, cp2, rfl⟩ := okWide_slice Tryz.underlying22 (hval 2 22 v2 rfl rfl)
 obtain ⟨fuel2, hf2⟩ := h2
 obtain ⟨u2, hu2, l2, hr2, _⟩ := open_intsQ hf2
 obtain rfl : Value.slice a2 ln2 cp2 = u2 := by cases hu2; rfl
 exact (VblkWrites_any _ _ _ l0 _ _ _ bs _ _ _ l2 W _ ((((Mem.nil W).old hr2).old hr1).old hr0) Mem.z (Mem.s Mem.z) hg1 (Mem.s (Mem.s Mem.z))).mono fun e W' ⟨he, hg⟩ => ⟨_, he, key W' hg⟩

theorem over : Rows.vblkWritesRow.holds Tryz.pinned (OpenSpec.ofChange Rows.vblkWritesSpec) :=
 OpenClaim.holds_of_wide 6 Tryz.f6 rfl rfl rfl rfl rfl rfl rfl ⟨rfl, rfl, rfl, rfl, rfl⟩ rfl rfl rfl rfl rfl (by kernel_rfl) Tryz.func6 (by kernel_rfl)
   (of_decide_eq_true (by kernel_rfl)) (by unfold Func.isWrapper; first | (rw [if_pos (by decide +kernel)]; kernel_rfl) | (rw [if_neg (by decide +kernel)]; exact ⟨rfl, rfl⟩))
   (fun os started H enc _ => lifted os started H enc)

theorem proved : Rows.VblkWritesSaid := over
#print axioms proved
end Go.Proofs.YtjmibgomkgkhnaaGreat.vblkWrites
