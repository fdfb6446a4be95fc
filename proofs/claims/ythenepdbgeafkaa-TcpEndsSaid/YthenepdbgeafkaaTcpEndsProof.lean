/-
 The statement TcpEnds of the program: for every input the call returns true, and each argument reads as it read before. No condition of ours.
 The frame follows the kit's proof-skeleton; the walk stands in the texts that are imported.
-/
import Derived.Test.YthenepdbgeafkaaRows
import Derived.Test.YthenepdbgeafkaaTcEn
namespace Go.Proofs.Ythenepdbgeafkaa.tcpEnds
open Go.ChangeShapes Go.WideShapes Go.ChangeAt Go.RowKit Go.Proofs.Ythenepdbgeafkaa
set_option linter.unusedVariables false

theorem own : ownKnob Try.prog.godebug = none := by kernel_rfl
theorem laid' : laidOutB Try.prog = true := by kernel_rfl

set_option maxRecDepth 100000 in
theorem lifted (os : Os) (started : os.Started) (H : Type) (enc : TypeId × Value → H) :
   ReturnsInHanded {} Try.checked os 3 .any (Rows.tcpEndsSpec.pre6 enc Try.prog Try.f3 Rows.tcpEndsRow.domain false) (Rows.tcpEndsSpec.post enc Try.prog Try.f3 false true false false) := by
 refine returnsInHanded_of_change (C := Try.checked) own started (by kernel_rfl) Try.func3
   (ChangeSpec.witness6 (enc := enc) (C := Try.checked) false ⟨#[], #[.int .u32 0, .int .u32 0, .slice none 0 0, .slice none 0 0, .bool false], []⟩ 8 (by kernel_rfl) (by kernel_rfl) (by kernel_rfl) (by kernel_rfl)) ?_
 intro W base args ds gs before hval0 hW hcnd _
 have hval : ∀ (j : Nat) t v, Try.f3.params[j]? = some t → args[j]? = some v → Value.okWide Try.prog W .any base t v := hval0
 have hW' := hW
 obtain ⟨p, q, hA0, hV, rfl, hfz, hnd⟩ := hW
 have hlt : ∀ x ∈ p, x.block < W.heap.size := fun x hx => hW'.lt x (by simp [hx])
 have hA : DataW.TrodAll enc Try.prog W 0 (fun _ => true) true Try.f3.params.toList args.toList ds p := hA0
 rw [Try.params3] at hA hval
 obtain ⟨v0, vs0, d0, ds0, p0, q0, hargs, rfl, rfl, h0, r0⟩ := trodAll_cons hA
 obtain ⟨v1, vs1, d1, ds1, p1, q1, rfl, rfl, rfl, h1, r1⟩ := trodAll_cons r0
 obtain ⟨v2, vs2, d2, ds2, p2, q2, rfl, rfl, rfl, h2, r2⟩ := trodAll_cons r1
 obtain ⟨v3, vs3, d3, ds3, p3, q3, rfl, rfl, rfl, h3, r3⟩ := trodAll_cons r2
 obtain ⟨v4, vs4, d4, ds4, p4, q4, rfl, rfl, rfl, h4, r4⟩ := trodAll_cons r3
 obtain ⟨rfl, rfl, rfl⟩ := trodAll_nil r4
 obtain rfl : args = #[v0, v1, v2, v3, v4] := by cases args; simp_all
 have key : ∀ W', Below W.heap.size W W' → Rows.tcpEndsSpec.post enc Try.prog Try.f3 false true false false W #[v0, v1, v2, v3, v4] (.bool true) W' := fun W' hb =>
   post_law hW' rfl rfl (by kernel_rfl) Try.underlying4 laid' (by kernel_rfl) hb
 obtain ⟨x, rfl, rfl, rfl, w0⟩ := open_int Try.underlying22 (hval 0 22 v0 rfl rfl) h0
 obtain ⟨iss, rfl, his⟩ := u32_of w0
 obtain ⟨y, rfl, rfl, rfl, w1⟩ := open_int Try.underlying22 (hval 1 22 v1 rfl rfl) h1
 obtain ⟨irs, rfl, hir⟩ := u32_of w1
 obtain ⟨a2, ln2, cp2, rfl⟩ := okWide_slice Try.underlying23 (hval 2 23 v2 rfl rfl)
 obtain ⟨fuel2, hf2⟩ := h2
 obtain ⟨u2, hu2, data, hrd, hgd⟩ := open_bytesW hf2
 obtain rfl : Value.slice a2 ln2 cp2 = u2 := by cases hu2; rfl
 obtain ⟨a3, ln3, cp3, rfl⟩ := okWide_slice Try.underlying23 (hval 3 23 v3 rfl rfl)
 obtain ⟨fuel3, hf3⟩ := h3
 obtain ⟨u3, hu3, more, hrm, hgm⟩ := open_bytesW hf3
 obtain rfl : Value.slice a3 ln3 cp3 = u3 := by cases hu3; rfl
 obtain ⟨f, rfl⟩ := okWide_bool Try.underlying4 (hval 4 4 v4 rfl rfl)
 exact (TcpEnds_any hrd hgd hrm hgm his hir).mono fun e W' ⟨he, hg⟩ => ⟨_, he, key W' hg⟩

theorem over : Rows.tcpEndsRow.holds Try.pinned (OpenSpec.ofChange Rows.tcpEndsSpec) :=
 OpenClaim.holds_of_wide 3 Try.f3 rfl rfl rfl rfl rfl rfl rfl ⟨rfl, rfl, rfl, rfl, rfl⟩ rfl rfl rfl rfl rfl (by kernel_rfl) Try.func3 (by kernel_rfl)
   (of_decide_eq_true (by kernel_rfl)) (by unfold Func.isWrapper; first | (rw [if_pos (by decide +kernel)]; kernel_rfl) | (rw [if_neg (by decide +kernel)]; exact ⟨rfl, rfl⟩))
   (fun os started H enc _ => lifted os started H enc)

theorem proved : Rows.TcpEndsSaid := over
#print axioms proved
end Go.Proofs.Ythenepdbgeafkaa.tcpEnds
