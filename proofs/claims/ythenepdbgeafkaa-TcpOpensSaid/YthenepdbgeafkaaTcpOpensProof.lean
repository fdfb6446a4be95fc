/-
 The statement TcpOpens of the program: for every input the call returns true, and each argument reads as it read before. No condition of ours.
 The frame follows the kit's proof-skeleton; the walk stands in the texts that are imported.
-/
import Derived.Test.YthenepdbgeafkaaRows
import Derived.Test.YthenepdbgeafkaaTcOn
namespace Go.Proofs.Ythenepdbgeafkaa.tcpOpens
open Go.ChangeShapes Go.WideShapes Go.ChangeAt Go.RowKit Go.Proofs.Ythenepdbgeafkaa
set_option linter.unusedVariables false

theorem own : ownKnob Try.prog.godebug = none := by kernel_rfl
theorem laid' : laidOutB Try.prog = true := by kernel_rfl

set_option maxRecDepth 100000 in
theorem lifted (os : Os) (started : os.Started) (H : Type) (enc : TypeId × Value → H) :
   ReturnsInHanded {} Try.checked os 5 .any (Rows.tcpOpensSpec.pre6 enc Try.prog Try.f5 Rows.tcpOpensRow.domain false) (Rows.tcpOpensSpec.post enc Try.prog Try.f5 false true false false) := by
 refine returnsInHanded_of_change (C := Try.checked) own started (by kernel_rfl) Try.func5
   (ChangeSpec.witness6 (enc := enc) (C := Try.checked) false ⟨#[], #[.int .u32 0, .int .u32 0, .slice none 0 0], []⟩ 8 (by kernel_rfl) (by kernel_rfl) (by kernel_rfl) (by kernel_rfl)) ?_
 intro W base args ds gs before hval0 hW hcnd _
 have hval : ∀ (j : Nat) t v, Try.f5.params[j]? = some t → args[j]? = some v → Value.okWide Try.prog W .any base t v := hval0
 have hW' := hW
 obtain ⟨p, q, hA0, hV, rfl, hfz, hnd⟩ := hW
 have hlt : ∀ x ∈ p, x.block < W.heap.size := fun x hx => hW'.lt x (by simp [hx])
 have hA : DataW.TrodAll enc Try.prog W 0 (fun _ => true) true Try.f5.params.toList args.toList ds p := hA0
 rw [Try.params5] at hA hval
 obtain ⟨v0, vs0, d0, ds0, p0, q0, hargs, rfl, rfl, h0, r0⟩ := trodAll_cons hA
 obtain ⟨v1, vs1, d1, ds1, p1, q1, rfl, rfl, rfl, h1, r1⟩ := trodAll_cons r0
 obtain ⟨v2, vs2, d2, ds2, p2, q2, rfl, rfl, rfl, h2, r2⟩ := trodAll_cons r1
 obtain ⟨rfl, rfl, rfl⟩ := trodAll_nil r2
 obtain rfl : args = #[v0, v1, v2] := by cases args; simp_all
 have key : ∀ W', Below W.heap.size W W' → Rows.tcpOpensSpec.post enc Try.prog Try.f5 false true false false W #[v0, v1, v2] (.bool true) W' := fun W' hb =>
   post_law hW' rfl rfl (by kernel_rfl) Try.underlying4 laid' (by kernel_rfl) hb
 obtain ⟨x, rfl, rfl, rfl, w0⟩ := open_int Try.underlying22 (hval 0 22 v0 rfl rfl) h0
 obtain ⟨iss, rfl, his⟩ := u32_of w0
 obtain ⟨y, rfl, rfl, rfl, w1⟩ := open_int Try.underlying22 (hval 1 22 v1 rfl rfl) h1
 obtain ⟨irs, rfl, hir⟩ := u32_of w1
 obtain ⟨a2, ln2, cp2, rfl⟩ := okWide_slice Try.underlying53 (hval 2 53 v2 rfl rfl)
 obtain ⟨fuel2, hf2⟩ := h2
 obtain ⟨u2, hu2, bl, hrl⟩ := open_boolsW hf2
 obtain rfl : Value.slice a2 ln2 cp2 = u2 := by cases hu2; rfl
 exact (TcpOpens_any hrl his hir).mono fun e W' ⟨he, hg⟩ => ⟨_, he, key W' hg⟩

theorem over : Rows.tcpOpensRow.holds Try.pinned (OpenSpec.ofChange Rows.tcpOpensSpec) :=
 OpenClaim.holds_of_wide 5 Try.f5 rfl rfl rfl rfl rfl rfl rfl ⟨rfl, rfl, rfl, rfl, rfl⟩ rfl rfl rfl rfl rfl (by kernel_rfl) Try.func5 (by kernel_rfl)
   (of_decide_eq_true (by kernel_rfl)) (by unfold Func.isWrapper; first | (rw [if_pos (by decide +kernel)]; kernel_rfl) | (rw [if_neg (by decide +kernel)]; exact ⟨rfl, rfl⟩))
   (fun os started H enc _ => lifted os started H enc)

theorem proved : Rows.TcpOpensSaid := over
#print axioms proved
end Go.Proofs.Ythenepdbgeafkaa.tcpOpens
