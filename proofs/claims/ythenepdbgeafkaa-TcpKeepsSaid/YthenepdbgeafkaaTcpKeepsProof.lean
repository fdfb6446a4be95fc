/-
 The statement TcpKeeps of the program: for every input the call returns true, and each argument reads as it read before. No condition of ours.
 The frame follows the kit's proof-skeleton; the walk stands in the texts that are imported.
-/
import Derived.Test.YthenepdbgeafkaaRows
import Derived.Test.YthenepdbgeafkaaTcZ
namespace Go.Proofs.Ythenepdbgeafkaa.tcpKeeps
open Go.ChangeShapes Go.WideShapes Go.ChangeAt Go.RowKit Go.Proofs.Ythenepdbgeafkaa
set_option linter.unusedVariables false

theorem own : ownKnob Try.prog.godebug = none := by kernel_rfl
theorem laid' : laidOutB Try.prog = true := by kernel_rfl

set_option maxRecDepth 100000 in
theorem lifted (os : Os) (started : os.Started) (H : Type) (enc : TypeId × Value → H) :
   ReturnsInHanded {} Try.checked os 7 .any (Rows.tcpKeepsSpec.pre6 enc Try.prog Try.f7 Rows.tcpKeepsRow.domain false) (Rows.tcpKeepsSpec.post enc Try.prog Try.f7 false true false false) := by
 refine returnsInHanded_of_change (C := Try.checked) own started (by kernel_rfl) Try.func7
   (ChangeSpec.witness6 (enc := enc) (C := Try.checked) false ⟨#[], #[.agg #[.int .i64 0, .int .i64 0, .int .u32 0, .int .i64 0, .int .u32 0, .int .u32 0, .int .u32 0, .slice none 0 0, .int .i64 0, .bool false, .bool false, .int .u32 0, .slice none 0 0, .slice none 0 0, .bool false, .int .u64 0, .int .i64 0, .int .i64 0, .int .i64 0], .agg #[.int .i64 0, .int .i64 0, .int .u32 0, .int .u32 0, .int .i64 0, .int .i64 0, .slice none 0 0], .slice none 0 0, .int .i64 0, .int .u64 0], []⟩ 8 (by kernel_rfl) (by kernel_rfl) (by kernel_rfl) (by kernel_rfl)) ?_
 intro W base args ds gs before hval0 hW hcnd _
 have hval : ∀ (j : Nat) t v, Try.f7.params[j]? = some t → args[j]? = some v → Value.okWide Try.prog W .any base t v := hval0
 have hW' := hW
 obtain ⟨p, q, hA0, hV, rfl, hfz, hnd⟩ := hW
 have hlt : ∀ x ∈ p, x.block < W.heap.size := fun x hx => hW'.lt x (by simp [hx])
 have hA : DataW.TrodAll enc Try.prog W 0 (fun _ => true) true Try.f7.params.toList args.toList ds p := hA0
 rw [Try.params7] at hA hval
 obtain ⟨v0, vs0, d0, ds0, p0, q0, hargs, rfl, rfl, h0, r0⟩ := trodAll_cons hA
 obtain ⟨v1, vs1, d1, ds1, p1, q1, rfl, rfl, rfl, h1, r1⟩ := trodAll_cons r0
 obtain ⟨v2, vs2, d2, ds2, p2, q2, rfl, rfl, rfl, h2, r2⟩ := trodAll_cons r1
 obtain ⟨v3, vs3, d3, ds3, p3, q3, rfl, rfl, rfl, h3, r3⟩ := trodAll_cons r2
 obtain ⟨v4, vs4, d4, ds4, p4, q4, rfl, rfl, rfl, h4, r4⟩ := trodAll_cons r3
 obtain ⟨rfl, rfl, rfl⟩ := trodAll_nil r4
 obtain rfl : args = #[v0, v1, v2, v3, v4] := by cases args; simp_all
 have key : ∀ W', Below W.heap.size W W' → Rows.tcpKeepsSpec.post enc Try.prog Try.f7 false true false false W #[v0, v1, v2, v3, v4] (.bool true) W' := fun W' hb =>
   post_law hW' rfl rfl (by kernel_rfl) Try.underlying4 laid' (by kernel_rfl) hb
 obtain ⟨st, lo, po, wnd, rto, tr, er, ip, iss, una, nx, inx, tm, en, se, ed, dv, bv, pv, D, bs, l, hT⟩ := open_tcb h0
 obtain ⟨src, dst, fl, swn, seq, ack, sv, E, rfl, hsq, hak, hrd, _, hfl⟩ := open_seg h1
 obtain ⟨a2, ln2, cp2, rfl⟩ := okWide_slice Try.underlying23 (hval 2 23 v2 rfl rfl)
 obtain ⟨fuel2, hf2⟩ := h2
 obtain ⟨u2, hu2, b, hrb, hgb⟩ := open_bytesW hf2
 obtain rfl : Value.slice a2 ln2 cp2 = u2 := by cases hu2; rfl
 obtain ⟨n, rfl, rfl, rfl, _⟩ := open_int Try.underlying3 (hval 3 3 v3 rfl rfl) h3
 obtain ⟨x, rfl, rfl, rfl, w4⟩ := open_int Try.underlying28 (hval 4 28 v4 rfl rfl) h4
 obtain ⟨now, rfl⟩ : ∃ n : Nat, x = (n : Nat) := by
   simp only [Lit.wf, Bool.and_eq_true, decide_eq_true_eq] at w4
   have h1 : IntKind.u64.min = 0 := by decide
   exact ⟨x.toNat, by omega⟩
 exact (TcpKeeps_any hT hrb hrd hsq hak hfl now).mono fun e W' ⟨he, hg⟩ => ⟨_, he, key W' hg⟩

theorem over : Rows.tcpKeepsRow.holds Try.pinned (OpenSpec.ofChange Rows.tcpKeepsSpec) :=
 OpenClaim.holds_of_wide 7 Try.f7 rfl rfl rfl rfl rfl rfl rfl ⟨rfl, rfl, rfl, rfl, rfl⟩ rfl rfl rfl rfl rfl (by kernel_rfl) Try.func7 (by kernel_rfl)
   (of_decide_eq_true (by kernel_rfl)) (by unfold Func.isWrapper; first | (rw [if_pos (by decide +kernel)]; kernel_rfl) | (rw [if_neg (by decide +kernel)]; exact ⟨rfl, rfl⟩))
   (fun os started H enc _ => lifted os started H enc)

theorem proved : Rows.TcpKeepsSaid := over
#print axioms proved
end Go.Proofs.Ythenepdbgeafkaa.tcpKeeps
