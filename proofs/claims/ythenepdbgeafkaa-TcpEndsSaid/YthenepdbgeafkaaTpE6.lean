/-
 Both close (TcpEnds): the whole way, how long the queues are, which segments stand in them. No program in sight.
-/
import Derived.Test.YthenepdbgeafkaaGAC
set_option linter.unusedVariables false
set_option linter.unusedSimpArgs false
namespace Go.Proofs.Tp
open Go Go.Proofs.Wi
section
variable {iss irs : Nat} {data more : List Nat} {S S' F : Se} {ta tb : T} {qa qb : List G} {gota gotb : List Nat} {k : Nat}
theorem ends_chain (hd : data.length ≤ 100) (hm : more.length ≤ 100) (f : Bool) : ∃ S1 S2 S3 S4 : Se, (if f then closeB (npE more.length) (startE (npE data.length) (npE more.length)) else closeA (npE data.length) (startE (npE data.length) (npE more.length))) = some S1 ∧ EnRun data more 200 S1 S2 ∧ (if f then closeA (npE data.length) S2 else closeB (npE more.length) S2) = some S3 ∧ EnRun data more 200 S3 S4 ∧ endE (npE data.length) (npE more.length) S4 = true := by
 have h := they_end (npE data.length) (by unfold npE; omega) (npE more.length) (by unfold npE; omega) f
 unfold allE at h
 split at h
 · cases h
 · rename_i s1 h1
   split at h
   · cases h
   · rename_i s2 h2
     split at h
     · cases h
     · rename_i s3 h3
       split at h
       · cases h
       · rename_i s4 h4
         exact ⟨s1, s2, s3, s4, h1, h2, h3, h4, h⟩
theorem stepE_len {na nb : Nat} (h : stepE na nb S = some S') : S.qa.length + S.qb.length ≤ S'.qa.length + S'.qb.length + 1 := by
 unfold stepE at h
 split at h
 · rename_i g r hq
   split at h
   · cases h
   · cases h
     rw [hq]
     simp only [List.length_append, List.length_cons]
     omega
 · rename_i hq
   split at h
   · rename_i g r hq2
     split at h
     · cases h
     · cases h
       rw [hq2]
       simp only [List.length_append, List.length_cons]
       omega
   · cases h
theorem EnRun.bound : ∀ (k : Nat) {S : Se}, EnRun data more k S F → S.qa.length + S.qb.length ≤ k := by
 intro k
 induction k with
 | zero =>
   intro S h
   have := h.zero.2
   omega
 | succ k ih =>
   intro S h
   unfold EnRun runE at h
   split at h
   · omega
   · split at h
     · cases h
     · rename_i s' hs
       have h1 := stepE_len hs
       have h2 := ih (S := s') h
       omega
theorem closeA_len {na : Nat} (h : closeA na S = some S') : S.qa.length + S.qb.length ≤ S'.qa.length + S'.qb.length := by
 unfold closeA at h
 split at h
 · cases h
 · cases h
   simp only [List.length_append]
   omega
theorem closeB_len {nb : Nat} (h : closeB nb S = some S') : S.qa.length + S.qb.length ≤ S'.qa.length + S'.qb.length := by
 unfold closeB at h
 split at h
 · cases h
 · cases h
   simp only [List.length_append]
   omega
theorem EnI.segB {g : G} {r : List G} (h : EnI iss irs data more S ta tb qa (g :: r) gota gotb) (hr : EnRun data more (k + 1) S F) : chkG g = true ∧ g.seq < 4294967296 ∧ g.ack < 4294967296 := by
 have hl := h.fqb
 obtain ⟨x, l, hx⟩ : ∃ x l, S.qb = x :: l := by
   cases hq : S.qb with
   | nil => rw [hq] at hl; exact hl.elim
   | cons x l => exact ⟨x, l, rfl⟩
 rw [hx] at hl
 obtain ⟨⟨w, w1, w2, rfl⟩, _⟩ := hl
 unfold EnRun runE at hr
 rw [if_neg (by rw [hx]; simp)] at hr
 cases hs : stepE (npE data.length) (npE more.length) S with
 | none => rw [hs] at hr; cases hr
 | some S' =>
   unfold stepE at hs
   rw [hx] at hs
   cases ht : takeE (npE more.length) (npE data.length) x S.b with
   | none => simp only [ht] at hs; cases hs
   | some eo =>
     unfold takeE at ht
     split at ht
     · rename_i hc
       obtain ⟨c3, csq, cua, can, cdat, cfin⟩ := of_decide_eq_true hc
       exact ⟨chk_con (by decide) (by decide) (by omega) cdat, u32_lt0 _, u32_lt0 _⟩
     · cases ht
theorem EnI.segA {g : G} {r : List G} (h : EnI iss irs data more S ta tb (g :: r) [] gota gotb) (hr : EnRun data more (k + 1) S F) : chkG g = true ∧ g.seq < 4294967296 ∧ g.ack < 4294967296 := by
 have hl := h.fqa
 have hb0 : S.qb = [] := List.eq_nil_of_length_eq_zero (by rw [h.lenB]; rfl)
 obtain ⟨x, l, hx⟩ : ∃ x l, S.qa = x :: l := by
   cases hq : S.qa with
   | nil => rw [hq] at hl; exact hl.elim
   | cons x l => exact ⟨x, l, rfl⟩
 rw [hx] at hl
 obtain ⟨⟨w, w1, w2, rfl⟩, _⟩ := hl
 unfold EnRun runE at hr
 rw [if_neg (by rw [hx]; simp)] at hr
 cases hs : stepE (npE data.length) (npE more.length) S with
 | none => rw [hs] at hr; cases hr
 | some S' =>
   unfold stepE at hs
   rw [hb0, hx] at hs
   cases ht : takeE (npE data.length) (npE more.length) x S.a with
   | none => simp only [ht] at hs; cases hs
   | some eo =>
     unfold takeE at ht
     split at ht
     · rename_i hc
       obtain ⟨c3, csq, cua, can, cdat, cfin⟩ := of_decide_eq_true hc
       exact ⟨chk_con (by decide) (by decide) (by omega) cdat, u32_lt0 _, u32_lt0 _⟩
     · cases ht
end
end Go.Proofs.Tp
