/-
 A region that draws its order, cut at a call: its first operation is pure and waits for nothing, it may come before or behind the call. No program in sight.
-/
import Derived.Test.YtjmibgomkgkhnaaGreatAnyZ
set_option linter.unusedVariables false
set_option linter.unusedSimpArgs false
namespace Go
namespace Any
open Go.RowKit
theorem wp_region_cut1' {P : Program} {id : Nat} {Q : Exit → Act → World → Prop} {a : Act} {w0 w : World} {L : List (Nat × Array Value)} {l : List Oper} (c : Nat) (ss : List Stat) (ms : List Mark) {o0 : Oper} (v0 : Value) (hm : P.follows .mixedOrders = true)
   (hB : (decide (1 ≤ c) && decide (c < l.length) && Region.noSelect l.toArray && Region.free .any l.toArray (Array.replicate l.length false) 0 && (Region.ready .any l.toArray (Array.replicate l.length false)).contains 0 && lexC .any l.toArray (fun i => ss.getD i ⟨[], none⟩) c (c - 1) 1 (marks 1 0 (Array.replicate l.length false)) && (Region.ready .any l.toArray (marks c 0 (Array.replicate l.length false)) == [c])) = true) (hv : Vars w0 w L)
   (h0 : l.toArray[0]? = some o0) (hQ : ∀ c a w, Q (.panic c) (a.put o0.dst v0) w → Q (.panic c) a w) (hy : Yields P l.toArray o0 v0 a)
   (h : someVals c fun vs => wpE P l.toArray ⟨w0, w.drewN 1, L.map (·.1)⟩ (fun i => ss.getD i ⟨[], none⟩) (kindOf ms vs) (fun a' E' => ∀ w', VE ⟨w0, w.drewN 1, L.map (·.1)⟩ E' w' →
     wpOp P l.toArray Q c (wpAny P .any l.toArray Q (l.length - (c + 1)) (marks (c + 1) 0 (Array.replicate l.length false))) a' w') 1 ((l.drop 1).take (c - 1)) (a.put o0.dst v0) (Env.of L)) : (Code.region id l.toArray true).wp P Q a w := by
 simp only [Bool.and_eq_true, decide_eq_true_eq, beq_iff_eq] at hB
 obtain ⟨⟨⟨⟨⟨⟨h1c, hc⟩, hs⟩, hf0⟩, hr0⟩, hl⟩, hr⟩ := hB
 refine of_someVals _ (fun vs h => ?_) h
 have hC := VE.start (hv.drewN 1)
 have hsz : l.toArray.size = l.length := by simp
 have hmk : ∀ (n k : Nat) (x : Array Bool), marks (n + 1) k x = (marks n k x).setIfInBounds (k + n) true := by
   intro n
   induction n with
   | zero => intro k x; rfl
   | succ n ih =>
     intro k x
     show marks (n + 1) (k + 1) (x.setIfInBounds k true) = _
     rw [ih (k + 1)]
     show _ = (marks n (k + 1) (x.setIfInBounds k true)).setIfInBounds (k + (n + 1)) true
     rw [show k + 1 + n = k + (n + 1) from by omega]
 have hmc : marks (c - 1) 1 (marks 1 0 (Array.replicate l.length false)) = marks c 0 (Array.replicate l.length false) := by
   conv => rhs; rw [show c = (c - 1) + 1 from by omega]
   rfl
 refine wp_region_any hm ?_
 rw [hsz, show l.length = (l.length - 1) + 1 from by omega]
 refine wpAny_take h0 hs (by rw [show l.length - 1 + 1 = l.length from by omega]; exact hf0) (by rw [show l.length - 1 + 1 = l.length from by omega]; exact hr0) hQ hy ?_
 rw [show l.length - 1 + 1 = l.length from by omega]
 refine wpAny_of_C ⟨w0, w.drewN 1, L.map (·.1)⟩ (fun i => ss.getD i ⟨[], none⟩) (kindOf ms vs) (c := c) _ _ _ (Env.of L) _ hC ?_
 have key := wpAnyC_lex (P := P) (md := .any) (c := c) (H := fun fuel listed a w => wpOp P l.toArray Q c (wpAny P .any l.toArray Q fuel (listed.setIfInBounds c true)) a w) ⟨w0, w.drewN 1, L.map (·.1)⟩ (fun i => ss.getD i ⟨[], none⟩) (kindOf ms vs) (l.length - (c + 1) + 1) hs (c - 1) 1 ((l.drop 1).take (c - 1)) (marks 1 0 (Array.replicate l.length false)) (a.put o0.dst v0) (Env.of L) (by rw [List.length_take, List.length_drop]; omega) (fun i hi => by rw [List.getElem?_take, if_pos hi, List.getElem?_drop, List.getElem?_toArray]) hl
 rw [show c - 1 + (l.length - (c + 1) + 1) = l.length - 1 from by omega] at key
 refine key ?_
 have hmono : ∀ (k : Nat) (r : List Oper) (a : Act) (E : Env) {Q1 Q2 : Act → Env → Prop}, (∀ a E, Q1 a E → Q2 a E) → wpE P l.toArray ⟨w0, w.drewN 1, L.map (·.1)⟩ (fun i => ss.getD i ⟨[], none⟩) (kindOf ms vs) Q1 k r a E → wpE P l.toArray ⟨w0, w.drewN 1, L.map (·.1)⟩ (fun i => ss.getD i ⟨[], none⟩) (kindOf ms vs) Q2 k r a E := by
   intro k r
   induction r generalizing k with
   | nil => intro a E Q1 Q2 hq h; exact hq a E h
   | cons o r ih =>
     intro a E Q1 Q2 hq h
     unfold wpE at h ⊢
     rcases h with ⟨h1, h2⟩ | ⟨h1, h2⟩
     · exact .inl ⟨h1, ih _ _ _ hq h2⟩
     · exact .inr ⟨h1, fun v x s => ih _ _ _ hq (h2 v x s)⟩
 rw [hmc]
 refine hmono 1 ((l.drop 1).take (c - 1)) (a.put o0.dst v0) (Env.of L) (fun a' E' hh => ?_) h
 refine wpAnyC_at _ _ _ hr fun w' hw' => ?_
 have e := hmk c 0 (Array.replicate l.length false)
 rw [Nat.zero_add] at e
 rw [← e]
 exact hh w' hw'
theorem wp_region_cut1 {P : Program} {id : Nat} {Q : Exit → Act → World → Prop} {a : Act} {w0 w : World} {L : List (Nat × Array Value)} {o0 : Oper} {l : List Oper} (c : Nat) (ss : List Stat) (ms : List Mark) (v0 : Value) (hm : P.follows .mixedOrders = true)
   (hB : (decide (1 ≤ c) && decide (c < (o0 :: l).length) && Region.noSelect (o0 :: l).toArray && Region.free .any (o0 :: l).toArray (Array.replicate (o0 :: l).length false) 0 && (Region.ready .any (o0 :: l).toArray (Array.replicate (o0 :: l).length false)).contains 0 && lexC .any (o0 :: l).toArray (fun i => ss.getD i ⟨[], none⟩) c (c - 1) 1 (marks 1 0 (Array.replicate (o0 :: l).length false)) && (Region.ready .any (o0 :: l).toArray (marks c 0 (Array.replicate (o0 :: l).length false)) == [c])) = true) (hv : Vars w0 w L)
   (hQ : ∀ c a w, Q (.panic c) (a.put o0.dst v0) w → Q (.panic c) a w) (hy : Yields P (o0 :: l).toArray o0 v0 a)
   (h : someVals c fun vs => wpE P (o0 :: l).toArray ⟨w0, w.drewN 1, L.map (·.1)⟩ (fun i => ss.getD i ⟨[], none⟩) (kindOf ms vs) (fun a' E' => ∀ w', VE ⟨w0, w.drewN 1, L.map (·.1)⟩ E' w' →
     wpOp P (o0 :: l).toArray Q c (wpAny P .any (o0 :: l).toArray Q ((o0 :: l).length - (c + 1)) (marks (c + 1) 0 (Array.replicate (o0 :: l).length false))) a' w') 1 (l.take (c - 1)) (a.put o0.dst v0) (Env.of L)) : (Code.region id (o0 :: l).toArray true).wp P Q a w :=
 wp_region_cut1' c ss ms v0 hm hB hv (by rw [List.getElem?_toArray]; rfl) hQ hy h
end Any
end Go
