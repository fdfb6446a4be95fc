/-
  The parts of a span that are in none of some: fresh.
-/
import Derived.Test.YtpbeemgigpaacaaWiWithin
import Derived.Laws.Tables
import Derived.Shelf.Abstract
set_option linter.unusedVariables false
set_option linter.unusedSimpArgs false
namespace Go.Proofs.Ytpbeemgigpaacaa
open Go.Proofs.Wi Go.RowKit
theorem spOf_app (l l' : List SpV) : spOf (l ++ l') = spOf l ++ spOf l' := by simp [spOf]
/-- One part more, or none. -/
def AddR (w0 : World) (bf bo bx : Nat) (fr : Int) (X : Array Value) (L : List (Nat × Array Value)) (R : List (Nat × Value × List Value)) (S : List SpV) (r : Option Sp) (e : Ending) (w' : World) : Prop :=
  ∃ (v : Value) (O : List (Nat × Array Value)) (S' : List SpV) (R' : List (Nat × Value × List Value)), e = .returned (.tuple #[]) ∧ Mem w0 w' ((bf, #[.int .i64 fr]) :: (bo, #[v]) :: (bx, X) :: (O ++ L)) (R' ++ R) ∧ OwnL 2 v (cellsS (S ++ S')) O ∧ spOf S' = r.toList ∧ AllS (R' ++ R) S' ∧ S'.length ≤ 1
set_option maxRecDepth 100000 in
set_option maxHeartbeats 4000000 in
theorem add_any (x fr tt : Int) (da : Option Addr) (dn dc : Nat) (d : List Nat) (bf bo bx : Nat) (v : Value) (O : List (Nat × Array Value)) (S : List SpV) (w0 w : World) (L : List (Nat × Array Value)) (R : List (Nat × Value × List Value)) (hv0 : Mem w0 w ((bf, #[.int .i64 fr]) :: (bo, #[v]) :: (bx, #[.int .i64 x, .slice da dn dc]) :: (O ++ L)) R) (hO : OwnL 2 v (cellsS S) O) (hS : S.length ≤ 5000) (hd : (1, .slice da dn dc, cellsB d) ∈ R) (hx1 : -1000000000000 ≤ x) (hx2 : x ≤ 1000000000000) (hf1 : -1000000000000 ≤ fr) (hf2 : fr ≤ 1000000000000) (ht1 : -1000000000000 ≤ tt) (ht2 : tt ≤ 1000000000000) (hdn : dn ≤ 1000000) :
    Calls Try.prog 28 #[.int .i64 tt, .pointer (some ⟨bx, 0, none⟩), .pointer (some ⟨bf, 0, none⟩), .pointer (some ⟨bo, 0, none⟩)] w (AddR w0 bf bo bx fr #[.int .i64 x, .slice da dn dc] L R S (within (x, d) fr tt)) := by
  have hv := hv0
  obtain ⟨va, vn, vc, rfl, _⟩ := id hO.slice
  have HO := Lib.hid hO
  have HD := Lib.hid hd
  have hsl : (cellsS S).length = S.length * 2 := cellsS_len S
  have kW0 := fun w' L' R' (h : Mem w0 w' L' R') h2 => within_any x fr tt da dn dc d w0 w' L' R' h h2 hx1 hx2 hf1 hf2 ht1 ht2 hdn
  cases hr : within (x, d) fr tt with
  | none =>
    rw [hr] at kW0
    have kW : ∀ w' L' R', Mem w0 w' L' R' → (1, .slice da dn dc, cellsB d) ∈ R' → Calls Try.prog 23 #[.agg #[.int .i64 x, .slice da dn dc], .int .i64 fr, .int .i64 tt] w' fun e w2 => e = .returned (.tuple #[.agg #[.int .i64 0, .slice none 0 0], .bool false]) ∧ Mem w0 w2 L' R' := kW0
    clear hv0 hO hS hd hx1 hx2 hf1 hf2 ht1 ht2 hdn hsl kW0 hr
    go_enter Try.func28, Try.ntmps28
    go_wp2_with (first
      | ((with_reducible refine at_load (T := 51) ?_); refine wl_ldv rfl bx rfl _ (hv.vars.row (by first | exact .head _ | exact .tail _ (.head _) | exact .tail _ (.tail _ (.head _)) | exact .tail _ (.tail _ (.tail _ (.head _))) | exact .tail _ (.tail _ (.tail _ (.tail _ (.head _)))) | exact .tail _ (.tail _ (.tail _ (.tail _ (.tail _ (.head _))))) | exact .tail _ (.tail _ (.tail _ (.tail _ (.tail _ (.tail _ (.head _)))))) | exact .tail _ (.tail _ (.tail _ (.tail _ (.tail _ (.tail _ (.tail _ (.head _))))))))) 2 _ Try.underlying51 rfl infoSp (by decide) rfl ?_)
      | ((with_reducible refine at_load (T := 3) ?_); refine wl_ldc rfl bf 0 rfl _ (hv.vars.row (by first | exact .head _ | exact .tail _ (.head _) | exact .tail _ (.tail _ (.head _)) | exact .tail _ (.tail _ (.tail _ (.head _))) | exact .tail _ (.tail _ (.tail _ (.tail _ (.head _)))) | exact .tail _ (.tail _ (.tail _ (.tail _ (.tail _ (.head _))))) | exact .tail _ (.tail _ (.tail _ (.tail _ (.tail _ (.tail _ (.head _)))))) | exact .tail _ (.tail _ (.tail _ (.tail _ (.tail _ (.tail _ (.tail _ (.head _))))))))) _ Try.underlying3 rfl _ rfl ?_)
      | (go_at_call 23; (with_reducible refine (kW _ _ _ hv HD.out).mono ?_); rintro e w1 ⟨rfl, hv1⟩; replace hv := hv1; clear hv1)
      | ((with_reducible refine at_alloc (T := 51) (dst := some 5) ?_); refine wl_newb rfl #[.int .i64 0, .slice none 0 0] 51 (fun _ => rfl) ?_; intro b5 w2 hm2; replace hv := hv.madeAt hm2; clear hm2)
      | ((with_reducible refine at_store (T := 51) ?_); refine wl_stv rfl b5 rfl _ rfl _ (hv.vars.row (by first | exact .head _ | exact .tail _ (.head _) | exact .tail _ (.tail _ (.head _)) | exact .tail _ (.tail _ (.tail _ (.head _))) | exact .tail _ (.tail _ (.tail _ (.tail _ (.head _)))) | exact .tail _ (.tail _ (.tail _ (.tail _ (.tail _ (.head _))))) | exact .tail _ (.tail _ (.tail _ (.tail _ (.tail _ (.tail _ (.head _)))))) | exact .tail _ (.tail _ (.tail _ (.tail _ (.tail _ (.tail _ (.tail _ (.head _))))))))) (hv.vars.sft (by first | exact .head _ | exact .tail _ (.head _) | exact .tail _ (.tail _ (.head _)) | exact .tail _ (.tail _ (.tail _ (.head _))) | exact .tail _ (.tail _ (.tail _ (.tail _ (.head _)))) | exact .tail _ (.tail _ (.tail _ (.tail _ (.tail _ (.head _))))) | exact .tail _ (.tail _ (.tail _ (.tail _ (.tail _ (.tail _ (.head _)))))) | exact .tail _ (.tail _ (.tail _ (.tail _ (.tail _ (.tail _ (.tail _ (.head _))))))))) 2 infoSp rfl rfl (by simp [Value.oneCell']) ?_; intro w2 hw2; (first | (replace hv := hv.set 0 rfl hw2) | (replace hv := hv.set 1 rfl hw2) | (replace hv := hv.set 2 rfl hw2) | (replace hv := hv.set 3 rfl hw2)); clear hw2; simp only [List.set] at hv))
    go_end0
    exact ⟨_, O, [], [], rfl, hv.drop, by rw [List.append_nil]; exact HO.out, rfl, fun p hp => (List.not_mem_nil hp).elim, Nat.zero_le _⟩
  | some y =>
    rw [hr] at kW0
    obtain ⟨y1, yd⟩ := y
    have kW : ∀ w' L' R', Mem w0 w' L' R' → (1, .slice da dn dc, cellsB d) ∈ R' → Calls Try.prog 23 #[.agg #[.int .i64 x, .slice da dn dc], .int .i64 fr, .int .i64 tt] w' fun e w2 => ∃ ao n cap, e = .returned (.tuple #[.agg #[.int .i64 y1, .slice ao n cap], .bool true]) ∧ Mem w0 w2 L' ((1, .slice ao n cap, cellsB yd) :: R') := kW0
    have hB0 : Hid (∀ (ya : Option Addr) (yn yc : Nat), ∀ z ∈ ([.int .i64 y1, .slice ya yn yc] : List Value), z.oneCell' = true) := Lib.hid (fun ya yn yc z hz => by
      rcases List.mem_cons.1 hz with rfl | hz
      · rfl
      · rw [List.mem_singleton.1 hz]; rfl)
    have hB1 : Hid (((cellsS S).length + 2) / 2 ≤ maxLen) := Lib.hid (by rw [hsl]; unfold maxLen; omega)
    have hB2 : Hid (((cellsS S).length + 2) / 2 * 32 ≤ 140737488355328) := Lib.hid (by rw [hsl]; omega)
    clear hv0 hO hS hd hx1 hx2 hf1 hf2 ht1 ht2 hdn hsl kW0 hr
    go_enter Try.func28, Try.ntmps28
    go_wp2_with (first
      | ((with_reducible refine at_load (T := 51) ?_); refine wl_ldv rfl bx rfl _ (hv.vars.row (by first | exact .head _ | exact .tail _ (.head _) | exact .tail _ (.tail _ (.head _)) | exact .tail _ (.tail _ (.tail _ (.head _))) | exact .tail _ (.tail _ (.tail _ (.tail _ (.head _)))) | exact .tail _ (.tail _ (.tail _ (.tail _ (.tail _ (.head _))))) | exact .tail _ (.tail _ (.tail _ (.tail _ (.tail _ (.tail _ (.head _)))))) | exact .tail _ (.tail _ (.tail _ (.tail _ (.tail _ (.tail _ (.tail _ (.head _))))))))) 2 _ Try.underlying51 rfl infoSp (by decide) rfl ?_)
      | ((with_reducible refine at_load (T := 3) ?_); refine wl_ldc rfl bf 0 rfl _ (hv.vars.row (by first | exact .head _ | exact .tail _ (.head _) | exact .tail _ (.tail _ (.head _)) | exact .tail _ (.tail _ (.tail _ (.head _))) | exact .tail _ (.tail _ (.tail _ (.tail _ (.head _)))) | exact .tail _ (.tail _ (.tail _ (.tail _ (.tail _ (.head _))))) | exact .tail _ (.tail _ (.tail _ (.tail _ (.tail _ (.tail _ (.head _)))))) | exact .tail _ (.tail _ (.tail _ (.tail _ (.tail _ (.tail _ (.tail _ (.head _))))))))) _ Try.underlying3 rfl _ rfl ?_)
      | (go_at_call 23; (with_reducible refine (kW _ _ _ hv HD.out).mono ?_); rintro e w1 ⟨ya, yn, yc, rfl, hv1⟩; replace hv := hv1; clear hv1)
      | ((with_reducible refine at_alloc (T := 51) (dst := some 5) ?_); refine wl_newb rfl #[.int .i64 0, .slice none 0 0] 51 (fun _ => rfl) ?_; intro b5 w2 hm2; replace hv := hv.madeAt hm2; clear hm2)
      | ((with_reducible refine at_store (T := 51) ?_); refine wl_stv rfl b5 rfl _ rfl _ (hv.vars.row (by first | exact .head _ | exact .tail _ (.head _) | exact .tail _ (.tail _ (.head _)) | exact .tail _ (.tail _ (.tail _ (.head _))) | exact .tail _ (.tail _ (.tail _ (.tail _ (.head _)))) | exact .tail _ (.tail _ (.tail _ (.tail _ (.tail _ (.head _))))) | exact .tail _ (.tail _ (.tail _ (.tail _ (.tail _ (.tail _ (.head _)))))) | exact .tail _ (.tail _ (.tail _ (.tail _ (.tail _ (.tail _ (.tail _ (.head _))))))))) (hv.vars.sft (by first | exact .head _ | exact .tail _ (.head _) | exact .tail _ (.tail _ (.head _)) | exact .tail _ (.tail _ (.tail _ (.head _))) | exact .tail _ (.tail _ (.tail _ (.tail _ (.head _)))) | exact .tail _ (.tail _ (.tail _ (.tail _ (.tail _ (.head _))))) | exact .tail _ (.tail _ (.tail _ (.tail _ (.tail _ (.tail _ (.head _)))))) | exact .tail _ (.tail _ (.tail _ (.tail _ (.tail _ (.tail _ (.tail _ (.head _))))))))) 2 infoSp rfl rfl (by simp [Value.oneCell']) ?_; intro w2 hw2; (first | (replace hv := hv.set 0 rfl hw2) | (replace hv := hv.set 1 rfl hw2) | (replace hv := hv.set 2 rfl hw2) | (replace hv := hv.set 3 rfl hw2)); clear hw2; simp only [List.set] at hv)
      | ((with_reducible refine at_load (T := 51) ?_); refine wl_ldv rfl b5 rfl _ (hv.vars.row (by first | exact .head _ | exact .tail _ (.head _) | exact .tail _ (.tail _ (.head _)) | exact .tail _ (.tail _ (.tail _ (.head _))) | exact .tail _ (.tail _ (.tail _ (.tail _ (.head _)))) | exact .tail _ (.tail _ (.tail _ (.tail _ (.tail _ (.head _))))) | exact .tail _ (.tail _ (.tail _ (.tail _ (.tail _ (.tail _ (.head _)))))) | exact .tail _ (.tail _ (.tail _ (.tail _ (.tail _ (.tail _ (.tail _ (.head _))))))))) 2 _ Try.underlying51 rfl infoSp (by decide) rfl ?_)
      | ((with_reducible refine at_load (T := 47) ?_); refine wl_ldc rfl bo 0 rfl _ (hv.vars.row (by first | exact .head _ | exact .tail _ (.head _) | exact .tail _ (.tail _ (.head _)) | exact .tail _ (.tail _ (.tail _ (.head _))) | exact .tail _ (.tail _ (.tail _ (.tail _ (.head _)))) | exact .tail _ (.tail _ (.tail _ (.tail _ (.tail _ (.head _))))) | exact .tail _ (.tail _ (.tail _ (.tail _ (.tail _ (.tail _ (.head _)))))) | exact .tail _ (.tail _ (.tail _ (.tail _ (.tail _ (.tail _ (.tail _ (.head _))))))))) _ Try.underlying47 rfl _ rfl ?_)
      | ((with_reducible refine at_append (t := 47) ?_); replace hv := hv.bsl' (k := 2) (n := 1) (c := [.int .i64 y1, .slice ya yn yc]) ⟨rfl, made_alloc _ #[.int .i64 y1, .slice ya yn yc] 51⟩ rfl rfl (by unfold maxLen; omega); refine wl_appO (A := [_, _, _, _]) (B := L) rfl rfl HO.out hv (.agg #[.int .i64 0, .slice none 0 0]) 32 Try.underlying47 infoSpz rfl (by decide) rfl (hv.rd Mem.z) (hB0.out _ _ _) hB1.out hB2.out ?_; intro v2 w7 O2 hO2 hv1; replace hv := hv1; clear hv1; obtain ⟨ua, un, uc, rfl, _⟩ := id hO2.slice; replace hO2 := Lib.hid hO2; simp only [List.cons_append, List.nil_append] at hv)
      | ((with_reducible refine at_store (T := 47) ?_); refine wl_stc rfl bo 0 rfl (.slice ua un uc) rfl _ (hv.vars.row (by first | exact .head _ | exact .tail _ (.head _) | exact .tail _ (.tail _ (.head _)) | exact .tail _ (.tail _ (.tail _ (.head _))) | exact .tail _ (.tail _ (.tail _ (.tail _ (.head _)))) | exact .tail _ (.tail _ (.tail _ (.tail _ (.tail _ (.head _))))) | exact .tail _ (.tail _ (.tail _ (.tail _ (.tail _ (.tail _ (.head _)))))) | exact .tail _ (.tail _ (.tail _ (.tail _ (.tail _ (.tail _ (.tail _ (.head _))))))))) (hv.vars.sft (by first | exact .head _ | exact .tail _ (.head _) | exact .tail _ (.tail _ (.head _)) | exact .tail _ (.tail _ (.tail _ (.head _))) | exact .tail _ (.tail _ (.tail _ (.tail _ (.head _)))) | exact .tail _ (.tail _ (.tail _ (.tail _ (.tail _ (.head _))))) | exact .tail _ (.tail _ (.tail _ (.tail _ (.tail _ (.tail _ (.head _)))))) | exact .tail _ (.tail _ (.tail _ (.tail _ (.tail _ (.tail _ (.tail _ (.head _))))))))) (by kernel_rfl) rfl (by simp) ?_; intro w2 hw2; (first | (replace hv := hv.set 0 rfl hw2) | (replace hv := hv.set 1 rfl hw2) | (replace hv := hv.set 2 rfl hw2) | (replace hv := hv.set 3 rfl hw2)); clear hw2; simp only [List.set] at hv; simp only [List.setIfInBounds_toArray, List.set_cons_succ, List.set_cons_zero] at hv))
    go_end0
    exact ⟨_, O2, [(y1, .slice ya yn yc, yd)], [_, _], rfl, hv.drop, by rw [cellsS_snoc]; exact hO2.out, rfl, fun p hp => by rw [List.mem_singleton.1 hp]; exact Mem.s Mem.z, Nat.le_refl _⟩
end Go.Proofs.Ytpbeemgigpaacaa
