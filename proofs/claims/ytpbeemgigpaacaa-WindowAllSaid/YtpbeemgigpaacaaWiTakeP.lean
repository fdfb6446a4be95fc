/-
  Take: what its last loop comes to, in plain words; clones that may be nil.
-/
import Derived.Test.YtpbeemgigpaacaaWiRead
import Derived.Test.YtpbeemgigpaacaaWiJoin
import Derived.Test.YtpbeemgigpaacaaWiFresh2
set_option linter.unusedVariables false
set_option linter.unusedSimpArgs false
namespace Go.Proofs.Wi
open Go Go.RowKit
def pcOf (next : Nat) (x : SpV) : PcV := ((next + x.1.toNat) % 4294967296, x.2.1, x.2.2)
/-- The last loop: the next byte, the bytes, how many came, the pieces. -/
def finT (next : Nat) : Nat → List Nat → Nat → List PcV → List SpV → Nat × List Nat × Nat × List PcV
  | nx, B, n, P, [] => (nx, B, n, P)
  | nx, B, n, P, x :: r => if x.1 = 0 then finT next ((nx + x.2.2.length) % 4294967296) (B ++ x.2.2) x.2.2.length P r else finT next nx B n (P ++ [pcOf next x]) r
theorem finT_zero {next nx n : Nat} {B : List Nat} {P : List PcV} {x : SpV} {r : List SpV} (h : x.1 = 0) : finT next nx B n P (x :: r) = finT next ((nx + x.2.2.length) % 4294967296) (B ++ x.2.2) x.2.2.length P r := by
  conv => lhs; unfold finT
  exact if_pos h
theorem finT_else {next nx n : Nat} {B : List Nat} {P : List PcV} {x : SpV} {r : List SpV} (h : ¬ x.1 = 0) : finT next nx B n P (x :: r) = finT next nx B n (P ++ [pcOf next x]) r := by
  conv => lhs; unfold finT
  exact if_neg h
theorem finT_rest {next nx n : Nat} {B : List Nat} : ∀ {J : List SpV} {P : List PcV}, (∀ x ∈ J, ¬ x.1 = 0) → finT next nx B n P J = (nx, B, n, P ++ J.map (pcOf next)) := by
  intro J
  induction J with
  | nil => intro P _; unfold finT; rw [List.map_nil, List.append_nil]
  | cons x r ih =>
    intro P h
    rw [finT_else (h x (List.mem_cons_self ..)), ih fun y hy => h y (List.mem_cons_of_mem _ hy), List.append_assoc]; rfl
theorem sep_nz {a : Int} {l : List Sp} (h0 : 0 ≤ a) (h : Sep a l) : ∀ x ∈ l, ¬ x.1 = 0 := fun x hx => by have := h.lo x hx; omega
/-- What merging comes to. -/
theorem merge_ok {s : St} (h : chk s = true) {seq : Nat} {data : List Nat} {srt : List Sp} (hp : srt.Perm (allL s seq data)) (hs : srt.Pairwise fun x y => x.1 ≤ y.1) : ∀ x ∈ merge [] srt, 0 ≤ x.1 ∧ x.1 + x.2.length ≤ 256 ∧ x.2 ≠ [] := by
  obtain ⟨a1, a2, a3⟩ := all_cont h seq data
  have hr := (chk_spans h).2.2
  have hd : srt.Pairwise dis := hp.symm.pairwise_iff (fun h => dis_symm h) |>.1 a1
  have ho : Ord 0 srt := ord_of_sorted hs hd fun x hx => by
    have := a2 x (hp.mem_iff.1 hx)
    exact ⟨this.1, this.2.1⟩
  obtain ⟨m1, m2⟩ := merge_sep (a := -1) (Int.le_refl _) srt [] trivial (fun _ h => (List.not_mem_nil h).elim) (by simpa using ho)
  have hne : ∀ {a : Int} {l : List Sp}, Ord a l → ∀ x ∈ l, x.2 ≠ [] := fun {a l} ho x hx => by
    induction l generalizing a with
    | nil => cases hx
    | cons y r ih => exact (List.mem_cons.1 hx).elim (fun e => e ▸ ho.2.1) (ih ho.2.2)
  intro x hx
  have n1 := hne m1.ord x hx
  have n2 := m1.lo x hx
  have hxp := List.length_pos_iff.2 n1
  refine ⟨by omega, ?_, n1⟩
  have hc : cov x (x.1 + x.2.length - 1).toNat := by unfold cov; omega
  have hg := cont_of_mem m1.ord.dis hx hc
  obtain ⟨v, hv⟩ := cov_some hc
  rw [hv, m2, List.nil_append, cont_perm hp hd, a3] at hg
  have hlt : ((x.1 + x.2.length - 1).toNat : Int) < room s := by
    rcases Int.lt_or_le ((x.1 + x.2.length - 1).toNat : Int) (room s) with g | g
    · exact g
    · rw [gF_out (by omega)] at hg; cases hg
  omega
theorem spOf_cons {x : SpV} {l : List SpV} : spOf (x :: l) = (x.1, x.2.2) :: spOf l := rfl
theorem spOf_mem {l : List SpV} {x : SpV} (h : x ∈ l) : (x.1, x.2.2) ∈ spOf l := List.mem_map.2 ⟨x, h, rfl⟩
theorem finT_took {next : Nat} {bs : List Nat} {l : List PcV} (hnx : next < 4294967296) (h : chk (stOf next bs l) = true) {seq : Nat} {data : List Nat} {srt J : List SpV} (hp : (spOf srt).Perm (allL (stOf next bs l) seq data)) (hs : (spOf srt).Pairwise fun x y => x.1 ≤ y.1) (hJ : spOf J = merge [] (spOf srt))
    {nx n : Nat} {B : List Nat} {P : List PcV} (hf : finT next next bs 0 [] J = (nx, B, n, P)) : ∃ b rest, Took (gF (stOf next bs l) seq data) b rest ∧ B = bs ++ b ∧ n = b.length ∧ stOf nx B P = outS (stOf next bs l) b rest := by
  obtain ⟨b, rest, hm, ht⟩ := took_of_merge h hp hs
  have hz := sep_nz (by omega) ht.sep
  have key : ∀ {J' : List SpV}, spOf J' = rest → (∀ x ∈ J', ¬ x.1 = 0) := fun {J'} e x hx => by
    have := hz _ (e ▸ spOf_mem hx)
    exact this
  have pc : ∀ {J' : List SpV}, spOf J' = rest → (J'.map (pcOf next)).map (fun p => (p.1, p.2.2)) = rest.map fun x => ((next + x.1.toNat) % 4294967296, x.2) := fun {J'} e => by
    subst e
    simp [spOf, pcOf]
  rw [← hJ] at hm
  refine ⟨b, rest, ht, ?_⟩
  rcases hm with ⟨hb, e⟩ | ⟨rfl, e⟩
  · cases J with
    | nil => cases e
    | cons x r =>
      rw [spOf_cons] at e
      obtain ⟨e1, e2⟩ := List.cons.inj e
      obtain ⟨x1, xv, xd⟩ := x
      cases e1
      rw [finT_zero rfl, finT_rest (key e2), List.nil_append] at hf
      cases hf
      refine ⟨rfl, rfl, ?_⟩
      unfold stOf outS
      simp only
      rw [pc e2]
  · rw [finT_rest (key e), List.nil_append] at hf
    cases hf
    refine ⟨by rw [List.append_nil], rfl, ?_⟩
    unfold stOf outS
    simp only
    rw [pc e, List.append_nil, List.length_nil, Nat.add_zero, Nat.mod_eq_of_lt hnx]
end Go.Proofs.Wi
namespace Go
open Go.RowKit
theorem Any.VE.baseR {w0 w w1 : World} {L : List (Nat × Array Value)} {R : List (Nat × Value × List Value)} {E : Any.Env} (h : Any.VE ⟨w0, w.drewN 1, L.map (·.1)⟩ E w1) (hm : Mem w0 w L R) : Mem w1 w1 [] R :=
  ⟨⟨Below.refl _ _, fun p hp => (List.not_mem_nil hp).elim, List.nodup_nil⟩, fun x hx => by
    obtain ⟨h1, h2⟩ := Any.rd_start (k := x.1) (v := x.2.1) (c := x.2.2) hm hx
    exact ⟨h.rdold h1 h2, fun _ _ _ _ _ _ p hp => (List.not_mem_nil hp).elim⟩⟩
theorem perm_own {α : Type} (O L : List α) (x y : α) : (O ++ x :: y :: L).Perm (y :: x :: (O ++ L)) :=
  (List.perm_middle.trans (List.perm_middle.cons x)).trans (List.Perm.swap ..)
theorem perm_swap {α : Type} (O U L : List α) (x y z : α) : (x :: y :: z :: (O ++ (U ++ L))).Perm (U ++ (x :: y :: z :: (O ++ L))) := by
  have h := List.perm_append_comm_assoc (x :: y :: z :: O) U L
  exact h
end Go
namespace Go.Proofs.Ytpbeemgigpaacaa
open Go.Proofs.Wi Go.RowKit
theorem SClone_own (ao : Option Addr) (n cap : Nat) (c : List Value) (w0 w : World) (L : List (Nat × Array Value)) (R : List (Nat × Value × List Value)) (hv : Mem w0 w L R) (hm : (2, .slice ao n cap, c) ∈ R) (h1 : ∀ x ∈ c, x.oneCell' = true) (hn : n ≤ 1000000) :
    Calls Try.prog 21 #[.slice ao n cap] w fun e w' => ∃ v O, e = .returned v ∧ OwnL 2 v c O ∧ Mem w0 w' (O ++ L) R := by
  cases ao with
  | none =>
    obtain ⟨ao', n', cap', e, g1, g2, g3, g4, g5⟩ := id (hv.rd hm)
    cases e
    obtain ⟨rfl, rfl⟩ := g4 rfl
    have hc : c = [] := List.length_eq_zero_iff.1 (by omega)
    subst hc
    refine (SClone_nil w).mono ?_
    rintro e w' ⟨rfl, rfl⟩
    exact ⟨_, [], rfl, OwnL.nil 2, hv⟩
  | some a =>
    refine (SClone_row a n cap c w (hv.rd hm) h1 hn).mono ?_
    rintro e w' ⟨v, x, rfl, hr, h2, h3, h4, h5⟩
    exact ⟨v, [x], rfl, OwnL.row hr, hv.lay' h3 h2 h4 h5⟩
theorem cellsS_one (l : List SpV) (hg : ∀ p ∈ l, p.2.1.oneCell' = true) : ∀ x ∈ cellsS l, x.oneCell' = true := by
  intro x hx
  obtain ⟨p, hp, hx⟩ := List.mem_flatMap.1 hx
  rcases List.mem_cons.1 hx with rfl | hx
  · rfl
  · rw [List.mem_singleton.1 hx]; exact hg p hp
theorem built_str (x : Int) (a : Option Addr) (n c : Nat) : Try.prog.built 26 [(0, .int .u32 x), (1, .slice a n c)] = some #[.int .u32 x, .slice a n c, .slice none 0 0] := by kernel_rfl
theorem built_pc (x : Int) (a : Option Addr) (n c : Nat) : Try.prog.built 45 [(0, .int .u32 x), (1, .slice a n c)] = some #[.int .u32 x, .slice a n c] := by kernel_rfl
theorem infoPcz : (Try.prog.info? 45).map (fun i => (i.zero, i.size, i.bytes)) = some (some (.agg #[.int .u32 0, .slice none 0 0]), 2, 32) := by kernel_rfl
end Go.Proofs.Ytpbeemgigpaacaa
