/-
 A ring of four and the buffers beside it: what stands still while memory is written elsewhere. No program in sight.
-/
import Derived.Test.YtjmibgomkgkhnaaGreatQuRV
import Derived.Test.YtjmibgomkgkhnaaGreatVrMem
set_option linter.unusedVariables false
set_option linter.unusedSimpArgs false
namespace Go.Proofs.Qu
open Go Go.RowKit Go.Proofs.Nm
def Frame (M M' : List Nat) (lo hi : Nat) : Prop := ∀ q m, q + m ≤ lo ∨ hi ≤ q → getB M' q m = getB M q m
theorem frame_put {M D : List Nat} {q : Nat} (h : q + D.length ≤ M.length) : Frame M (putB M q D) q (q + D.length) := fun p m hp => getB_apart h hp
theorem frame_putN {M : List Nat} {q a k : Nat} (h : q + k ≤ M.length) : Frame M (putB M q (leB a k)) q (q + k) := fun p m hp => getB_apart (by rw [leB_len]; exact h) (by rw [leB_len]; exact hp)
theorem Frame.trans {M M' M2 : List Nat} {lo hi lo' hi' : Nat} (h : Frame M M' lo hi) (h' : Frame M' M2 lo' hi') {l u : Nat} (h1 : l ≤ lo) (h2 : l ≤ lo') (h3 : hi ≤ u) (h4 : hi' ≤ u) : Frame M M2 l u := fun p m hp => by
 rw [h' p m (by omega), h p m (by omega)]
theorem Frame.getN {M M' : List Nat} {lo hi q m : Nat} (h : Frame M M' lo hi) (hq : q + m ≤ lo ∨ hi ≤ q) : getN M' q m = getN M q m := by
 unfold Qu.getN
 rw [h q m hq]
theorem Frame.chain {M M' : List Nat} {lo hi mn base n r : Nat} {p : Pt} (h : Frame M M' lo hi) (hq : base + 16 * r + 16 ≤ lo ∨ hi ≤ base + 16 * r) (hc : ChainAt mn M base n r [p]) : ChainAt mn M' base n r [p] := by
 obtain ⟨h1, f, x, hd, h2⟩ := hc
 refine ⟨h1, f, x, ?_, h2.1, h2.2.1, h2.2.2.1, h2.2.2.2.1, fun hne => absurd rfl hne⟩
 unfold DescAt at *
 rw [h.getN (by omega), h.getN (by omega), h.getN (by omega), h.getN (by omega)]
 exact hd
theorem frame_setD {M : List Nat} {p a l f x : Nat} (h : p + 16 ≤ M.length) : Frame M (setD M p a l f x) p (p + 16) := by
 have e1 := putN_len (M := M) (p := p) (k := 8) (a := a) (by omega)
 have e2 := putN_len (M := putB M p (leB a 8)) (p := p + 8) (k := 4) (a := l) (by omega)
 have e3 := putN_len (M := putB (putB M p (leB a 8)) (p + 8) (leB l 4)) (p := p + 8 + 4) (k := 2) (a := f) (by omega)
 unfold setD
 have f1 := frame_putN (M := M) (q := p) (a := a) (k := 8) (by omega)
 have f2 := frame_putN (M := putB M p (leB a 8)) (q := p + 8) (a := l) (k := 4) (by omega)
 have f3 := frame_putN (M := putB (putB M p (leB a 8)) (p + 8) (leB l 4)) (q := p + 8 + 4) (a := f) (k := 2) (by omega)
 have f4 := frame_putN (M := putB (putB (putB M p (leB a 8)) (p + 8) (leB l 4)) (p + 8 + 4) (leB f 2)) (q := p + 8 + 4 + 2) (a := x) (k := 2) (by omega)
 exact ((f1.trans f2 (l := p) (u := p + 16) (by omega) (by omega) (by omega) (by omega)).trans f3 (l := p) (u := p + 16) (by omega) (by omega) (by omega) (by omega)).trans f4 (by omega) (by omega) (by omega) (by omega)
section
variable {mn : Nat} {M : List Nat} {base av : Nat} {free : List Nat} {p : Pt} (h : AddOk mn M base 4 free [p])
include h
end
end Go.Proofs.Qu
