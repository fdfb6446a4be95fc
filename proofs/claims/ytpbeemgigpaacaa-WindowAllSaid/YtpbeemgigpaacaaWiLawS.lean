/-
  The window's calls at the laws' level: a stream that lies in memory.
-/
import Derived.Test.YtpbeemgigpaacaaWiLawK
import Derived.Test.YtpbeemgigpaacaaWiFew
import Derived.Test.YtpbeemgigpaacaaWiRChk
import Derived.Test.YtpbeemgigpaacaaWiRead
set_option linter.unusedVariables false
set_option linter.unusedSimpArgs false
namespace Go.Proofs.Wi
open Go Go.RowKit
/-- The stream s is read: number, bytes, pieces. -/
structure InS (R : List (Nat × Value × List Value)) (nx : Nat) (bv pv : Value) (s : St) (l : List PcV) : Prop where
  b : (1, bv, cellsB s.bytes) ∈ R
  p : (2, pv, cellsP l) ∈ R
  all : AllP R l
  st : stOf nx s.bytes l = s
theorem InS.mono {R R' : List (Nat × Value × List Value)} {nx : Nat} {bv pv : Value} {s : St} {l : List PcV} (h : InS R nx bv pv s l) (hs : ∀ x ∈ R, x ∈ R') : InS R' nx bv pv s l := ⟨hs _ h.b, hs _ h.p, h.all.mono hs, h.st⟩
theorem InS.app {R : List (Nat × Value × List Value)} {nx : Nat} {bv pv : Value} {s : St} {l : List PcV} (h : InS R nx bv pv s l) (R' : List (Nat × Value × List Value)) : InS (R' ++ R) nx bv pv s l := h.mono fun _ hx => List.mem_append_right _ hx
theorem InS.con {R : List (Nat × Value × List Value)} {nx : Nat} {bv pv : Value} {s : St} {l : List PcV} (h : InS R nx bv pv s l) (y : Nat × Value × List Value) : InS (y :: R) nx bv pv s l := h.mono fun _ hx => Mem.s hx
theorem InS.nx {R : List (Nat × Value × List Value)} {nx : Nat} {bv pv : Value} {s : St} {l : List PcV} (h : InS R nx bv pv s l) : nx = s.next := by rw [← h.st]; rfl
theorem InS.ps {R : List (Nat × Value × List Value)} {nx : Nat} {bv pv : Value} {s : St} {l : List PcV} (h : InS R nx bv pv s l) : l.map (fun p => (p.1, p.2.2)) = s.ps := by rw [← h.st]; rfl
theorem InS.good {R : List (Nat × Value × List Value)} {nx : Nat} {bv pv : Value} {s : St} {l : List PcV} (h : InS R nx bv pv s l) (hg : goodSt s) : ∀ p ∈ l, goodB p.2.2 := fun p hp => hg.2 (p.1, p.2.2) (by rw [← h.ps]; exact List.mem_map.2 ⟨p, hp, rfl⟩)
theorem InS.small {R : List (Nat × Value × List Value)} {nx : Nat} {bv pv : Value} {s : St} {l : List PcV} (h : InS R nx bv pv s l) (hc : chk s = true) : l.length ≤ 256 ∧ s.bytes.length ≤ 256 ∧ ∀ p ∈ l, p.2.2.length ≤ 256 := chk_small (by rw [h.st]; exact hc)
end Go.Proofs.Wi
namespace Go.Proofs.Ytpbeemgigpaacaa
open Go.Proofs.Wi Go.RowKit
section
variable {w0 w : World} {L : List (Nat × Array Value)} {R : List (Nat × Value × List Value)} {nx bn bc pn pc : Nat} {ba pa : Option Addr} {s : St} {l : List PcV}
def TakeS (w0 : World) (L : List (Nat × Array Value)) (R : List (Nat × Value × List Value)) (s : St) (seq : Nat) (data : List Nat) (e : Ending) (w' : World) : Prop :=
  ∃ (nx : Nat) (ba : Option Addr) (bn bc : Nat) (pa : Option Addr) (pn pc : Nat) (l : List PcV) (R' : List (Nat × Value × List Value)) (b : List Nat) (rest : List Sp),
    e = .returned (.tuple #[.agg #[.int .u32 (nx : Nat), .slice ba bn bc, .slice pa pn pc], .int .i64 (b.length : Nat)]) ∧ Mem w0 w' L (R' ++ R) ∧ InS (R' ++ R) nx (.slice ba bn bc) (.slice pa pn pc) (outS s b rest) l ∧ Took (gF s seq data) b rest
theorem Take_S (hv : Mem w0 w L R) (h : InS R nx (.slice ba bn bc) (.slice pa pn pc) s l) (hck : chk s = true) (hnx : nx < 4294967296) (seq : Nat) {da : Option Addr} {dn dc : Nat} {data : List Nat} (hd : (1, .slice da dn dc, cellsB data) ∈ R) (hdn : dn ≤ 4096) :
    Calls Try.prog 10 #[.agg #[.int .u32 (nx : Nat), .slice ba bn bc, .slice pa pn pc], .int .u32 (seq : Nat), .slice da dn dc] w (TakeS w0 L R s seq data) := by
  refine (Take_law nx ba pa bn bc pn pc s.bytes l seq da dn dc data w0 w L R hv h.b h.p h.all hd (by rw [h.st]; exact hck) hnx hdn).mono ?_
  rintro e w' ⟨nx', ba', bn', bc', pa', pn', pc', bs', l', R', b, rest, rfl, g1, g2, g3, g4, g5, g6⟩
  rw [h.st] at g5 g6
  have hbs : (outS s b rest).bytes = bs' := by rw [← g6]; rfl
  exact ⟨nx', ba', bn', bc', pa', pn', pc', l', R', b, rest, rfl, g1, ⟨by rw [hbs]; exact g2, g3, g4, by rw [hbs]; exact g6⟩, g5⟩
theorem Check_S (hv : Mem w0 w L R) (h : InS R nx (.slice ba bn bc) (.slice pa pn pc) s l) (hck : chk s = true) : Calls Try.prog 12 #[.agg #[.int .u32 (nx : Nat), .slice ba bn bc, .slice pa pn pc]] w fun e w' => e = .returned (.bool true) ∧ New w w' := by
  obtain ⟨c1, c2, c3⟩ := h.small hck
  have := Check_any nx ba pa bn bc pn pc s.bytes l w0 w L R hv h.b h.p h.all (by have := len_rdP (hv.rd h.p); omega) (by omega) (fun p hp => by have := c3 p hp; omega)
  rwa [h.st, hck] at this
theorem Room_S (hv : Mem w0 w L R) (h : InS R nx (.slice ba bn bc) (.slice pa pn pc) s l) (hck : chk s = true) : Calls Try.prog 17 #[.agg #[.int .u32 (nx : Nat), .slice ba bn bc, .slice pa pn pc]] w fun e w' => e = .returned (.int .i64 (room s)) ∧ New w w' := by
  obtain ⟨c1, c2, c3⟩ := h.small hck
  have := Room_any nx ba pa bn bc pn pc s.bytes l w0 w L R hv h.b h.p h.all (by have := len_rdP (hv.rd h.p); omega) (by omega) (fun p hp => by have := c3 p hp; omega)
  rwa [h.st] at this
def ReadS (w0 : World) (L : List (Nat × Array Value)) (R : List (Nat × Value × List Value)) (s : St) (nx : Nat) (pa : Option Addr) (pn pc : Nat) (l : List PcV) (k : Nat) (e : Ending) (w' : World) : Prop :=
  ∃ ba bn bc ga gn gc R', e = .returned (.tuple #[.agg #[.int .u32 (nx : Nat), .slice ba bn bc, .slice pa pn pc], .slice ga gn gc]) ∧ Mem w0 w' L (R' ++ R) ∧ InS (R' ++ R) nx (.slice ba bn bc) (.slice pa pn pc) ⟨s.next, s.bytes.drop k, s.ps⟩ l ∧ (1, .slice ga gn gc, cellsB (s.bytes.take k)) ∈ R' ++ R
theorem Read_S (hv : Mem w0 w L R) (h : InS R nx (.slice ba bn bc) (.slice pa pn pc) s l) (hck : chk s = true) (n : Int) : Calls Try.prog 14 #[.agg #[.int .u32 (nx : Nat), .slice ba bn bc, .slice pa pn pc], .int .i64 n] w (ReadS w0 L R s nx pa pn pc l (clampN n s.bytes.length)) := by
  obtain ⟨c1, c2, c3⟩ := h.small hck
  refine (Read_yes nx ba pa bn bc pn pc s.bytes l n w0 w L R hv h.b h.p h.all (by have := len_rdP (hv.rd h.p); omega) (by omega) (fun p hp => by have := c3 p hp; omega) (by rw [h.st]; exact hck)).mono ?_
  rintro e w' ⟨ba', bn', bc', ga, gn, gc, rfl, g1⟩
  refine ⟨ba', bn', bc', ga, gn, gc, [(1, .slice ba' bn' bc', _), (1, .slice ga gn gc, _)], rfl, g1, ⟨Mem.z, Mem.s (Mem.s h.p), fun p hp => Mem.s (Mem.s (h.all p hp)), ?_⟩, Mem.s Mem.z⟩
  have hn := h.nx
  have hp := h.ps
  unfold stOf
  rw [hn, hp]
theorem Same_S {mx dn dc qn qc : Nat} {da qa : Option Addr} {m : List PcV} (hv : Mem w0 w L R) (h : InS R nx (.slice ba bn bc) (.slice pa pn pc) s l) (h' : InS R mx (.slice da dn dc) (.slice qa qn qc) s m) (hl : l.length ≤ 1000) (hg : goodSt s) :
    Calls Try.prog 11 #[.agg #[.int .u32 (nx : Nat), .slice ba bn bc, .slice pa pn pc], .agg #[.int .u32 (mx : Nat), .slice da dn dc, .slice qa qn qc]] w fun e w' => e = .returned (.bool true) ∧ New w w' := by
  obtain rfl : nx = mx := by rw [h.nx, h'.nx]
  have hlm : l.map (fun p => (p.1, p.2.2)) = m.map (fun p => (p.1, p.2.2)) := by rw [h.ps, h'.ps]
  have e1 := len_rdP (hv.rd h.p)
  have e2 := len_rdP (hv.rd h'.p)
  have e3 : l.length = m.length := by have := congrArg List.length hlm; simpa using this
  obtain rfl : pn = qn := by omega
  exact Same_alike nx ba pa bn bc pn pc da qa dn dc qc s.bytes l m w0 w L R hv h.b h'.b h.p h'.p h.all h'.all hlm (by omega) hg.1 (h.good hg)
theorem RCheck_S (hv : Mem w0 w L R) (h : InS R nx (.slice ba bn bc) (.slice pa pn pc) s l) (hf : fewB s.bytes l = true) (hnx : nx < 4294967296) (hsq : ∀ p ∈ l, p.1 < 4294967296) : Calls Try.prog 8 #[.agg #[.int .u32 (nx : Nat), .slice ba bn bc, .slice pa pn pc]] w fun e w' => e = .returned (.bool (chk s)) ∧ New w w' := by
  unfold fewB at hf
  simp only [Bool.and_eq_true, decide_eq_true_eq, List.all_eq_true] at hf
  have := RCheck_any nx ba pa bn bc pn pc s.bytes l w0 w L R hv h.b h.p h.all (by have := len_rdP (hv.rd h.p); omega) (by omega) (fun p hp => by have := hf.2 p hp; omega) hnx hsq
  rwa [h.st] at this
theorem Few_S (hv : Mem w0 w L R) (h : InS R nx (.slice ba bn bc) (.slice pa pn pc) s l) : Calls Try.prog 7 #[.agg #[.int .u32 (nx : Nat), .slice ba bn bc, .slice pa pn pc]] w fun e w' => e = .returned (.bool (fewB s.bytes l)) ∧ New w w' := by
  rcases Nat.lt_or_ge 200 pn with g | g
  · exact Few_great nx ba pa bn bc pn pc s.bytes l w0 w L R hv h.b h.p h.all g
  · exact Few_small nx ba pa bn bc pn pc s.bytes l w0 w L R hv h.b h.p h.all g
end
end Go.Proofs.Ytpbeemgigpaacaa
