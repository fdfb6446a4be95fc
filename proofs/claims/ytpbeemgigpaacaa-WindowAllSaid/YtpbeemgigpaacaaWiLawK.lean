/-
  Take for a stream that may be: what it needs follows from that.
-/
import Derived.Test.YtpbeemgigpaacaaWiTake
import Derived.Test.YtpbeemgigpaacaaWiPlain4
import Derived.Test.YtpbeemgigpaacaaWiStr
set_option linter.unusedVariables false
set_option linter.unusedSimpArgs false
namespace Go.Proofs.Wi
open Go Go.RowKit
theorem sep_count : ∀ {l : List Sp} {a r : Int}, Sep a l → (∀ x ∈ l, x.1 + x.2.length ≤ r) → a ≤ r → a + l.length ≤ r := by
  intro l
  induction l with
  | nil => intro a r _ _ h; simpa using h
  | cons x t ih =>
    intro a r h1 h2 h3
    have g := h2 x (List.mem_cons_self ..)
    have := ih h1.2.2 (fun y hy => h2 y (List.mem_cons_of_mem _ hy)) g
    have p := List.length_pos_iff.2 h1.2.1
    have q := h1.1
    rw [List.length_cons]
    omega
theorem chk_small {nx : Nat} {bs : List Nat} {l : List PcV} (h : chk (stOf nx bs l) = true) : l.length ≤ 256 ∧ bs.length ≤ 256 ∧ ∀ p ∈ l, p.2.2.length ≤ 256 := by
  obtain ⟨s1, s2, s3, s4⟩ := chk_spans h
  have hb : (stOf nx bs l).bytes.length = bs.length := rfl
  have hl : (spans (stOf nx bs l)).length = l.length := by rw [← spOf_spV nx bs l]; simp [spOf, spV]
  have c := sep_count s1 (r := 256) (fun x hx => by have := s2 x hx; omega) (by omega)
  refine ⟨by omega, s4, fun p hp => ?_⟩
  have hm : (dif p.1 nx, p.2.2) ∈ spans (stOf nx bs l) := by
    rw [← spOf_spV nx bs l]
    exact List.mem_map.2 ⟨(dif p.1 nx, p.2.1, p.2.2), List.mem_map.2 ⟨p, hp, rfl⟩, rfl⟩
  have g1 := s2 _ hm
  have g2 := s1.lo _ hm
  simp only at g1 g2
  omega
def goodSt (s : St) : Prop := goodB s.bytes ∧ ∀ p ∈ s.ps, goodB p.2
theorem good_cont {l : List Sp} (h : ∀ x ∈ l, goodB x.2) {k v : Nat} (hc : cont l k = some v) : v < 256 := by
  induction l with
  | nil => cases hc
  | cons x r ih =>
    rw [cont_cons] at hc
    split at hc
    · exact h x (List.mem_cons_self ..) v (List.mem_of_getElem? hc)
    · exact ih (fun y hy => h y (List.mem_cons_of_mem _ hy)) hc
theorem good_spans {s : St} (h : goodSt s) : ∀ x ∈ spans s, goodB x.2 := fun x hx => by
  obtain ⟨p, hp, rfl⟩ := List.mem_map.1 hx
  exact h.2 p hp
theorem good_gF {s : St} (hs : goodSt s) {seq : Nat} {data : List Nat} (hd : goodB data) {k v : Nat} (h : gF s seq data k = some v) : v < 256 := by
  unfold gF at h
  split at h
  · cases hc : cont (spans s) k with
    | some u =>
      rw [hc] at h
      cases h
      exact good_cont (good_spans hs) hc
    | none =>
      rw [hc, Option.none_or] at h
      split at h
      · have := List.mem_of_getElem? h
        exact hd v (List.mem_of_mem_take this)
      · cases h
  · cases h
theorem good_out {s : St} (hs : goodSt s) {seq : Nat} {data : List Nat} (hd : goodB data) {b : List Nat} {rest : List Sp} (h : Took (gF s seq data) b rest) : goodSt (outS s b rest) := by
  refine ⟨fun x hx => ?_, fun p hp v hv => ?_⟩
  · rcases List.mem_append.1 hx with hx | hx
    · exact hs.1 x hx
    · obtain ⟨i, hi, rfl⟩ := List.mem_iff_getElem.1 hx
      have := h.get i hi
      rw [List.getElem?_eq_getElem hi] at this
      exact good_gF hs hd this
  · obtain ⟨x, hx, rfl⟩ := List.mem_map.1 hp
    obtain ⟨i, hi, rfl⟩ := List.mem_iff_getElem.1 hv
    simp only at hi
    have h0 := h.sep.lo x hx
    have hc : cov x (x.1 + (i : Int)).toNat := by unfold cov; omega
    have := cont_of_mem h.sep.ord.dis hx hc
    rw [show (((x.1 + (i : Int)).toNat : Int) - x.1).toNat = i from by omega, List.getElem?_eq_getElem hi, h.cont] at this
    split at this
    · exact good_gF hs hd this
    · cases this
end Go.Proofs.Wi
namespace Go.Proofs.Ytpbeemgigpaacaa
open Go.Proofs.Wi Go.RowKit
/-- What Take answers. -/
def TakeR (w0 : World) (L : List (Nat × Array Value)) (R : List (Nat × Value × List Value)) (s : St) (seq : Nat) (data : List Nat) (e : Ending) (w' : World) : Prop :=
  ∃ (nx : Nat) (ba : Option Addr) (bn bc : Nat) (pa : Option Addr) (pn pc : Nat) (bs : List Nat) (l : List PcV) (R' : List (Nat × Value × List Value)) (b : List Nat) (rest : List Sp),
    e = .returned (.tuple #[.agg #[.int .u32 (nx : Nat), .slice ba bn bc, .slice pa pn pc], .int .i64 (b.length : Nat)]) ∧ Mem w0 w' L (R' ++ R) ∧ (1, .slice ba bn bc, cellsB bs) ∈ R' ++ R ∧ (2, .slice pa pn pc, cellsP l) ∈ R' ++ R ∧ AllP (R' ++ R) l ∧ Took (gF s seq data) b rest ∧ stOf nx bs l = outS s b rest
theorem TakeW.fin {w0 : World} {L : List (Nat × Array Value)} {X R : List (Nat × Value × List Value)} {nx : Nat} {bs : List Nat} {l : List PcV} {seq : Nat} {data : List Nat} {e : Ending} {w' : World} (hck : chk (stOf nx bs l) = true) (hnx : nx < 4294967296)
    (h : TakeW w0 L (X ++ R) nx bs (allL (stOf nx bs l) seq data) e w') : TakeR w0 L R (stOf nx bs l) seq data e w' := by
  obtain ⟨nx', n, B, P, ba, pa, bn, bc, pn, pc, R', srt, J, rfl, hm, ha, hp, hs, hj, hf⟩ := h
  obtain ⟨b, rest, ht, h1, h2, h3⟩ := finT_took hnx hck hp hs hj hf
  refine ⟨nx', ba, bn, bc, pa, pn, pc, B, P, (1, .slice ba bn bc, cellsB B) :: (2, .slice pa pn pc, cellsP P) :: (R' ++ X), b, rest, by rw [h2], by simpa using hm, Mem.z, Mem.s Mem.z, fun p hp => ?_, ht, h3⟩
  have := ha p hp
  exact Mem.s (Mem.s (by simpa using this))
theorem Take_law (nx : Nat) (ba pa : Option Addr) (bn bc pn pc : Nat) (bs : List Nat) (l : List PcV) (seq : Nat) (da : Option Addr) (dn dc : Nat) (data : List Nat) (w0 w : World) (L : List (Nat × Array Value)) (R : List (Nat × Value × List Value)) (hv0 : Mem w0 w L R)
    (hb : (1, .slice ba bn bc, cellsB bs) ∈ R) (hp : (2, .slice pa pn pc, cellsP l) ∈ R) (hal : AllP R l) (hd : (1, .slice da dn dc, cellsB data) ∈ R) (hck : chk (stOf nx bs l) = true) (hnx : nx < 4294967296) (hdn : dn ≤ 4096) :
    Calls Try.prog 10 #[.agg #[.int .u32 (nx : Nat), .slice ba bn bc, .slice pa pn pc], .int .u32 (seq : Nat), .slice da dn dc] w (TakeR w0 L R (stOf nx bs l) seq data) := by
  obtain ⟨c1, c2, c3⟩ := chk_small hck
  have hpn : pn ≤ 1000 := by have := len_rdP (hv0.rd hp); omega
  have hbn : bs.length ≤ 1000000 := by omega
  have hdl : ∀ p ∈ l, p.2.2.length ≤ 1000000 := fun p hp => by have := c3 p hp; omega
  have hld := len_rd1 (hv0.rd hd)
  have hdc : dn ≤ dc := by
    obtain ⟨_, _, _, e, _, g, _⟩ := hv0.rd hd
    cases e; exact g
  obtain ⟨da2, hsl⟩ : ∃ da2, sliced da 0 dn dc 1 = .slice da2 dn dc := ⟨_, rfl⟩
  have hv1 := hv0.sliced hd (l := 0) (h := dn) (m := dc) (Nat.zero_le _) (Nat.le_refl _) hdc (Nat.le_refl _)
  have e1 : ((cellsB data).drop (0 * 1)).take ((dn - 0) * 1) = cellsB data := by rw [Nat.zero_mul, List.drop_zero, List.take_of_length_le (by rw [cellsB_len]; omega)]
  rw [hsl, e1] at hv1
  have hpt : Wi.part (stOf nx bs l) seq data = (dif seq nx, data) := by
    unfold Wi.part
    rw [List.take_of_length_le (by omega)]; rfl
  have hr := room_nn hck
  have hlo := dif_lo seq nx
  have hhi := dif_hi seq nx
  have hnil : ba = none → bn = 0 ∧ bc = 0 := by
    obtain ⟨_, _, _, e, _, _, _, g, _⟩ := hv0.rd hb
    cases e; exact g
  rcases within_val (dif seq nx) 0 (room (stOf nx bs l)) da2 dn dc data hld hdc (by omega) (by omega) (by omega) (by omega) (by omega) (by omega) (by omega) with ⟨hw, kW⟩ | ⟨y, l', h', q1, q2, hw, kW⟩
  · rw [← hpt] at hw
    cases ba with
    | none =>
      obtain ⟨rfl, rfl⟩ := hnil rfl
      exact (take_nn nx pa pn pc bs l seq da dn dc w0 w L _ hv1 (Mem.s hb) (Mem.s hp) (hal.mono fun _ h => Mem.s h) hpn hbn hdl hck hdn hdc da2 hsl data hnx hw kW).mono fun e w' h => TakeW.fin (X := [_]) hck hnx h
    | some ba =>
      exact (take_nr nx ba pa bn bc pn pc bs l seq da dn dc w0 w L _ hv1 (Mem.s hb) (Mem.s hp) (hal.mono fun _ h => Mem.s h) hpn hbn hdl hck hdn hdc da2 hsl data hnx hw kW).mono fun e w' h => TakeW.fin (X := [_]) hck hnx h
  · have hv2 := hv1.sliced Mem.z q1 q2 (Nat.le_refl h') (by omega)
    obtain ⟨ya, hya⟩ : ∃ ya, sliced da2 l' h' h' 1 = .slice ya (h' - l') (h' - l') := sliced_len
    have e2 : ((cellsB data).drop (l' * 1)).take ((h' - l') * 1) = cellsB ((data.drop l').take (h' - l')) := by
      rw [Nat.mul_one, Nat.mul_one]
      simp only [cellsB, List.map_take, List.map_drop]
    rw [hya, e2] at hv2
    rw [hya] at kW
    have hy1 : -1000000000000 ≤ y ∧ y ≤ 900000000000 := by
      have := (within_some hw).1
      simp only at this
      omega
    rw [← hpt] at hw
    cases ba with
    | none =>
      obtain ⟨rfl, rfl⟩ := hnil rfl
      exact (take_sn nx pa pn pc bs l seq da dn dc w0 w L _ hv2 (Mem.s (Mem.s hb)) (Mem.s (Mem.s hp)) (hal.mono fun _ h => Mem.s (Mem.s h)) hpn hbn hdl hck hdn hdc da2 hsl data hnx y ya (h' - l') _ Mem.z ⟨hy1.1, hy1.2, by omega⟩ hw kW).mono fun e w' h => TakeW.fin (X := [_, _]) hck hnx h
    | some ba =>
      exact (take_sr nx ba pa bn bc pn pc bs l seq da dn dc w0 w L _ hv2 (Mem.s (Mem.s hb)) (Mem.s (Mem.s hp)) (hal.mono fun _ h => Mem.s (Mem.s h)) hpn hbn hdl hck hdn hdc da2 hsl data hnx y ya (h' - l') _ Mem.z ⟨hy1.1, hy1.2, by omega⟩ hw kW).mono fun e w' h => TakeW.fin (X := [_, _]) hck hnx h
end Go.Proofs.Ytpbeemgigpaacaa
