import Derived.Test.YthenepdbgeafkaaWiTake
import Derived.Test.YthenepdbgeafkaaGAA
import Derived.Test.YthenepdbgeafkaaGAN
import Derived.Test.YthenepdbgeafkaaGAK
import Derived.Test.YthenepdbgeafkaaGAM
set_option linter.unusedSimpArgs false
set_option linter.unusedVariables false
section
/-
 Take for a stream that may be: what it needs follows from that.
-/
namespace Go.Proofs.Wi
open Go Go.RowKit
theorem sep_count : ∀ {l : List Sp} {a r : Int}, Sep a l → (∀ x ∈ l, x.1 + x.2.length ≤ r) → a ≤ r → a + l.length ≤ r := by
 intro l
 induction l with
 | nil => intro a r _ _ h; simpa using h
 | cons x t ih =>
   intro a r h1 h2 h3
   have g := h2 x (List.mem_cons_self ..)
   have := ih h1.2.2 (fun y hy => h2 y (List.mem_cons_of_mem _ hy)) g
   have p := List.length_pos_iff.2 h1.2.1
   have q := h1.1
   rw [List.length_cons]
   omega
theorem chk_small {nx : Nat} {bs : List Nat} {l : List PcV} (h : chk (stOf nx bs l) = true) : l.length ≤ 256 ∧ bs.length ≤ 256 ∧ ∀ p ∈ l, p.2.2.length ≤ 256 := by
 obtain ⟨s1, s2, s3, s4⟩ := chk_spans h
 have hb : (stOf nx bs l).bytes.length = bs.length := rfl
 have hl : (spans (stOf nx bs l)).length = l.length := by rw [← spOf_spV nx bs l]; simp [spOf, spV]
 have c := sep_count s1 (r := 256) (fun x hx => by have := s2 x hx; omega) (by omega)
 refine ⟨by omega, s4, fun p hp => ?_⟩
 have hm : (dif p.1 nx, p.2.2) ∈ spans (stOf nx bs l) := by
   rw [← spOf_spV nx bs l]
   exact List.mem_map.2 ⟨(dif p.1 nx, p.2.1, p.2.2), List.mem_map.2 ⟨p, hp, rfl⟩, rfl⟩
 have g1 := s2 _ hm
 have g2 := s1.lo _ hm
 simp only at g1 g2
 omega
def goodSt (s : St) : Prop := goodB s.bytes ∧ ∀ p ∈ s.ps, goodB p.2
end Go.Proofs.Wi
namespace Go.Proofs.Ythenepdbgeafkaa
open Go.Proofs.Wi Go.RowKit
def TakeR (w0 : World) (L : LV) (R : LR) (s : St) (seq : Nat) (data : List Nat) (e : Ending) (w' : World) : Prop :=
 ∃ (nx : Nat) (ba : Option Addr) (bn bc : Nat) (pa : Option Addr) (pn pc : Nat) (bs : List Nat) (l : List PcV) (R' : LR) (b : List Nat) (rest : List Sp),
   e = .returned (.tuple #[.agg #[.int .u32 nx, .slice ba bn bc, .slice pa pn pc], .int .i64 b.length]) ∧ Mem w0 w' L (R' ++ R) ∧ (1, .slice ba bn bc, cellsB bs) ∈ R' ++ R ∧ (2, .slice pa pn pc, cellsP l) ∈ R' ++ R ∧ AllP (R' ++ R) l ∧ Took (gF s seq data) b rest ∧ stOf nx bs l = outS s b rest
theorem TakeW.fin {w0 : World} {L : LV} {X R : LR} {nx : Nat} {bs : List Nat} {l : List PcV} {seq : Nat} {data : List Nat} {e : Ending} {w' : World} (hck : chk (stOf nx bs l) = true) (hnx : nx < 4294967296)
   (h : TakeW w0 L (X ++ R) nx bs (allL (stOf nx bs l) seq data) e w') : TakeR w0 L R (stOf nx bs l) seq data e w' := by
 obtain ⟨nx', n, B, P, ba, pa, bn, bc, pn, pc, R', srt, J, rfl, hm, ha, hp, hs, hj, hf⟩ := h
 obtain ⟨b, rest, ht, h1, h2, h3⟩ := finT_took hnx hck hp hs hj hf
 refine ⟨nx', ba, bn, bc, pa, pn, pc, B, P, (1, .slice ba bn bc, cellsB B) :: (2, .slice pa pn pc, cellsP P) :: (R' ++ X), b, rest, by rw [h2], by simpa using hm, Mem.z, Mem.s Mem.z, fun p hp => ?_, ht, h3⟩
 have := ha p hp
 exact Mem.s (Mem.s (by simpa using this))
theorem Take_law (nx : Nat) (ba pa : Option Addr) (bn bc pn pc : Nat) (bs : List Nat) (l : List PcV) (seq : Nat) (da : Option Addr) (dn dc : Nat) (data : List Nat) (w0 w : World) (L : LV) (R : LR) (hv0 : Mem w0 w L R)
   (hb : (1, .slice ba bn bc, cellsB bs) ∈ R) (hp : (2, .slice pa pn pc, cellsP l) ∈ R) (hal : AllP R l) (hd : (1, .slice da dn dc, cellsB data) ∈ R) (hck : chk (stOf nx bs l) = true) (hnx : nx < 4294967296) (hdn : dn ≤ 4096) :
   Calls Try.prog 73 #[.agg #[.int .u32 nx, .slice ba bn bc, .slice pa pn pc], .int .u32 seq, .slice da dn dc] w (TakeR w0 L R (stOf nx bs l) seq data) := by
 obtain ⟨c1, c2, c3⟩ := chk_small hck
 have hpn : pn ≤ 1000 := by have := len_rdP (hv0.rd hp); omega
 have hbn : bs.length ≤ 1000000 := by omega
 have hdl : ∀ p ∈ l, p.2.2.length ≤ 1000000 := fun p hp => by have := c3 p hp; omega
 have hld := len_rd1 (hv0.rd hd)
 have hdc : dn ≤ dc := by
   obtain ⟨_, _, _, e, _, g, _⟩ := hv0.rd hd
   cases e; exact g
 obtain ⟨da2, hsl⟩ : ∃ da2, sliced da 0 dn dc 1 = .slice da2 dn dc := ⟨_, rfl⟩
 have hv1 := hv0.sliced hd (l := 0) (h := dn) (m := dc) (Nat.zero_le _) (Nat.le_refl _) hdc (Nat.le_refl _)
 have e1 : ((cellsB data).drop (0 * 1)).take ((dn - 0) * 1) = cellsB data := by rw [Nat.zero_mul, List.drop_zero, List.take_of_length_le (by rw [cellsB_len]; omega)]
 rw [hsl, e1] at hv1
 have hpt : Wi.part (stOf nx bs l) seq data = (dif seq nx, data) := by
   unfold Wi.part
   rw [List.take_of_length_le (by omega)]; rfl
 have hr := room_nn hck
 have hlo := dif_lo seq nx
 have hhi := dif_hi seq nx
 have hnil : ba = none → bn = 0 ∧ bc = 0 := by
   obtain ⟨_, _, _, e, _, _, _, g, _⟩ := hv0.rd hb
   cases e; exact g
 rcases within_val (dif seq nx) 0 (room (stOf nx bs l)) da2 dn dc data hld hdc (by omega) (by omega) (by omega) (by omega) (by omega) (by omega) (by omega) with ⟨hw, kW⟩ | ⟨y, l', h', q1, q2, hw, kW⟩
 · rw [← hpt] at hw
   cases ba with
   | none =>
     obtain ⟨rfl, rfl⟩ := hnil rfl
     exact (take_nn nx pa pn pc bs l seq da dn dc w0 w L _ hv1 (Mem.s hb) (Mem.s hp) (hal.mono fun _ h => Mem.s h) hpn hbn hdl hck hdn hdc da2 hsl data hnx hw kW).mono fun e w' h => TakeW.fin (X := [_]) hck hnx h
   | some ba =>
     exact (take_nr nx ba pa bn bc pn pc bs l seq da dn dc w0 w L _ hv1 (Mem.s hb) (Mem.s hp) (hal.mono fun _ h => Mem.s h) hpn hbn hdl hck hdn hdc da2 hsl data hnx hw kW).mono fun e w' h => TakeW.fin (X := [_]) hck hnx h
 · have hv2 := hv1.sliced Mem.z q1 q2 (Nat.le_refl h') (by omega)
   obtain ⟨ya, hya⟩ : ∃ ya, sliced da2 l' h' h' 1 = .slice ya (h' - l') (h' - l') := sliced_len
   have e2 : ((cellsB data).drop (l' * 1)).take ((h' - l') * 1) = cellsB ((data.drop l').take (h' - l')) := by
     rw [Nat.mul_one, Nat.mul_one]
     simp only [cellsB, List.map_take, List.map_drop]
   rw [hya, e2] at hv2
   rw [hya] at kW
   have hy1 : -1000000000000 ≤ y ∧ y ≤ 900000000000 := by
     have := (within_some hw).1
     simp only at this
     omega
   rw [← hpt] at hw
   cases ba with
   | none =>
     obtain ⟨rfl, rfl⟩ := hnil rfl
     exact (take_sn nx pa pn pc bs l seq da dn dc w0 w L _ hv2 (Mem.s (Mem.s hb)) (Mem.s (Mem.s hp)) (hal.mono fun _ h => Mem.s (Mem.s h)) hpn hbn hdl hck hdn hdc da2 hsl data hnx y ya (h' - l') _ Mem.z ⟨hy1.1, hy1.2, by omega⟩ hw kW).mono fun e w' h => TakeW.fin (X := [_, _]) hck hnx h
   | some ba =>
     exact (take_sr nx ba pa bn bc pn pc bs l seq da dn dc w0 w L _ hv2 (Mem.s (Mem.s hb)) (Mem.s (Mem.s hp)) (hal.mono fun _ h => Mem.s (Mem.s h)) hpn hbn hdl hck hdn hdc da2 hsl data hnx y ya (h' - l') _ Mem.z ⟨hy1.1, hy1.2, by omega⟩ hw kW).mono fun e w' h => TakeW.fin (X := [_, _]) hck hnx h
end Go.Proofs.Ythenepdbgeafkaa
end

section
/-
 The window's calls at the laws' level: a stream that lies in memory.
-/
namespace Go.Proofs.Wi
open Go Go.RowKit
theorem InS.good {R : LR} {nx : Nat} {bv pv : Value} {s : St} {l : List PcV} (h : InS R nx bv pv s l) (hg : goodSt s) : ∀ p ∈ l, goodB p.2.2 := fun p hp => hg.2 (p.1, p.2.2) (by rw [← h.ps]; exact List.mem_map.2 ⟨p, hp, rfl⟩)
theorem InS.small {R : LR} {nx : Nat} {bv pv : Value} {s : St} {l : List PcV} (h : InS R nx bv pv s l) (hc : chk s = true) : l.length ≤ 256 ∧ s.bytes.length ≤ 256 ∧ ∀ p ∈ l, p.2.2.length ≤ 256 := chk_small (by rw [h.st]; exact hc)
end Go.Proofs.Wi
namespace Go.Proofs.Ythenepdbgeafkaa
open Go.Proofs.Wi Go.RowKit
section
variable {w0 w : World} {L : LV} {R : LR} {nx bn bc pn pc : Nat} {ba pa : Option Addr} {s : St} {l : List PcV}
def TakeS (w0 : World) (L : LV) (R : LR) (s : St) (seq : Nat) (data : List Nat) (e : Ending) (w' : World) : Prop :=
 ∃ (nx : Nat) (ba : Option Addr) (bn bc : Nat) (pa : Option Addr) (pn pc : Nat) (l : List PcV) (R' : LR) (b : List Nat) (rest : List Sp),
   e = .returned (.tuple #[.agg #[.int .u32 nx, .slice ba bn bc, .slice pa pn pc], .int .i64 b.length]) ∧ Mem w0 w' L (R' ++ R) ∧ InS (R' ++ R) nx (.slice ba bn bc) (.slice pa pn pc) (outS s b rest) l ∧ Took (gF s seq data) b rest
theorem Take_S (hv : Mem w0 w L R) (h : InS R nx (.slice ba bn bc) (.slice pa pn pc) s l) (hck : chk s = true) (hnx : nx < 4294967296) (seq : Nat) {da : Option Addr} {dn dc : Nat} {data : List Nat} (hd : (1, .slice da dn dc, cellsB data) ∈ R) (hdn : dn ≤ 4096) :
   Calls Try.prog 73 #[.agg #[.int .u32 nx, .slice ba bn bc, .slice pa pn pc], .int .u32 seq, .slice da dn dc] w (TakeS w0 L R s seq data) := by
 refine (Take_law nx ba pa bn bc pn pc s.bytes l seq da dn dc data w0 w L R hv h.b h.p h.all hd (by rw [h.st]; exact hck) hnx hdn).mono ?_
 rintro e w' ⟨nx', ba', bn', bc', pa', pn', pc', bs', l', R', b, rest, rfl, g1, g2, g3, g4, g5, g6⟩
 rw [h.st] at g5 g6
 have hbs : (outS s b rest).bytes = bs' := by rw [← g6]; rfl
 exact ⟨nx', ba', bn', bc', pa', pn', pc', l', R', b, rest, rfl, g1, ⟨by rw [hbs]; exact g2, g3, g4, by rw [hbs]; exact g6⟩, g5⟩
theorem Check_S (hv : Mem w0 w L R) (h : InS R nx (.slice ba bn bc) (.slice pa pn pc) s l) (hck : chk s = true) : Calls Try.prog 41 #[.agg #[.int .u32 nx, .slice ba bn bc, .slice pa pn pc]] w fun e w' => e = .returned (.bool true) ∧ New w w' := by
 obtain ⟨c1, c2, c3⟩ := h.small hck
 have := Check_any nx ba pa bn bc pn pc s.bytes l w0 w L R hv h.b h.p h.all (by have := len_rdP (hv.rd h.p); omega) (by omega) (fun p hp => by have := c3 p hp; omega)
 rwa [h.st, hck] at this
theorem Room_S (hv : Mem w0 w L R) (h : InS R nx (.slice ba bn bc) (.slice pa pn pc) s l) (hck : chk s = true) : Calls Try.prog 36 #[.agg #[.int .u32 nx, .slice ba bn bc, .slice pa pn pc]] w fun e w' => e = .returned (.int .i64 (room s)) ∧ New w w' := by
 obtain ⟨c1, c2, c3⟩ := h.small hck
 have := Room_any nx ba pa bn bc pn pc s.bytes l w0 w L R hv h.b h.p h.all (by have := len_rdP (hv.rd h.p); omega) (by omega) (fun p hp => by have := c3 p hp; omega)
 rwa [h.st] at this
def ReadS (w0 : World) (L : LV) (R : LR) (s : St) (nx : Nat) (pa : Option Addr) (pn pc : Nat) (l : List PcV) (k : Nat) (e : Ending) (w' : World) : Prop :=
 ∃ ba bn bc ga gn gc R', e = .returned (.tuple #[.agg #[.int .u32 nx, .slice ba bn bc, .slice pa pn pc], .slice ga gn gc]) ∧ Mem w0 w' L (R' ++ R) ∧ InS (R' ++ R) nx (.slice ba bn bc) (.slice pa pn pc) ⟨s.next, s.bytes.drop k, s.ps⟩ l ∧ (1, .slice ga gn gc, cellsB (s.bytes.take k)) ∈ R' ++ R
theorem Read_S (hv : Mem w0 w L R) (h : InS R nx (.slice ba bn bc) (.slice pa pn pc) s l) (hck : chk s = true) (n : Int) : Calls Try.prog 37 #[.agg #[.int .u32 nx, .slice ba bn bc, .slice pa pn pc], .int .i64 n] w (ReadS w0 L R s nx pa pn pc l (clampN n s.bytes.length)) := by
 obtain ⟨c1, c2, c3⟩ := h.small hck
 refine (Read_yes nx ba pa bn bc pn pc s.bytes l n w0 w L R hv h.b h.p h.all (by have := len_rdP (hv.rd h.p); omega) (by omega) (fun p hp => by have := c3 p hp; omega) (by rw [h.st]; exact hck)).mono ?_
 rintro e w' ⟨ba', bn', bc', ga, gn, gc, rfl, g1⟩
 refine ⟨ba', bn', bc', ga, gn, gc, [(1, .slice ba' bn' bc', _), (1, .slice ga gn gc, _)], rfl, g1, ⟨Mem.z, Mem.s (Mem.s h.p), fun p hp => Mem.s (Mem.s (h.all p hp)), ?_⟩, Mem.s Mem.z⟩
 have hn := h.nx
 have hp := h.ps
 unfold stOf
 rw [hn, hp]
end
end Go.Proofs.Ythenepdbgeafkaa
end
