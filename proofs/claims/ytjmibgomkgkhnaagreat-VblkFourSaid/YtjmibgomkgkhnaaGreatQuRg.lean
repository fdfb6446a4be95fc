import Derived.Test.YtjmibgomkgkhnaaGreatQuFl
import Derived.Deep.DeepMust
import Derived.Test.YtjmibgomkgkhnaaGreatEq
set_option linter.unusedSimpArgs false
set_option linter.unusedVariables false
set_option maxRecDepth 100000
set_option maxHeartbeats 16000000
section
/-
 Rings: what reads one.
-/
namespace Go.Proofs.Qu
open Go Go.RowKit Go.Proofs.Nm
theorem getN_lt' {M : List Nat} (h : goodB M) (p : Nat) {k : Nat} (hk : k ≤ 8) : getN M p k < 256 ^ k := by
 have h1 := fromTo_lt (getB_good (p := p) (n := k) h) (min 8 (getB M p k).length)
 have h2 : (getB M p k).length ≤ k := by unfold getB; rw [List.length_take]; omega
 exact Nat.lt_of_lt_of_le h1 (Nat.pow_le_pow_right (by omega) (by omega))
structure OkM (mn : Nat) (M : List Nat) : Prop where
 len : M.length = mn
 pos : 0 < mn
 most : mn ≤ 8192
 good : goodB M
theorem InM.ok {R : List (Nat × Value × List Value)} {mb mo mn mc : Nat} {M : List Nat} (h : InM R mb mo mn mc M) : OkM mn M := ⟨h.len, h.pos, h.most, h.good⟩
theorem wrap32 {n : Nat} (h : n < 4294967296) : IntKind.u32.wrap (n : Int) = (n : Int) := by
 unfold IntKind.wrap
 simp [IntKind.bits, IntKind.signed]
 omega
theorem wrap16 {n : Nat} (h : n < 65536) : IntKind.u16.wrap (n : Int) = (n : Int) := by
 unfold IntKind.wrap
 simp [IntKind.bits, IntKind.signed]
 omega
theorem wrap16n (n : Nat) : IntKind.u16.wrap (n : Int) = ((n % 65536 : Nat) : Int) := by
 unfold IntKind.wrap
 simp [IntKind.bits, IntKind.signed]
end Go.Proofs.Qu
namespace Go.Proofs.YtjmibgomkgkhnaaGreat
open Go.Proofs.Qu Go.Proofs.Nm Go.RowKit Go.Proofs
theorem infoD : (Tryz.prog.info? 137).map (·.size) = some 4 := by kernel_rfl
theorem infoUs : (Tryz.prog.info? 142).map (·.size) = some 2 := by kernel_rfl
theorem getx_2 {w0 w : World} {L : List (Nat × Array Value)} {R : List (Nat × Value × List Value)} {bF mb mo mn mc p : Nat} {M : List Nat} (hv : Mem w0 w ((bF, #[(.slice (some ⟨mb, mo, none⟩) mn mc), .int .i64 p]) :: L) R) (hm : InM R mb mo mn mc M) (h : p + 2 ≤ mn) {x : Nat} (hx : getN M p 2 = x) : Calls Tryz.prog 95 #[.pointer (some ⟨bF, 0, none⟩), .int .i64 2] w fun e w' => e = .returned (.int .u64 x) ∧ Mem w0 w' ((bF, #[(.slice (some ⟨mb, mo, none⟩) mn mc), .int .i64 ((p + 2) : Nat)]) :: L) R := by
 subst hx
 exact get_2 hv hm h
theorem getx_4 {w0 w : World} {L : List (Nat × Array Value)} {R : List (Nat × Value × List Value)} {bF mb mo mn mc p : Nat} {M : List Nat} (hv : Mem w0 w ((bF, #[(.slice (some ⟨mb, mo, none⟩) mn mc), .int .i64 p]) :: L) R) (hm : InM R mb mo mn mc M) (h : p + 4 ≤ mn) {x : Nat} (hx : getN M p 4 = x) : Calls Tryz.prog 95 #[.pointer (some ⟨bF, 0, none⟩), .int .i64 4] w fun e w' => e = .returned (.int .u64 x) ∧ Mem w0 w' ((bF, #[(.slice (some ⟨mb, mo, none⟩) mn mc), .int .i64 ((p + 4) : Nat)]) :: L) R := by
 subst hx
 exact get_4 hv hm h
theorem getx_8 {w0 w : World} {L : List (Nat × Array Value)} {R : List (Nat × Value × List Value)} {bF mb mo mn mc p : Nat} {M : List Nat} (hv : Mem w0 w ((bF, #[(.slice (some ⟨mb, mo, none⟩) mn mc), .int .i64 p]) :: L) R) (hm : InM R mb mo mn mc M) (h : p + 8 ≤ mn) {x : Nat} (hx : getN M p 8 = x) : Calls Tryz.prog 95 #[.pointer (some ⟨bF, 0, none⟩), .int .i64 8] w fun e w' => e = .returned (.int .u64 x) ∧ Mem w0 w' ((bF, #[(.slice (some ⟨mb, mo, none⟩) mn mc), .int .i64 ((p + 8) : Nat)]) :: L) R := by
 subst hx
 exact get_8 hv hm h
theorem DescC {bD : Nat} {w0 w : World} {L : List (Nat × Array Value)} {R : List (Nat × Value × List Value)} {bF mb mo mn mc p : Nat} {M : List Nat} (hv : Mem w0 w ((bF, #[(.slice (some ⟨mb, mo, none⟩) mn mc), .int .i64 p]) :: (bD, #[.int .u64 0, .int .u32 0, .int .u16 0, .int .u16 0]) :: L) R) (hm : InM R mb mo mn mc M) (h : p + 16 ≤ mn) {a l f x : Nat} (h1 : getN M p 8 = a) (h2 : getN M (p + 8) 4 = l) (h3 : getN M (p + 8 + 4) 2 = f) (h4 : getN M (p + 8 + 4 + 2) 2 = x) :
   Calls Tryz.prog 118 #[.pointer (some ⟨bF, 0, none⟩), .pointer (some ⟨bD, 0, none⟩)] w fun e w' => e = .returned (.tuple #[]) ∧ Mem w0 w' ((bD, #[.int .u64 a, .int .u32 l, .int .u16 f, .int .u16 x]) :: L) R := by
 have HM := Lib.hid hm
 have H1 := Lib.hid h1
 have H2 := Lib.hid h2
 have H3 := Lib.hid h3
 have H4 := Lib.hid h4
 have P1 : Hid (p + 8 ≤ mn) := Lib.hid (by omega)
 have P2 : Hid (p + 8 + 4 ≤ mn) := Lib.hid (by omega)
 have P3 : Hid (p + 8 + 4 + 2 ≤ mn) := Lib.hid (by omega)
 have P4 : Hid (p + 8 + 4 + 2 + 2 ≤ mn) := Lib.hid (by omega)
 have g2 := getN_lt' hm.good (p + 8) (k := 4) (by decide)
 have g3 := getN_lt' hm.good (p + 8 + 4) (k := 2) (by decide)
 have g4 := getN_lt' hm.good (p + 8 + 4 + 2) (k := 2) (by decide)
 rw [h2] at g2
 rw [h3] at g3
 rw [h4] at g4
 have q2 : IntKind.u32.wrap (l : Int) = (l : Int) := wrap32 g2
 have q3 : IntKind.u16.wrap (f : Int) = (f : Int) := wrap16 g3
 have q4 : IntKind.u16.wrap (x : Int) = (x : Int) := wrap16 g4
 clear h1 h2 h3 h4 g2 g3 g4 hm h
 go_enter Tryz.func118, Tryz.ntmps118
 go_wp2_with (first
   | (go_at_call 95; (with_reducible refine (getx_8 hv HM.out P1.out H1.out).mono ?_); rintro e w1 ⟨rfl, hv1⟩; replace hv := hv1; clear hv1)
   | (go_at_call 95; (with_reducible refine (getx_4 hv HM.out P2.out H2.out).mono ?_); rintro e w1 ⟨rfl, hv1⟩; replace hv := hv1; clear hv1)
   | (go_at_call 95; (with_reducible refine (getx_2 hv HM.out P3.out H3.out).mono ?_); rintro e w1 ⟨rfl, hv1⟩; replace hv := hv1; clear hv1)
   | (go_at_call 95; (with_reducible refine (getx_2 hv HM.out P4.out H4.out).mono ?_); rintro e w1 ⟨rfl, hv1⟩; replace hv := hv1; clear hv1)
   | ((with_reducible refine at_store (T := 114) ?_); refine wl_stc rfl bD 0 rfl (.int .u64 a) rfl _ hv.vars.ro hv.vars.so (by kernel_rfl) rfl (by show 0 < 4; decide) ?_; intro w2 hw2; replace hv := hv.sets (by repeat first | exact .z | apply SetM.s) hw2; clear hw2)
   | ((with_reducible refine at_store (T := 135) ?_); refine wl_stc rfl bD 1 rfl (.int .u32 l) rfl _ hv.vars.ro hv.vars.so (by kernel_rfl) rfl (by show 1 < 4; decide) ?_; intro w2 hw2; replace hv := hv.sets (by repeat first | exact .z | apply SetM.s) hw2; clear hw2)
   | ((with_reducible refine at_store (T := 27) ?_); refine wl_stc rfl bD 2 rfl (.int .u16 f) rfl _ hv.vars.ro hv.vars.so (by kernel_rfl) rfl (by show 2 < 4; decide) ?_; intro w2 hw2; replace hv := hv.sets (by repeat first | exact .z | apply SetM.s) hw2; clear hw2)
   | ((with_reducible refine at_store (T := 27) ?_); refine wl_stc rfl bD 3 rfl (.int .u16 x) rfl _ hv.vars.ro hv.vars.so (by kernel_rfl) rfl (by show 3 < 4; decide) ?_; intro w2 hw2; replace hv := hv.sets (by repeat first | exact .z | apply SetM.s) hw2; clear hw2))
 go_end0
 exact ⟨rfl, hv.drop⟩
theorem IdxC {bD : Nat} {w0 w : World} {L : List (Nat × Array Value)} {R : List (Nat × Value × List Value)} {bF mb mo mn mc p : Nat} {M : List Nat} (hv : Mem w0 w ((bF, #[(.slice (some ⟨mb, mo, none⟩) mn mc), .int .i64 p]) :: (bD, #[.int .u16 0]) :: L) R) (hm : InM R mb mo mn mc M) (h : p + 2 ≤ mn) {x : Nat} (hx : getN M p 2 = x) :
   Calls Tryz.prog 117 #[.pointer (some ⟨bF, 0, none⟩), .pointer (some ⟨bD, 0, none⟩)] w fun e w' => e = .returned (.tuple #[]) ∧ Mem w0 w' ((bD, #[.int .u16 x]) :: L) R := by
 have HM := Lib.hid hm
 have H1 := Lib.hid hx
 have P1 := Lib.hid h
 have g := getN_lt' hm.good p (k := 2) (by decide)
 rw [hx] at g
 have q : IntKind.u16.wrap (x : Int) = (x : Int) := wrap16 g
 clear hx g hm h
 go_enter Tryz.func117, Tryz.ntmps117
 go_wp2_with (first
   | (go_at_call 95; (with_reducible refine (getx_2 hv HM.out P1.out H1.out).mono ?_); rintro e w1 ⟨rfl, hv1⟩; replace hv := hv1; clear hv1)
   | ((with_reducible refine at_store (T := 27) ?_); refine wl_stc rfl bD 0 rfl (.int .u16 x) rfl _ hv.vars.ro hv.vars.so (by kernel_rfl) rfl (by show 0 < 1; decide) ?_; intro w2 hw2; replace hv := hv.sets (by repeat first | exact .z | apply SetM.s) hw2; clear hw2))
 go_end0
 exact ⟨rfl, hv.drop⟩
theorem AvatC {bD : Nat} {w0 w : World} {L : List (Nat × Array Value)} {R : List (Nat × Value × List Value)} {bF mb mo mn mc p : Nat} {M : List Nat} (hv : Mem w0 w ((bF, #[(.slice (some ⟨mb, mo, none⟩) mn mc), .int .i64 p]) :: (bD, #[.int .i64 0]) :: L) R) (hm : InM R mb mo mn mc M) (h : p + 2 ≤ mn) {x : Nat} (hx : getN M p 2 = x) :
   Calls Tryz.prog 94 #[.pointer (some ⟨bF, 0, none⟩), .pointer (some ⟨bD, 0, none⟩)] w fun e w' => e = .returned (.tuple #[]) ∧ Mem w0 w' ((bD, #[.int .i64 x]) :: L) R := by
 have HM := Lib.hid hm
 have H1 := Lib.hid hx
 have P1 := Lib.hid h
 have g := getN_lt' hm.good p (k := 2) (by decide)
 rw [hx] at g
 have q : IntKind.i64.wrap (x : Int) = (x : Int) := IntWalk.i64_in _ (by omega)
 clear hx g hm h
 go_enter Tryz.func94, Tryz.ntmps94
 go_wp2_with (first
   | (go_at_call 95; (with_reducible refine (getx_2 hv HM.out P1.out H1.out).mono ?_); rintro e w1 ⟨rfl, hv1⟩; replace hv := hv1; clear hv1)
   | ((with_reducible refine at_store (T := 3) ?_); refine wl_stc rfl bD 0 rfl (.int .i64 x) rfl _ hv.vars.ro hv.vars.so (by kernel_rfl) rfl (by show 0 < 1; decide) ?_; intro w2 hw2; replace hv := hv.sets (by repeat first | exact .z | apply SetM.s) hw2; clear hw2))
 go_end0
 exact ⟨rfl, hv.drop⟩
theorem UsatC {bD : Nat} {w0 w : World} {L : List (Nat × Array Value)} {R : List (Nat × Value × List Value)} {bF mb mo mn mc p : Nat} {M : List Nat} (hv : Mem w0 w ((bF, #[(.slice (some ⟨mb, mo, none⟩) mn mc), .int .i64 p]) :: (bD, #[.int .u32 0, .int .u32 0]) :: L) R) (hm : InM R mb mo mn mc M) (h : p + 8 ≤ mn) {a l : Nat} (h1 : getN M p 4 = a) (h2 : getN M (p + 4) 4 = l) :
   Calls Tryz.prog 100 #[.pointer (some ⟨bF, 0, none⟩), .pointer (some ⟨bD, 0, none⟩)] w fun e w' => e = .returned (.tuple #[]) ∧ Mem w0 w' ((bD, #[.int .u32 a, .int .u32 l]) :: L) R := by
 have HM := Lib.hid hm
 have H1 := Lib.hid h1
 have H2 := Lib.hid h2
 have P1 : Hid (p + 4 ≤ mn) := Lib.hid (by omega)
 have P2 : Hid (p + 4 + 4 ≤ mn) := Lib.hid (by omega)
 have g1 := getN_lt' hm.good p (k := 4) (by decide)
 have g2 := getN_lt' hm.good (p + 4) (k := 4) (by decide)
 rw [h1] at g1
 rw [h2] at g2
 have q1 : IntKind.u32.wrap (a : Int) = (a : Int) := wrap32 g1
 have q2 : IntKind.u32.wrap (l : Int) = (l : Int) := wrap32 g2
 clear h1 h2 g1 g2 hm h
 go_enter Tryz.func100, Tryz.ntmps100
 go_wp2_with (first
   | (go_at_call 95; (with_reducible refine (getx_4 hv HM.out P1.out H1.out).mono ?_); rintro e w1 ⟨rfl, hv1⟩; replace hv := hv1; clear hv1)
   | (go_at_call 95; (with_reducible refine (getx_4 hv HM.out P2.out H2.out).mono ?_); rintro e w1 ⟨rfl, hv1⟩; replace hv := hv1; clear hv1)
   | ((with_reducible refine at_store (T := 135) ?_); refine wl_stc rfl bD 0 rfl (.int .u32 a) rfl _ hv.vars.ro hv.vars.so (by kernel_rfl) rfl (by show 0 < 2; decide) ?_; intro w2 hw2; replace hv := hv.sets (by repeat first | exact .z | apply SetM.s) hw2; clear hw2)
   | ((with_reducible refine at_store (T := 135) ?_); refine wl_stc rfl bD 1 rfl (.int .u32 l) rfl _ hv.vars.ro hv.vars.so (by kernel_rfl) rfl (by show 1 < 2; decide) ?_; intro w2 hw2; replace hv := hv.sets (by repeat first | exact .z | apply SetM.s) hw2; clear hw2))
 go_end0
 exact ⟨rfl, hv.drop⟩
theorem Desc_w {mb mo mn mc : Nat} {M : List Nat} (hm : OkM mn M) (base n i : Nat) (hn : okN n) (hb : base + sizeN n ≤ mn) (hi : i < n) {a l f x : Nat} (h1 : getN M (base + 16 * i) 8 = a) (h2 : getN M (base + 16 * i + 8) 4 = l) (h3 : getN M (base + 16 * i + 8 + 4) 2 = f) (h4 : getN M (base + 16 * i + 8 + 4 + 2) 2 = x) (w : World) (hr : Rd w 1 (.slice (some ⟨mb, mo, none⟩) mn mc) (cellsB M)) :
   Calls Tryz.prog 96 #[(.agg #[(.slice (some ⟨mb, mo, none⟩) mn mc)]), .int .i64 base, .int .i64 n, .int .i64 i] w fun e w' => e = .returned (.tuple #[.agg #[.int .u64 a, .int .u32 l, .int .u16 f, .int .u16 x], .int .i64 0]) ∧ New w w' := by
 have hv0 := (Mem.nil w).old hr
 have hv : Mem w w [] [(1, (.slice (some ⟨mb, mo, none⟩) mn mc), cellsB M)] := hv0
 have HM : Hid (InM [(1, (.slice (some ⟨mb, mo, none⟩) mn mc), cellsB M)] mb mo mn mc M) := Lib.hid ⟨Mem.z, hm.len, hm.pos, hm.most, hm.good⟩
 clear hv0 hr
 have HN := Lib.hid hn
 have HB := Lib.hid hb
 have H1 := Lib.hid h1
 have H2 := Lib.hid h2
 have H3 := Lib.hid h3
 have H4 := Lib.hid h4
 have hsz := hn.size
 have hle := hn.le
 have HP : Hid (base + 16 * i ≤ 100000) := Lib.hid (by have := hm.most; omega)
 have HH : Hid (base + 16 * i + 16 ≤ mn) := Lib.hid (by omega)
 have HM8 : Hid (mn ≤ 8192) := Lib.hid hm.most
 have y1 : decide ((i : Int) < 0) = false := decide_eq_false (by omega)
 have y2 : decide ((n : Int) ≤ (i : Int)) = false := decide_eq_false (by omega)
 have z2 : decide (n ≤ i) = false := decide_eq_false (by omega)
 have q1 : IntKind.i64.wrap (16 * (i : Int)) = ((16 * i : Nat) : Int) := by rw [IntWalk.i64_in _ (by omega)]; omega
 clear hn hb hi h1 h2 h3 h4 hsz hle hm
 go_enter Tryz.func96, Tryz.ntmps96
 go_wp2_with (first
   | ((with_reducible refine at_box (T := 26) (dst := some 4) ?_); refine wl_newb rfl #[(.slice (some ⟨mb, mo, none⟩) mn mc)] 26 (fun _ => rfl) ?_; intro b4 w2 hm2; replace hv := hv.madeAt hm2; clear hm2)
   | ((with_reducible refine at_alloc (T := 137) (dst := some 8) ?_); refine wl_newb rfl #[.int .u64 0, .int .u32 0, .int .u16 0, .int .u16 0] 137 (fun _ => rfl) ?_; intro b8 w2 hm2; replace hv := hv.madeAt hm2; clear hm2)
   | ((with_reducible refine at_alloc (T := 137) (dst := some 10) ?_); refine wl_newb rfl #[.int .u64 0, .int .u32 0, .int .u16 0, .int .u16 0] 137 (fun _ => rfl) ?_; intro b10 w2 hm2; replace hv := hv.madeAt hm2; clear hm2)
   | ((with_reducible refine at_load (T := 26) ?_); refine wl_ldv rfl b4 rfl _ hv.vars.ro 1 _ Tryz.underlying26 rfl infoM (by decide) rfl ?_)
   | (go_at_call 53; (with_reducible refine (RingCheck_ok _ _ _ _ _ _ HN.out HB.out HM8.out _).mono ?_); rintro e w1 ⟨rfl, hn1⟩; replace hv := hv.new hn1; clear hn1)
   | (go_at_call 92; (refine (reading_M hv HM.out base n (16 * i) HN.out HB.out HP.out (enters_of Tryz.func118 (by kernel_rfl) rfl) (cap := #[.pointer (some ⟨b10, 0, none⟩)]) (Post := fun w' => Mem w w' ((b10, #[.int .u64 a, .int .u32 l, .int .u16 f, .int .u16 x]) :: (b8, #[.int .u64 0, .int .u32 0, .int .u16 0, .int .u16 0]) :: (b4, #[(.slice (some ⟨mb, mo, none⟩) mn mc)]) :: []) [(1, (.slice (some ⟨mb, mo, none⟩) mn mc), cellsB M)]) (fun bF w1 hv1 => DescC hv1 HM.out HH.out H1.out H2.out H3.out H4.out)).mono ?_); rintro e w1 ⟨rfl, hv1⟩; replace hv := hv1; clear hv1)
   | ((with_reducible refine at_load (T := 137) ?_); refine wl_ldv rfl b10 rfl _ hv.vars.ro 4 _ Tryz.underlying137 rfl infoD (by decide) rfl ?_)
   | ((with_reducible refine at_store (T := 137) ?_); refine wl_stv rfl b8 rfl _ rfl _ hv.vars.ro hv.vars.so 4 infoD rfl rfl (by simp [Value.oneCell']) ?_; intro w2 hw2; replace hv := hv.sets (by repeat first | exact .z | apply SetM.s) hw2; clear hw2))
 try simp only [Exit.inBlock, Exit.then]
 exact ret_cell2 (v := .agg #[.int .u64 a, .int .u32 l, .int .u16 f, .int .u16 x]) (v1 := .int .i64 0) rfl rfl (read_row _ b8 137 _ (hv.vars.ro (b := b8)) 4 _ Tryz.underlying137 rfl infoD (by decide) rfl) rfl rfl ⟨rfl, hv.below⟩
end Go.Proofs.YtjmibgomkgkhnaaGreat
end

section
/-
 Rings: what reads one: its indices and entries.
-/
namespace Go.Proofs.Qu
open Go Go.RowKit Go.Proofs.Nm
theorem avail_bnd {n i : Nat} (hn : okN n) : 16 * n + (4 + 2 * (i % n)) + 2 ≤ sizeN n ∧ sizeN n ≤ 424 := by
 have h1 := hn.size
 have h2 := Nat.mod_lt i (show 0 < n by have := hn.le; omega)
 generalize i % n = r at *
 omega
theorem used_bnd {n i : Nat} (hn : okN n) : backN n + (4 + 8 * (i % n)) + 8 ≤ sizeN n ∧ sizeN n ≤ 424 := by
 have h1 := hn.size
 have h2 := Nat.mod_lt i (show 0 < n by have := hn.le; omega)
 generalize i % n = r at *
 omega
theorem sum_i64 {a b s : Nat} (h : a + b = s) (hs : s ≤ 1000000) : IntKind.i64.wrap ((a : Int) + (b : Int)) = (s : Int) := by rw [IntWalk.i64_in _ (by omega)]; omega
theorem sum_w64 {a b s : Nat} (h : a + b = s) (hs : s ≤ 1000000) : wrap64 ((a : Int) + (b : Int)) = (s : Int) := by unfold wrap64; omega
end Go.Proofs.Qu
namespace Go.Proofs.YtjmibgomkgkhnaaGreat
open Go.Proofs.Qu Go.Proofs.Nm Go.RowKit Go.Proofs
theorem Index_w {mb mo mn mc : Nat} {M : List Nat} (hm : OkM mn M) (base n part : Nat) (hn : okN n) (hb : base + sizeN n ≤ mn) (h : part + 4 ≤ sizeN n) {x : Nat} (hx : getN M (base + (part + 2)) 2 = x) (w : World) (hr : Rd w 1 (.slice (some ⟨mb, mo, none⟩) mn mc) (cellsB M)) :
   Calls Tryz.prog 90 #[(.agg #[(.slice (some ⟨mb, mo, none⟩) mn mc)]), .int .i64 base, .int .i64 n, .int .i64 part] w fun e w' => e = .returned (.tuple #[.int .u16 x, .int .i64 0]) ∧ New w w' := by
 have hv0 := (Mem.nil w).old hr
 have hv : Mem w w [] [(1, (.slice (some ⟨mb, mo, none⟩) mn mc), cellsB M)] := hv0
 have HM : Hid (InM [(1, (.slice (some ⟨mb, mo, none⟩) mn mc), cellsB M)] mb mo mn mc M) := Lib.hid ⟨Mem.z, hm.len, hm.pos, hm.most, hm.good⟩
 clear hv0 hr
 have HN := Lib.hid hn
 have HB := Lib.hid hb
 have HM8 : Hid (mn ≤ 8192) := Lib.hid hm.most
 have HOK := Lib.hid hm
 have hm8 := hm.most
 have hsz := hn.size
 have hle := hn.le
 have H1 := Lib.hid hx
 have HP : Hid (base + (part + 2) ≤ 100000) := Lib.hid (by omega)
 have HH : Hid (base + (part + 2) + 2 ≤ mn) := Lib.hid (by omega)
 have q1 : IntKind.i64.wrap ((part : Int) + 2) = ((part + 2 : Nat) : Int) := by rw [IntWalk.i64_in _ (by omega)]; omega
 clear hn hb h hx hm8 hsz hle hm
 go_enter Tryz.func90, Tryz.ntmps90
 go_wp2_with (first
   | ((with_reducible refine at_box (T := 26) (dst := some 4) ?_); refine wl_newb rfl #[(.slice (some ⟨mb, mo, none⟩) mn mc)] 26 (fun _ => rfl) ?_; intro b4 w2 hm2; replace hv := hv.madeAt hm2; clear hm2)
   | ((with_reducible refine at_alloc (T := 27) (dst := some 10) ?_); refine wl_newb rfl #[.int .u16 0] 27 (fun _ => rfl) ?_; intro b10 w2 hm2; replace hv := hv.madeAt hm2; clear hm2)
   | ((with_reducible refine at_load (T := 26) ?_); refine wl_ldv rfl b4 rfl _ hv.vars.ro 1 _ Tryz.underlying26 rfl infoM (by decide) rfl ?_)
   | (go_at_call 92; (refine (reading_M hv HM.out base n (part + 2) HN.out HB.out HP.out (enters_of Tryz.func117 (by kernel_rfl) rfl) (cap := #[.pointer (some ⟨b10, 0, none⟩)]) (Post := fun w' => Mem w w' ((b10, #[.int .u16 x]) :: (b4, #[(.slice (some ⟨mb, mo, none⟩) mn mc)]) :: []) [(1, (.slice (some ⟨mb, mo, none⟩) mn mc), cellsB M)]) (fun bF w1 hv1 => IdxC hv1 HM.out HH.out H1.out)).mono ?_); rintro e w1 ⟨rfl, hv1⟩; replace hv := hv1; clear hv1)
   | ((with_reducible refine at_load (T := 27) ?_); refine wl_ldc rfl b10 0 rfl _ hv.vars.ro _ Tryz.underlying27 rfl (.int .u16 x) rfl ?_))
 go_ret2
 exact ⟨rfl, hv.below⟩
theorem Avail_w {mb mo mn mc : Nat} {M : List Nat} (hm : OkM mn M) (base n : Nat) (hn : okN n) (hb : base + sizeN n ≤ mn) {x : Nat} (hx : getN M (base + (16 * n + 2)) 2 = x) (w : World) (hr : Rd w 1 (.slice (some ⟨mb, mo, none⟩) mn mc) (cellsB M)) :
   Calls Tryz.prog 57 #[(.agg #[(.slice (some ⟨mb, mo, none⟩) mn mc)]), .int .i64 base, .int .i64 n] w fun e w' => e = .returned (.tuple #[.int .u16 x, .int .i64 0]) ∧ New w w' := by
 have hv0 := (Mem.nil w).old hr
 have hv : Mem w w [] [(1, (.slice (some ⟨mb, mo, none⟩) mn mc), cellsB M)] := hv0
 have HM : Hid (InM [(1, (.slice (some ⟨mb, mo, none⟩) mn mc), cellsB M)] mb mo mn mc M) := Lib.hid ⟨Mem.z, hm.len, hm.pos, hm.most, hm.good⟩
 clear hv0 hr
 have HN := Lib.hid hn
 have HB := Lib.hid hb
 have HM8 : Hid (mn ≤ 8192) := Lib.hid hm.most
 have HOK := Lib.hid hm
 have hm8 := hm.most
 have hsz := hn.size
 have hle := hn.le
 obtain ⟨av, hav⟩ : ∃ av, 16 * n = av := ⟨_, rfl⟩
 have HAV : Hid (∀ w, Calls Tryz.prog 91 #[.int .i64 n] w fun e w' => e = .returned (.int .i64 av) ∧ New w w') := Lib.hid (fun w => by have := avail_ok n HN.out w; rw [hav] at this; exact this)
 rw [hav] at hx
 have HIX : Hid (∀ w, Rd w 1 (.slice (some ⟨mb, mo, none⟩) mn mc) (cellsB M) → Calls Tryz.prog 90 #[(.agg #[(.slice (some ⟨mb, mo, none⟩) mn mc)]), .int .i64 base, .int .i64 n, .int .i64 av] w fun e w' => e = .returned (.tuple #[.int .u16 x, .int .i64 0]) ∧ New w w') := Lib.hid (fun w hr => Index_w HOK.out base n av HN.out HB.out (by rw [← hav]; omega) hx w hr)
 have HPV := Lib.hid hv
 clear hn hb hx hm8 hsz hle hav hm
 go_enter Tryz.func57, Tryz.ntmps57
 go_wp2_with (first
   | ((with_reducible refine at_box (T := 26) (dst := some 3) ?_); refine wl_newb rfl #[(.slice (some ⟨mb, mo, none⟩) mn mc)] 26 (fun _ => rfl) ?_; intro b3 w2 hm2; replace hv := hv.madeAt hm2; clear hm2))
 have HPM := Lib.hid (Any.rd_start hv HM.out.rd)
 refine Any.wp_region_walk [⟨[1000], none⟩, ⟨[], none⟩, ⟨[], none⟩, ⟨[], none⟩, ⟨[], none⟩, ⟨[], none⟩, ⟨[], none⟩, ⟨[], none⟩, ⟨[], none⟩, ⟨[], none⟩] [.val, .val, .val, .val, .val, .val, .val, .val, .val, .val] (by kernel_rfl) (by kernel_rfl) hv.vars ?_
 simp only [List.length_cons, List.length_nil, Nat.zero_add, Any.someVals]
 iterate 10 apply Exists.intro
 repeat (first
   | (refine Any.E_off rfl ?_; simp only [Act.put, sia, scs, scz])
   | (apply Any.E_pureq rfl rfl rfl
      case h => intro K hK; go_big_quiet_op; (refine hK _ ?_; rfl)
      case hr => exact fun _ => rfl
      simp only [Act.put, sia, scs, scz])
   | (apply Any.E_val rfl rfl rfl rfl
      case h =>
        intro E' hA K hK
        first
          | ((with_reducible refine Any.at_qload (T := 26) ?_); refine Any.q_ldv 1000 hA (by decide) rfl rfl 1 _ Tryz.underlying26 rfl infoM (by decide) rfl ?_; refine hK _ ?_; rfl)
          | (go_big_quiet_op; first
            | (refine hK _ ?_; rfl)
            | (refine ⟨_, fun _ _ => rfl, ?_⟩; refine hK _ ?_; rfl)
            | (apply Exists.intro; refine ⟨fun w1 hw1 => ?_, ?_⟩; · (first
                | (go_at_call 91; exact Any.calls_VE (HAV.out _) hw1)
                | (go_at_call 90; exact Any.calls_VE (HIX.out _ (hw1.rdold HPM.out.1 HPM.out.2)) hw1))
               refine hK _ ?_; rfl))
      case hD => rfl
      simp only [Act.put, sia, scs, scz])
   | ((with_reducible refine Any.at_ealloc ?_); refine Any.E_lay rfl rfl rfl (fun _ => rfl) ?_; intro B; simp only [Act.put, sia, scs, scz]))
 try any_goals exact undef
 refine Any.E_nil ?_
 intro w9 hE9
 replace hv : Mem w w9 [(b3, #[(.slice (some ⟨mb, mo, none⟩) mn mc)])] _ := hE9.mem hv [1000] (by decide)
 clear hE9
 go_wp2
 go_ret2
 exact ⟨rfl, hv.below⟩
theorem Used_w {mb mo mn mc : Nat} {M : List Nat} (hm : OkM mn M) (base n : Nat) (hn : okN n) (hb : base + sizeN n ≤ mn) {x : Nat} (hx : getN M (base + (backN n + 2)) 2 = x) (w : World) (hr : Rd w 1 (.slice (some ⟨mb, mo, none⟩) mn mc) (cellsB M)) :
   Calls Tryz.prog 62 #[(.agg #[(.slice (some ⟨mb, mo, none⟩) mn mc)]), .int .i64 base, .int .i64 n] w fun e w' => e = .returned (.tuple #[.int .u16 x, .int .i64 0]) ∧ New w w' := by
 have hv0 := (Mem.nil w).old hr
 have hv : Mem w w [] [(1, (.slice (some ⟨mb, mo, none⟩) mn mc), cellsB M)] := hv0
 have HM : Hid (InM [(1, (.slice (some ⟨mb, mo, none⟩) mn mc), cellsB M)] mb mo mn mc M) := Lib.hid ⟨Mem.z, hm.len, hm.pos, hm.most, hm.good⟩
 clear hv0 hr
 have HN := Lib.hid hn
 have HB := Lib.hid hb
 have HM8 : Hid (mn ≤ 8192) := Lib.hid hm.most
 have HOK := Lib.hid hm
 have hm8 := hm.most
 have hsz := hn.size
 have hle := hn.le
 obtain ⟨av, hav⟩ : ∃ av, backN n = av := ⟨_, rfl⟩
 have HAV : Hid (∀ w, Calls Tryz.prog 88 #[.int .i64 n] w fun e w' => e = .returned (.int .i64 av) ∧ New w w') := Lib.hid (fun w => by have := back_ok n HN.out w; rw [hav] at this; exact this)
 rw [hav] at hx
 have HIX : Hid (∀ w, Rd w 1 (.slice (some ⟨mb, mo, none⟩) mn mc) (cellsB M) → Calls Tryz.prog 90 #[(.agg #[(.slice (some ⟨mb, mo, none⟩) mn mc)]), .int .i64 base, .int .i64 n, .int .i64 av] w fun e w' => e = .returned (.tuple #[.int .u16 x, .int .i64 0]) ∧ New w w') := Lib.hid (fun w hr => Index_w HOK.out base n av HN.out HB.out (by rw [← hav]; omega) hx w hr)
 have HPV := Lib.hid hv
 clear hn hb hx hm8 hsz hle hav hm
 go_enter Tryz.func62, Tryz.ntmps62
 go_wp2_with (first
   | ((with_reducible refine at_box (T := 26) (dst := some 3) ?_); refine wl_newb rfl #[(.slice (some ⟨mb, mo, none⟩) mn mc)] 26 (fun _ => rfl) ?_; intro b3 w2 hm2; replace hv := hv.madeAt hm2; clear hm2))
 have HPM := Lib.hid (Any.rd_start hv HM.out.rd)
 refine Any.wp_region_walk [⟨[1000], none⟩, ⟨[], none⟩, ⟨[], none⟩, ⟨[], none⟩, ⟨[], none⟩, ⟨[], none⟩, ⟨[], none⟩, ⟨[], none⟩, ⟨[], none⟩, ⟨[], none⟩] [.val, .val, .val, .val, .val, .val, .val, .val, .val, .val] (by kernel_rfl) (by kernel_rfl) hv.vars ?_
 simp only [List.length_cons, List.length_nil, Nat.zero_add, Any.someVals]
 iterate 10 apply Exists.intro
 repeat (first
   | (refine Any.E_off rfl ?_; simp only [Act.put, sia, scs, scz])
   | (apply Any.E_pureq rfl rfl rfl
      case h => intro K hK; go_big_quiet_op; (refine hK _ ?_; rfl)
      case hr => exact fun _ => rfl
      simp only [Act.put, sia, scs, scz])
   | (apply Any.E_val rfl rfl rfl rfl
      case h =>
        intro E' hA K hK
        first
          | ((with_reducible refine Any.at_qload (T := 26) ?_); refine Any.q_ldv 1000 hA (by decide) rfl rfl 1 _ Tryz.underlying26 rfl infoM (by decide) rfl ?_; refine hK _ ?_; rfl)
          | (go_big_quiet_op; first
            | (refine hK _ ?_; rfl)
            | (refine ⟨_, fun _ _ => rfl, ?_⟩; refine hK _ ?_; rfl)
            | (apply Exists.intro; refine ⟨fun w1 hw1 => ?_, ?_⟩; · (first
                | (go_at_call 88; exact Any.calls_VE (HAV.out _) hw1)
                | (go_at_call 90; exact Any.calls_VE (HIX.out _ (hw1.rdold HPM.out.1 HPM.out.2)) hw1))
               refine hK _ ?_; rfl))
      case hD => rfl
      simp only [Act.put, sia, scs, scz])
   | ((with_reducible refine Any.at_ealloc ?_); refine Any.E_lay rfl rfl rfl (fun _ => rfl) ?_; intro B; simp only [Act.put, sia, scs, scz]))
 try any_goals exact undef
 refine Any.E_nil ?_
 intro w9 hE9
 replace hv : Mem w w9 [(b3, #[(.slice (some ⟨mb, mo, none⟩) mn mc)])] _ := hE9.mem hv [1000] (by decide)
 clear hE9
 go_wp2
 go_ret2
 exact ⟨rfl, hv.below⟩
theorem AvailAt_w {mb mo mn mc : Nat} {M : List Nat} (hm : OkM mn M) (base n i : Nat) (hn : okN n) (hb : base + sizeN n ≤ mn) (hi : i < 65536) {x : Nat} (hx : getN M (base + (16 * n + (4 + 2 * (i % n)))) 2 = x) (w : World) (hr : Rd w 1 (.slice (some ⟨mb, mo, none⟩) mn mc) (cellsB M)) :
   Calls Tryz.prog 58 #[(.agg #[(.slice (some ⟨mb, mo, none⟩) mn mc)]), .int .i64 base, .int .i64 n, .int .u16 i] w fun e w' => e = .returned (.tuple #[.int .i64 x, .int .i64 0]) ∧ New w w' := by
 have hv0 := (Mem.nil w).old hr
 have hv : Mem w w [] [(1, (.slice (some ⟨mb, mo, none⟩) mn mc), cellsB M)] := hv0
 have HM : Hid (InM [(1, (.slice (some ⟨mb, mo, none⟩) mn mc), cellsB M)] mb mo mn mc M) := Lib.hid ⟨Mem.z, hm.len, hm.pos, hm.most, hm.good⟩
 clear hv0 hr
 have HN := Lib.hid hn
 have HB := Lib.hid hb
 have HM8 : Hid (mn ≤ 8192) := Lib.hid hm.most
 have HOK := Lib.hid hm
 have hm8 := hm.most
 have hsz := hn.size
 have hle := hn.le
 obtain ⟨av, hav⟩ : ∃ av, 16 * n = av := ⟨_, rfl⟩
 have HAV : Hid (∀ w, Calls Tryz.prog 91 #[.int .i64 n] w fun e w' => e = .returned (.int .i64 av) ∧ New w w') := Lib.hid (fun w => by have := avail_ok n HN.out w; rw [hav] at this; exact this)
 obtain ⟨pl, hpl⟩ : ∃ pl, 4 + 2 * (i % n) = pl := ⟨_, rfl⟩
 have HPL : Hid (∀ w, Calls Tryz.prog 93 #[.int .i64 n, .int .u16 i, .int .i64 2] w fun e w' => e = .returned (.int .i64 pl) ∧ New w w') := Lib.hid (fun w => by have := place_ok n i 2 HN.out hi (by decide) w; rw [hpl] at this; exact this)
 obtain ⟨s, hs⟩ : ∃ s, av + pl = s := ⟨_, rfl⟩
 rw [hav, hpl, hs] at hx
 have hsb : s + 2 ≤ sizeN n ∧ sizeN n ≤ 424 := by rw [← hs, ← hav, ← hpl]; exact avail_bnd hn
 have hs9 : s ≤ 1000000 := Nat.le_trans (Nat.le_trans (Nat.le_add_right _ _) hsb.1) (Nat.le_trans hsb.2 (by decide))
 have q1 : IntKind.i64.wrap ((av : Int) + (pl : Int)) = (s : Int) := sum_i64 hs hs9
 have q3 : wrap64 ((av : Int) + (pl : Int)) = (s : Int) := sum_w64 hs hs9
 have HH : Hid (base + s + 2 ≤ mn) := Lib.hid (by rw [Nat.add_assoc]; exact Nat.le_trans (Nat.add_le_add_left hsb.1 base) hb)
 have HP : Hid (base + s ≤ 100000) := Lib.hid (Nat.le_trans (Nat.le_trans (Nat.le_add_right _ _) HH.out) (Nat.le_trans hm8 (by decide)))
 have H1 := Lib.hid hx
 clear hn hb hi hm8 hsz hle hav hpl hs hsb hs9 hm hx
 go_enter Tryz.func58, Tryz.ntmps58
 go_wp2_with (first
   | ((with_reducible refine at_box (T := 26) (dst := some 4) ?_); refine wl_newb rfl #[(.slice (some ⟨mb, mo, none⟩) mn mc)] 26 (fun _ => rfl) ?_; intro b4 w2 hm2; replace hv := hv.madeAt hm2; clear hm2)
   | ((with_reducible refine at_alloc (T := 3) (dst := some 10) ?_); refine wl_newb rfl #[.int .i64 0] 3 (fun _ => rfl) ?_; intro b10 w2 hm2; replace hv := hv.madeAt hm2; clear hm2)
   | ((with_reducible refine at_store (T := 3) ?_); refine wl_stc rfl b10 0 rfl (.int .i64 0) rfl _ hv.vars.ro hv.vars.so (by kernel_rfl) rfl (by show 0 < 1; decide) ?_; intro w2 hw2; replace hv := hv.sets (by repeat first | exact .z | apply SetM.s) hw2; clear hw2))
 replace hv : Mem w _ ([(b10, _), (b4, _)] ++ ([] : List (Nat × Array Value))) _ := hv
 refine Any.wp_region_cut 10 [⟨[1001], none⟩, ⟨[], none⟩, ⟨[], none⟩, ⟨[], none⟩, ⟨[], none⟩, ⟨[], none⟩, ⟨[], none⟩, ⟨[], none⟩, ⟨[], none⟩, ⟨[], none⟩, ⟨[], none⟩, ⟨[], none⟩] [.val, .val, .val, .val, .val, .val, .val, .val, .val, .val] (by kernel_rfl) (by kernel_rfl) (hv.vars.keep (List.sublist_append_left [(b10, #[.int .i64 0]), (b4, #[(.slice (some ⟨mb, mo, none⟩) mn mc)])] ([] : List (Nat × Array Value)))) ?_
 simp only [Any.someVals, List.take_succ_cons, List.take_zero]
 iterate 10 apply Exists.intro
 repeat (first
   | (refine Any.E_off rfl ?_; simp only [Act.put, sia, scs, scz])
   | (apply Any.E_pureq rfl rfl rfl
      case h => intro K hK; go_big_quiet_op; (refine hK _ ?_; rfl)
      case hr => exact fun _ => rfl
      simp only [Act.put, sia, scs, scz])
   | (apply Any.E_val rfl rfl rfl rfl
      case h =>
        intro E' hA K hK
        first
          | ((with_reducible refine Any.at_qload (T := 26) ?_); refine Any.q_ldv 1001 hA (by decide) rfl rfl 1 _ Tryz.underlying26 rfl infoM (by decide) rfl ?_; refine hK _ ?_; rfl)
          | (go_big_quiet_op; first
            | (refine hK _ ?_; rfl)
            | (refine ⟨_, fun _ _ => rfl, ?_⟩; refine hK _ ?_; rfl)
            | (apply Exists.intro; refine ⟨fun w1 hw1 => ?_, ?_⟩; · (first
                | (go_at_call 91; exact Any.calls_VE (HAV.out _) hw1)
                | (go_at_call 93; exact Any.calls_VE (HPL.out _) hw1))
               refine hK _ ?_; rfl))
      case hD => rfl
      simp only [Act.put, sia, scs, scz])
   | ((with_reducible refine Any.at_ealloc ?_); refine Any.E_lay rfl rfl rfl (fun _ => rfl) ?_; intro B; simp only [Act.put, sia, scs, scz]))
 try any_goals exact undef
 refine Any.E_nil ?_
 intro w9 hE9
 replace hv : Mem w w9 ([(b10, #[.int .i64 0]), (b4, #[(.slice (some ⟨mb, mo, none⟩) mn mc)])] ++ ([] : List (Nat × Array Value))) _ := hE9.memr (L1 := [(b10, #[.int .i64 0]), (b4, #[(.slice (some ⟨mb, mo, none⟩) mn mc)])]) hv [1000, 1001] (by decide)
 clear hE9
 refine Any.wpOp_callv rfl rfl (Go.Proofs.enters_of Tryz.func92 (by kernel_rfl) rfl) rfl [(.agg #[(.slice (some ⟨mb, mo, none⟩) mn mc)]), .int .i64 base, .int .i64 n, .int .i64 s, .func (.func 94) #[] #[.pointer (some ⟨b10, 0, none⟩)]] rfl ?_
 refine (reading_M hv HM.out base n s HN.out HB.out HP.out (Go.Proofs.enters_of Tryz.func94 (by kernel_rfl) rfl) (cap := #[.pointer (some ⟨b10, 0, none⟩)]) (Post := fun w' => Mem w w' ((b10, #[.int .i64 x]) :: (b4, #[(.slice (some ⟨mb, mo, none⟩) mn mc)]) :: []) [(1, (.slice (some ⟨mb, mo, none⟩) mn mc), cellsB M)]) (fun bF w1 hv1 => AvatC hv1 HM.out HH.out H1.out)).mono ?_
 rintro e w1 ⟨rfl, hv1⟩
 replace hv := hv1
 clear hv1
 refine ⟨_, rfl, ?_⟩
 replace hv : Mem w _ ([(b10, _), (b4, _)] ++ ([] : List (Nat × Array Value))) _ := hv
 refine Any.wpAny_rest 11 [⟨[], none⟩] [.val] (by kernel_rfl) (hv.vars.keep (List.sublist_append_left [(b10, #[.int .i64 x]), (b4, #[(.slice (some ⟨mb, mo, none⟩) mn mc)])] ([] : List (Nat × Array Value)))) ?_
 simp only [List.length_cons, List.length_nil, Nat.zero_add, Nat.reduceAdd, Nat.reduceSub, Any.someVals, List.drop_succ_cons, List.drop_zero]
 simp only [Act.put, sia, scs, scz]
 iterate 1 apply Exists.intro
 repeat (first
   | (refine Any.E_off rfl ?_; simp only [Act.put, sia, scs, scz])
   | (apply Any.E_pureq rfl rfl rfl
      case h => intro K hK; go_big_quiet_op; (refine hK _ ?_; rfl)
      case hr => exact fun _ => rfl
      simp only [Act.put, sia, scs, scz])
   | (apply Any.E_val rfl rfl rfl rfl
      case h =>
        intro E' hA K hK
        first
          | ((with_reducible refine Any.at_qload (T := 26) ?_); refine Any.q_ldv 1001 hA (by decide) rfl rfl 1 _ Tryz.underlying26 rfl infoM (by decide) rfl ?_; refine hK _ ?_; rfl)
          | (go_big_quiet_op; first
            | (refine hK _ ?_; rfl)
            | (refine ⟨_, fun _ _ => rfl, ?_⟩; refine hK _ ?_; rfl)
            | (apply Exists.intro; refine ⟨fun w1 hw1 => ?_, ?_⟩; · (first
                | (go_at_call 91; exact Any.calls_VE (HAV.out _) hw1)
                | (go_at_call 93; exact Any.calls_VE (HPL.out _) hw1))
               refine hK _ ?_; rfl))
      case hD => rfl
      simp only [Act.put, sia, scs, scz])
   | ((with_reducible refine Any.at_ealloc ?_); refine Any.E_lay rfl rfl rfl (fun _ => rfl) ?_; intro B; simp only [Act.put, sia, scs, scz]))
 try any_goals exact undef
 refine Any.E_nil ?_
 intro w9 hE9
 replace hv : Mem w w9 ([(b10, #[.int .i64 x]), (b4, #[(.slice (some ⟨mb, mo, none⟩) mn mc)])] ++ ([] : List (Nat × Array Value))) _ := hE9.memr0 (L1 := [(b10, #[.int .i64 x]), (b4, #[(.slice (some ⟨mb, mo, none⟩) mn mc)])]) hv [1000, 1001] (by decide)
 clear hE9
 simp only [List.cons_append, List.nil_append] at hv
 go_wp2_with (first
   | ((with_reducible refine at_load (T := 3) ?_); refine wl_ldc rfl b10 0 rfl _ hv.vars.ro _ Tryz.underlying3 rfl (.int .i64 x) rfl ?_))
 go_ret2
 exact ⟨rfl, hv.below⟩
theorem UsedAt_w {mb mo mn mc : Nat} {M : List Nat} (hm : OkM mn M) (base n i : Nat) (hn : okN n) (hb : base + sizeN n ≤ mn) (hi : i < 65536) {a l : Nat} (h1 : getN M (base + (backN n + (4 + 8 * (i % n)))) 4 = a) (h2 : getN M (base + (backN n + (4 + 8 * (i % n))) + 4) 4 = l) (w : World) (hr : Rd w 1 (.slice (some ⟨mb, mo, none⟩) mn mc) (cellsB M)) :
   Calls Tryz.prog 63 #[(.agg #[(.slice (some ⟨mb, mo, none⟩) mn mc)]), .int .i64 base, .int .i64 n, .int .u16 i] w fun e w' => e = .returned (.tuple #[.agg #[.int .u32 a, .int .u32 l], .int .i64 0]) ∧ New w w' := by
 have hv0 := (Mem.nil w).old hr
 have hv : Mem w w [] [(1, (.slice (some ⟨mb, mo, none⟩) mn mc), cellsB M)] := hv0
 have HM : Hid (InM [(1, (.slice (some ⟨mb, mo, none⟩) mn mc), cellsB M)] mb mo mn mc M) := Lib.hid ⟨Mem.z, hm.len, hm.pos, hm.most, hm.good⟩
 clear hv0 hr
 have HN := Lib.hid hn
 have HB := Lib.hid hb
 have HM8 : Hid (mn ≤ 8192) := Lib.hid hm.most
 have HOK := Lib.hid hm
 have hm8 := hm.most
 have hsz := hn.size
 have hle := hn.le
 obtain ⟨av, hav⟩ : ∃ av, backN n = av := ⟨_, rfl⟩
 have HAV : Hid (∀ w, Calls Tryz.prog 88 #[.int .i64 n] w fun e w' => e = .returned (.int .i64 av) ∧ New w w') := Lib.hid (fun w => by have := back_ok n HN.out w; rw [hav] at this; exact this)
 obtain ⟨pl, hpl⟩ : ∃ pl, 4 + 8 * (i % n) = pl := ⟨_, rfl⟩
 have HPL : Hid (∀ w, Calls Tryz.prog 93 #[.int .i64 n, .int .u16 i, .int .i64 8] w fun e w' => e = .returned (.int .i64 pl) ∧ New w w') := Lib.hid (fun w => by have := place_ok n i 8 HN.out hi (by decide) w; rw [hpl] at this; exact this)
 obtain ⟨s, hs⟩ : ∃ s, av + pl = s := ⟨_, rfl⟩
 rw [hav, hpl, hs] at h1 h2
 have hsb : s + 8 ≤ sizeN n ∧ sizeN n ≤ 424 := by rw [← hs, ← hav, ← hpl]; exact used_bnd hn
 have hs9 : s ≤ 1000000 := Nat.le_trans (Nat.le_trans (Nat.le_add_right _ _) hsb.1) (Nat.le_trans hsb.2 (by decide))
 have q1 : IntKind.i64.wrap ((av : Int) + (pl : Int)) = (s : Int) := sum_i64 hs hs9
 have q3 : wrap64 ((av : Int) + (pl : Int)) = (s : Int) := sum_w64 hs hs9
 have HH : Hid (base + s + 8 ≤ mn) := Lib.hid (by rw [Nat.add_assoc]; exact Nat.le_trans (Nat.add_le_add_left hsb.1 base) hb)
 have HP : Hid (base + s ≤ 100000) := Lib.hid (Nat.le_trans (Nat.le_trans (Nat.le_add_right _ _) HH.out) (Nat.le_trans hm8 (by decide)))
 have H1 := Lib.hid h1
 have H2 := Lib.hid h2
 clear hn hb hi hm8 hsz hle hav hpl hs hsb hs9 hm h1 h2
 go_enter Tryz.func63, Tryz.ntmps63
 go_wp2_with (first
   | ((with_reducible refine at_box (T := 26) (dst := some 4) ?_); refine wl_newb rfl #[(.slice (some ⟨mb, mo, none⟩) mn mc)] 26 (fun _ => rfl) ?_; intro b4 w2 hm2; replace hv := hv.madeAt hm2; clear hm2)
   | ((with_reducible refine at_alloc (T := 142) (dst := some 8) ?_); refine wl_newb rfl #[.int .u32 0, .int .u32 0] 142 (fun _ => rfl) ?_; intro b8 w2 hm2; replace hv := hv.madeAt hm2; clear hm2)
   | ((with_reducible refine at_alloc (T := 142) (dst := some 10) ?_); refine wl_newb rfl #[.int .u32 0, .int .u32 0] 142 (fun _ => rfl) ?_; intro b10 w2 hm2; replace hv := hv.madeAt hm2; clear hm2))
 replace hv : Mem w _ ([(b10, _), (b8, _), (b4, _)] ++ ([] : List (Nat × Array Value))) _ := hv
 refine Any.wp_region_cut 10 [⟨[1002], none⟩, ⟨[], none⟩, ⟨[], none⟩, ⟨[], none⟩, ⟨[], none⟩, ⟨[], none⟩, ⟨[], none⟩, ⟨[], none⟩, ⟨[], none⟩, ⟨[], none⟩, ⟨[], none⟩, ⟨[], none⟩] [.val, .val, .val, .val, .val, .val, .val, .val, .val, .val] (by kernel_rfl) (by kernel_rfl) (hv.vars.keep (List.sublist_append_left [(b10, #[.int .u32 0, .int .u32 0]), (b8, #[.int .u32 0, .int .u32 0]), (b4, #[(.slice (some ⟨mb, mo, none⟩) mn mc)])] ([] : List (Nat × Array Value)))) ?_
 simp only [Any.someVals, List.take_succ_cons, List.take_zero]
 iterate 10 apply Exists.intro
 repeat (first
   | (refine Any.E_off rfl ?_; simp only [Act.put, sia, scs, scz])
   | (apply Any.E_pureq rfl rfl rfl
      case h => intro K hK; go_big_quiet_op; (refine hK _ ?_; rfl)
      case hr => exact fun _ => rfl
      simp only [Act.put, sia, scs, scz])
   | (apply Any.E_val rfl rfl rfl rfl
      case h =>
        intro E' hA K hK
        first
          | ((with_reducible refine Any.at_qload (T := 26) ?_); refine Any.q_ldv 1002 hA (by decide) rfl rfl 1 _ Tryz.underlying26 rfl infoM (by decide) rfl ?_; refine hK _ ?_; rfl)
          | (go_big_quiet_op; first
            | (refine hK _ ?_; rfl)
            | (refine ⟨_, fun _ _ => rfl, ?_⟩; refine hK _ ?_; rfl)
            | (apply Exists.intro; refine ⟨fun w1 hw1 => ?_, ?_⟩; · (first
                | (go_at_call 88; exact Any.calls_VE (HAV.out _) hw1)
                | (go_at_call 93; exact Any.calls_VE (HPL.out _) hw1))
               refine hK _ ?_; rfl))
      case hD => rfl
      simp only [Act.put, sia, scs, scz])
   | ((with_reducible refine Any.at_ealloc ?_); refine Any.E_lay rfl rfl rfl (fun _ => rfl) ?_; intro B; simp only [Act.put, sia, scs, scz]))
 try any_goals exact undef
 refine Any.E_nil ?_
 intro w9 hE9
 replace hv : Mem w w9 ([(b10, #[.int .u32 0, .int .u32 0]), (b8, #[.int .u32 0, .int .u32 0]), (b4, #[(.slice (some ⟨mb, mo, none⟩) mn mc)])] ++ ([] : List (Nat × Array Value))) _ := hE9.memr (L1 := [(b10, #[.int .u32 0, .int .u32 0]), (b8, #[.int .u32 0, .int .u32 0]), (b4, #[(.slice (some ⟨mb, mo, none⟩) mn mc)])]) hv [1000, 1001, 1002] (by decide)
 clear hE9
 refine Any.wpOp_callv rfl rfl (Go.Proofs.enters_of Tryz.func92 (by kernel_rfl) rfl) rfl [(.agg #[(.slice (some ⟨mb, mo, none⟩) mn mc)]), .int .i64 base, .int .i64 n, .int .i64 s, .func (.func 100) #[] #[.pointer (some ⟨b10, 0, none⟩)]] rfl ?_
 refine (reading_M hv HM.out base n s HN.out HB.out HP.out (Go.Proofs.enters_of Tryz.func100 (by kernel_rfl) rfl) (cap := #[.pointer (some ⟨b10, 0, none⟩)]) (Post := fun w' => Mem w w' ((b10, #[.int .u32 a, .int .u32 l]) :: (b8, #[.int .u32 0, .int .u32 0]) :: (b4, #[(.slice (some ⟨mb, mo, none⟩) mn mc)]) :: []) [(1, (.slice (some ⟨mb, mo, none⟩) mn mc), cellsB M)]) (fun bF w1 hv1 => UsatC hv1 HM.out HH.out H1.out H2.out)).mono ?_
 rintro e w1 ⟨rfl, hv1⟩
 replace hv := hv1
 clear hv1
 refine ⟨_, rfl, ?_⟩
 replace hv : Mem w _ ([(b10, _), (b8, _), (b4, _)] ++ ([] : List (Nat × Array Value))) _ := hv
 refine Any.wpAny_rest 11 [⟨[], none⟩] [.val] (by kernel_rfl) (hv.vars.keep (List.sublist_append_left [(b10, #[.int .u32 a, .int .u32 l]), (b8, #[.int .u32 0, .int .u32 0]), (b4, #[(.slice (some ⟨mb, mo, none⟩) mn mc)])] ([] : List (Nat × Array Value)))) ?_
 simp only [List.length_cons, List.length_nil, Nat.zero_add, Nat.reduceAdd, Nat.reduceSub, Any.someVals, List.drop_succ_cons, List.drop_zero]
 simp only [Act.put, sia, scs, scz]
 iterate 1 apply Exists.intro
 repeat (first
   | (refine Any.E_off rfl ?_; simp only [Act.put, sia, scs, scz])
   | (apply Any.E_pureq rfl rfl rfl
      case h => intro K hK; go_big_quiet_op; (refine hK _ ?_; rfl)
      case hr => exact fun _ => rfl
      simp only [Act.put, sia, scs, scz])
   | (apply Any.E_val rfl rfl rfl rfl
      case h =>
        intro E' hA K hK
        first
          | ((with_reducible refine Any.at_qload (T := 26) ?_); refine Any.q_ldv 1002 hA (by decide) rfl rfl 1 _ Tryz.underlying26 rfl infoM (by decide) rfl ?_; refine hK _ ?_; rfl)
          | (go_big_quiet_op; first
            | (refine hK _ ?_; rfl)
            | (refine ⟨_, fun _ _ => rfl, ?_⟩; refine hK _ ?_; rfl)
            | (apply Exists.intro; refine ⟨fun w1 hw1 => ?_, ?_⟩; · (first
                | (go_at_call 88; exact Any.calls_VE (HAV.out _) hw1)
                | (go_at_call 93; exact Any.calls_VE (HPL.out _) hw1))
               refine hK _ ?_; rfl))
      case hD => rfl
      simp only [Act.put, sia, scs, scz])
   | ((with_reducible refine Any.at_ealloc ?_); refine Any.E_lay rfl rfl rfl (fun _ => rfl) ?_; intro B; simp only [Act.put, sia, scs, scz]))
 try any_goals exact undef
 refine Any.E_nil ?_
 intro w9 hE9
 replace hv : Mem w w9 ([(b10, #[.int .u32 a, .int .u32 l]), (b8, #[.int .u32 0, .int .u32 0]), (b4, #[(.slice (some ⟨mb, mo, none⟩) mn mc)])] ++ ([] : List (Nat × Array Value))) _ := hE9.memr0 (L1 := [(b10, #[.int .u32 a, .int .u32 l]), (b8, #[.int .u32 0, .int .u32 0]), (b4, #[(.slice (some ⟨mb, mo, none⟩) mn mc)])]) hv [1000, 1001, 1002] (by decide)
 clear hE9
 simp only [List.cons_append, List.nil_append] at hv
 go_wp2_with (first
   | ((with_reducible refine at_load (T := 142) ?_); refine wl_ldv rfl b10 rfl _ hv.vars.ro 2 _ Tryz.underlying142 rfl infoUs (by decide) rfl ?_)
   | ((with_reducible refine at_store (T := 142) ?_); refine wl_stv rfl b8 rfl _ rfl _ hv.vars.ro hv.vars.so 2 infoUs rfl rfl (by simp [Value.oneCell']) ?_; intro w2 hw2; replace hv := hv.sets (by repeat first | exact .z | apply SetM.s) hw2; clear hw2))
 try simp only [Exit.inBlock, Exit.then]
 exact ret_cell2 (v := .agg #[.int .u32 a, .int .u32 l]) (v1 := .int .i64 0) rfl rfl (read_row _ b8 142 _ (hv.vars.ro (b := b8)) 2 _ Tryz.underlying142 rfl infoUs (by decide) rfl) rfl rfl ⟨rfl, hv.below⟩
end Go.Proofs.YtjmibgomkgkhnaaGreat
end

section
/-
 Rings: what writes one.
-/
namespace Go.Proofs.Qu
open Go Go.RowKit Go.Proofs.Nm
def setD (M : List Nat) (p a l f x : Nat) : List Nat := putB (putB (putB (putB M p (leB a 8)) (p + 8) (leB l 4)) (p + 8 + 4) (leB f 2)) (p + 8 + 4 + 2) (leB x 2)
theorem leB_fromTo : ∀ (k : Nat) {l : List Nat}, goodB l → l.length = k → leB (fromTo l k) k = l := by
 intro k l hg hl
 apply List.ext_getElem?
 intro i
 unfold leB
 rw [List.getElem?_map]
 by_cases hi : i < k
 · rw [List.getElem?_range hi, Option.map_some, List.getElem?_eq_getElem (by omega)]
   congr 1
   -- the i-th byte
   have key : ∀ (k : Nat), i < k → k ≤ l.length → fromTo l k / 256 ^ i % 256 = l.getD i 0 := by
     intro k
     induction k with
     | zero => intro h; omega
     | succ k ih =>
       intro h1 h2
       have hlt := fromTo_lt hg k
       have hb := goodB_at hg k
       show (fromTo l k + l.getD k 0 * 256 ^ k) / 256 ^ i % 256 = _
       rcases Nat.lt_or_ge i k with h | h
       · have e : l.getD k 0 * 256 ^ k = (l.getD k 0 * 256 ^ (k - i - 1) * 256) * 256 ^ i := by
           rw [Nat.mul_assoc, Nat.mul_assoc, ← Nat.pow_succ', ← Nat.pow_add]
           congr 2; omega
         rw [e, Nat.add_mul_div_right _ _ (Nat.pow_pos (by decide)), Nat.add_mul_mod_self_right]
         exact ih h (by omega)
       · obtain rfl : i = k := by omega
         rw [Nat.add_mul_div_right _ _ (Nat.pow_pos (by decide)), Nat.div_eq_of_lt hlt, Nat.zero_add, Nat.mod_eq_of_lt hb]
   rw [key k hi (by omega)]
   simp [List.getD, List.getElem?_eq_getElem (show i < l.length by omega)]
 · rw [List.getElem?_eq_none (by simp; omega), List.getElem?_eq_none (by omega)]; rfl
theorem leB_fromB {k : Nat} {l : List Nat} (hg : goodB l) (hl : l.length = k) (hk : k ≤ 8) : leB (fromB l) k = l := by
 unfold fromB
 rw [hl, Nat.min_eq_right hk]
 exact leB_fromTo k hg hl
theorem putB_getB (M : List Nat) (p k : Nat) (h : p + k ≤ M.length) : putB M p (getB M p k) = M := by
 unfold putB
 rw [getB_len h]
 unfold getB
 rw [List.append_assoc, show M.drop (p + k) = (M.drop p).drop k from by rw [List.drop_drop], List.take_append_drop, List.take_append_drop]
theorem put_same {M : List Nat} {p k a : Nat} (hg : goodB M) (hk : k ≤ 8) (h : p + k ≤ M.length) (ha : getN M p k = a) : putB M p (leB a k) = M := by
 rw [← ha]
 unfold getN
 rw [leB_fromB (getB_good hg) (getB_len h) hk, putB_getB M p k h]
theorem setD_same {M : List Nat} {p a l f x : Nat} (hg : goodB M) (h : p + 16 ≤ M.length) (h1 : getN M p 8 = a) (h2 : getN M (p + 8) 4 = l) (h3 : getN M (p + 8 + 4) 2 = f) (h4 : getN M (p + 8 + 4 + 2) 2 = x) : setD M p a l f x = M := by
 unfold setD
 rw [put_same hg (by decide) (by omega) h1, put_same hg (by decide) (by omega) h2, put_same hg (by decide) (by omega) h3, put_same hg (by decide) (by omega) h4]
theorem perm_sd {α : Type} (f b12 b10 b9 b5 : α) (L : List α) : (f :: b12 :: b10 :: b9 :: b5 :: L).Perm (f :: b5 :: b9 :: b12 :: b10 :: L) := .cons _ (((List.perm_append_comm (l₁ := [b12, b10]) (l₂ := [b9, b5])).trans (.append_right _ (List.Perm.swap b5 b9 []))).append_right L)
end Go.Proofs.Qu
namespace Go.Proofs.YtjmibgomkgkhnaaGreat
open Go.Proofs.Qu Go.Proofs.Nm Go.RowKit Go.Proofs
theorem SetDC {bM bD : Nat} {v0 : Value} {a l f x : Nat} {w0 w : World} {L : List (Nat × Array Value)} {R : List (Nat × Value × List Value)} {bF mb mo mn mc p : Nat} {M : List Nat} (hv : Mem w0 w ((bF, #[(.slice (some ⟨mb, mo, none⟩) mn mc), .int .i64 p]) :: (bM, #[v0]) :: (bD, #[.int .u64 a, .int .u32 l, .int .u16 f, .int .u16 x]) :: L) R) (hm : InM R mb mo mn mc M) (ha : a < 18446744073709551616) (hl : l < 4294967296) (hf : f < 65536) (hx : x < 65536) (h : p + 16 ≤ mn) :
   Calls Tryz.prog 120 #[.pointer (some ⟨bF, 0, none⟩), .pointer (some ⟨bD, 0, none⟩), .pointer (some ⟨bM, 0, none⟩)] w fun e w' => e = .returned (.tuple #[]) ∧ ∃ b c R', Mem w0 w' ((bM, #[.slice (some ⟨b, 0, none⟩) mn c]) :: (bD, #[.int .u64 a, .int .u32 l, .int .u16 f, .int .u16 x]) :: L) R' ∧ InM R' b 0 mn c (setD M p a l f x) ∧ ∀ x ∈ R, x ∈ R' := by
 have HM := Lib.hid hm
 have HSUB : Hid (∀ x ∈ R, x ∈ R) := Lib.hid (fun x hx => hx)
 have P1 : Hid (p + 8 ≤ mn) := Lib.hid (by omega)
 have P2 : Hid (p + 8 + 4 ≤ mn) := Lib.hid (by omega)
 have P3 : Hid (p + 8 + 4 + 2 ≤ mn) := Lib.hid (by omega)
 have P4 : Hid (p + 8 + 4 + 2 + 2 ≤ mn) := Lib.hid (by omega)
 have A1 := Lib.hid ha
 have A2 : Hid (l < 18446744073709551616) := Lib.hid (by omega)
 have A3 : Hid (f < 18446744073709551616) := Lib.hid (by omega)
 have A4 : Hid (x < 18446744073709551616) := Lib.hid (by omega)
 have q2 : IntKind.u64.wrap (l : Int) = (l : Int) := wrap_u64 (by omega)
 have q3 : IntKind.u64.wrap (f : Int) = (f : Int) := wrap_u64 (by omega)
 have q4 : IntKind.u64.wrap (x : Int) = (x : Int) := wrap_u64 (by omega)
 clear ha hl hf hx h hm
 go_enter Tryz.func120, Tryz.ntmps120
 go_wp2_with (first
   | (go_at_call 98; (with_reducible refine (put_8 hv HM.out a A1.out P1.out).mono ?_); rintro e w1 ⟨rfl, vb, vc, R1, hv1, hi1, hs1⟩; replace hv := hv1; replace HM := Lib.hid hi1; replace HSUB := Lib.hid (fun x hx => hs1 x (HSUB.out x hx)); clear hv1 hi1 hs1)
   | (go_at_call 98; (with_reducible refine (put_4 hv HM.out l A2.out P2.out).mono ?_); rintro e w1 ⟨rfl, vb, vc, R1, hv1, hi1, hs1⟩; replace hv := hv1; replace HM := Lib.hid hi1; replace HSUB := Lib.hid (fun x hx => hs1 x (HSUB.out x hx)); clear hv1 hi1 hs1)
   | (go_at_call 98; (with_reducible refine (put_2 hv HM.out f A3.out P3.out).mono ?_); rintro e w1 ⟨rfl, vb, vc, R1, hv1, hi1, hs1⟩; replace hv := hv1; replace HM := Lib.hid hi1; replace HSUB := Lib.hid (fun x hx => hs1 x (HSUB.out x hx)); clear hv1 hi1 hs1)
   | (go_at_call 98; (with_reducible refine (put_2 hv HM.out x A4.out P4.out).mono ?_); rintro e w1 ⟨rfl, vb, vc, R1, hv1, hi1, hs1⟩; replace hv := hv1; replace HM := Lib.hid hi1; replace HSUB := Lib.hid (fun x hx => hs1 x (HSUB.out x hx)); clear hv1 hi1 hs1)
   | ((with_reducible refine at_load (T := 114) ?_); refine wl_ldc rfl bD 0 rfl _ hv.vars.ro _ Tryz.underlying114 rfl (.int .u64 a) rfl ?_)
   | ((with_reducible refine at_load (T := 135) ?_); refine wl_ldc rfl bD 1 rfl _ hv.vars.ro _ Tryz.underlying135 rfl (.int .u32 l) rfl ?_)
   | ((with_reducible refine at_load (T := 27) ?_); refine wl_ldc rfl bD 2 rfl _ hv.vars.ro _ Tryz.underlying27 rfl (.int .u16 f) rfl ?_)
   | ((with_reducible refine at_load (T := 27) ?_); refine wl_ldc rfl bD 3 rfl _ hv.vars.ro _ Tryz.underlying27 rfl (.int .u16 x) rfl ?_)
   | ((with_reducible refine at_load (T := 26) ?_); refine wl_ldp rfl bF 0 rfl _ hv.vars.ro 1 _ Tryz.underlying26 rfl infoM (by decide) (by show 0 + 1 ≤ 2; decide) #[.slice (some ⟨vb, 0, none⟩) mn vc] rfl ?_)
   | ((with_reducible refine at_store (T := 26) ?_); refine wl_stv rfl bM rfl _ rfl _ hv.vars.ro hv.vars.so 1 infoM rfl rfl (by simp [Value.oneCell']) ?_; intro w2 hw2; replace hv := hv.sets (by repeat first | exact .z | apply SetM.s) hw2; clear hw2))
 go_end0
 exact ⟨rfl, vb, vc, R1, hv.drop, HM.out, HSUB.out⟩
theorem fieldsD : Tryz.prog.underlying 137 = some (.struct (Tryz.prog.fieldsOf 137)) := by kernel_rfl
theorem equalIn_D0 (w : World) (d : Nat) (a0 l0 f0 x0 a l f x : Nat) : (Op.equalIn (d + 2) 137 (.agg #[.int .u64 a0, .int .u32 l0, .int .u16 f0, .int .u16 x0]) (.agg #[.int .u64 a, .int .u32 l, .int .u16 f, .int .u16 x])).run Tryz.prog w = .ok (decide (a0 = a ∧ l0 = l ∧ f0 = f ∧ x0 = x)) w := by
 have h := run_eqStruct (P := Tryz.prog) w (d + 1) 137 #[.int .u64 a0, .int .u32 l0, .int .u16 f0, .int .u16 x0] #[.int .u64 a, .int .u32 l, .int .u16 f, .int .u16 x] [(114, 0), (135, 1), (27, 2), (27, 3)] [(a0 : Int) == (a : Int), (l0 : Int) == (l : Int), (f0 : Int) == (f : Int), (x0 : Int) == (x : Int)] fieldsD (by kernel_rfl) (by kernel_rfl) rfl (fun i hi hc => by
   match i, hi with
   | 0, _ => exact ⟨_, _, run_part_cell w _ _ _ _ _ Tryz.underlying114 rfl rfl, run_part_cell w _ _ _ _ _ Tryz.underlying114 rfl rfl, run_equalIn_int w d _ _ _ _ _ Tryz.underlying114⟩
   | 1, _ => exact ⟨_, _, run_part_cell w _ _ _ _ _ Tryz.underlying135 rfl rfl, run_part_cell w _ _ _ _ _ Tryz.underlying135 rfl rfl, run_equalIn_int w d _ _ _ _ _ Tryz.underlying135⟩
   | 2, _ => exact ⟨_, _, run_part_cell w _ _ _ _ _ Tryz.underlying27 rfl rfl, run_part_cell w _ _ _ _ _ Tryz.underlying27 rfl rfl, run_equalIn_int w d _ _ _ _ _ Tryz.underlying27⟩
   | 3, _ => exact ⟨_, _, run_part_cell w _ _ _ _ _ Tryz.underlying27 rfl rfl, run_part_cell w _ _ _ _ _ Tryz.underlying27 rfl rfl, run_equalIn_int w d _ _ _ _ _ Tryz.underlying27⟩)
 have e : ([(a0 : Int) == (a : Int), (l0 : Int) == (l : Int), (f0 : Int) == (f : Int), (x0 : Int) == (x : Int)].all id) = decide (a0 = a ∧ l0 = l ∧ f0 = f ∧ x0 = x) := by
   rw [Bool.eq_iff_iff]
   simp [Int.ofNat_inj]
 rw [h, e]
theorem equalIn_D (w : World) (a0 l0 f0 x0 a l f x : Nat) : (Op.equalIn 10000 137 (.agg #[.int .u64 a0, .int .u32 l0, .int .u16 f0, .int .u16 x0]) (.agg #[.int .u64 a, .int .u32 l, .int .u16 f, .int .u16 x])).run Tryz.prog w = .ok (decide (a0 = a ∧ l0 = l ∧ f0 = f ∧ x0 = x)) w := equalIn_D0 w 9998 a0 l0 f0 x0 a l f x
theorem SetDesc_M {w0 w : World} {L : List (Nat × Array Value)} {R : List (Nat × Value × List Value)} {mb mo mn mc : Nat} {M : List Nat} (hv : Mem w0 w L R) (hm : InM R mb mo mn mc M) (base n i : Nat) (hn : okN n) (hb : base + sizeN n ≤ mn) (hi : i < n) {a l f x : Nat} (ha : a < 18446744073709551616) (hl : l < 4294967296) (hf : f < 65536) (hx : x < 65536) :
   Calls Tryz.prog 105 #[(.agg #[(.slice (some ⟨mb, mo, none⟩) mn mc)]), .int .i64 base, .int .i64 n, .int .i64 i, .agg #[.int .u64 a, .int .u32 l, .int .u16 f, .int .u16 x]] w fun e w' => ∃ b o c R', e = .returned (.tuple #[.agg #[.slice (some ⟨b, o, none⟩) mn c], .int .i64 0]) ∧ Mem w0 w' L R' ∧ InM R' b o mn c (setD M (base + 16 * i) a l f x) ∧ ∀ x ∈ R, x ∈ R' := by
 have HM := Lib.hid hm
 have HN := Lib.hid hn
 have HB := Lib.hid hb
 have HI := Lib.hid hi
 have HA1 := Lib.hid ha
 have HA2 := Lib.hid hl
 have HA3 := Lib.hid hf
 have HA4 := Lib.hid hx
 have hm8 := hm.most
 have hsz := hn.size
 have hle := hn.le
 have HM8 := Lib.hid hm8
 have HP : Hid (base + 16 * i ≤ 100000) := Lib.hid (by omega)
 have HH : Hid (base + 16 * i + 16 ≤ mn) := Lib.hid (by omega)
 have y1 : decide ((i : Int) < 0) = false := decide_eq_false (by omega)
 have y2 : decide ((n : Int) ≤ (i : Int)) = false := decide_eq_false (by omega)
 have z2 : decide (n ≤ i) = false := decide_eq_false (by omega)
 have q1 : IntKind.i64.wrap (16 * (i : Int)) = ((16 * i : Nat) : Int) := by rw [IntWalk.i64_in _ (by omega)]; omega
 obtain ⟨a0, h1⟩ : ∃ y, getN M (base + 16 * i) 8 = y := ⟨_, rfl⟩
 obtain ⟨l0, h2⟩ : ∃ y, getN M (base + 16 * i + 8) 4 = y := ⟨_, rfl⟩
 obtain ⟨f0, h3⟩ : ∃ y, getN M (base + 16 * i + 8 + 4) 2 = y := ⟨_, rfl⟩
 obtain ⟨x0, h4⟩ : ∃ y, getN M (base + 16 * i + 8 + 4 + 2) 2 = y := ⟨_, rfl⟩
 have H1 := Lib.hid h1
 have H2 := Lib.hid h2
 have H3 := Lib.hid h3
 have H4 := Lib.hid h4
 have HQ : ∀ w : World, (Op.equalIn 10000 137 (.agg #[.int .u64 a0, .int .u32 l0, .int .u16 f0, .int .u16 x0]) (.agg #[.int .u64 a, .int .u32 l, .int .u16 f, .int .u16 x])).run Tryz.prog w = .ok (decide (a0 = a ∧ l0 = l ∧ f0 = f ∧ x0 = x)) w := fun w => equalIn_D w a0 l0 f0 x0 a l f x
 generalize hq : decide (a0 = a ∧ l0 = l ∧ f0 = f ∧ x0 = x) = q at *
 have HQ2 := Lib.hid hq
 clear hn hb hi ha hl hf hx hm8 hsz hle h1 h2 h3 h4 hm hq
 cases q
 · go_enter Tryz.func105, Tryz.ntmps105
   go_wp2_with (first
     | ((with_reducible refine at_box (T := 26) (dst := some 5) ?_); refine wl_newb rfl #[(.slice (some ⟨mb, mo, none⟩) mn mc)] 26 (fun _ => rfl) ?_; intro b5 w2 hm2; replace hv := hv.madeAt hm2; clear hm2)
     | ((with_reducible refine at_box (T := 137) (dst := some 9) ?_); refine wl_newb rfl #[.int .u64 a, .int .u32 l, .int .u16 f, .int .u16 x] 137 (fun _ => rfl) ?_; intro b9 w2 hm2; replace hv := hv.madeAt hm2; clear hm2)
     | ((with_reducible refine at_alloc (T := 26) (dst := some 10) ?_); refine wl_newb rfl #[.slice none 0 0] 26 (fun _ => rfl) ?_; intro b10 w2 hm2; replace hv := hv.madeAt hm2; clear hm2)
     | ((with_reducible refine at_load (T := 26) ?_); refine wl_ldv rfl b5 rfl _ hv.vars.ro 1 _ Tryz.underlying26 rfl infoM (by decide) rfl ?_)
     | (go_at_call 53; (with_reducible refine (RingCheck_ok _ _ _ _ _ _ HN.out HB.out HM8.out _).mono ?_); rintro e w1 ⟨rfl, hn1⟩; replace hv := hv.new hn1; clear hn1)
     | (go_at_call 96; (with_reducible refine (Desc_w HM.out.ok base n i HN.out HB.out HI.out H1.out H2.out H3.out H4.out _ (hv.rd HM.out.rd)).mono ?_); rintro e w1 ⟨rfl, hn1⟩; replace hv := hv.new hn1; clear hn1)
     | ((with_reducible refine at_alloc (T := 137) (dst := some 12) ?_); refine wl_newb rfl #[.int .u64 0, .int .u32 0, .int .u16 0, .int .u16 0] 137 (fun _ => rfl) ?_; intro b12 w2 hm2; replace hv := hv.madeAt hm2; clear hm2)
     | ((with_reducible refine at_store (T := 137) ?_); refine wl_stv rfl b12 rfl _ rfl _ hv.vars.ro hv.vars.so 4 infoD rfl rfl (by simp [Value.oneCell']) ?_; intro w2 hw2; replace hv := hv.sets (by repeat first | exact .z | apply SetM.s) hw2; clear hw2)
     | ((with_reducible refine at_load (T := 137) ?_); refine wl_ldv rfl b12 rfl _ hv.vars.ro 4 _ Tryz.underlying137 rfl infoD (by decide) rfl ?_)
     | ((with_reducible refine at_load (T := 137) ?_); refine wl_ldv rfl b9 rfl _ hv.vars.ro 4 _ Tryz.underlying137 rfl infoD (by decide) rfl ?_)
     | (go_at_call 92; (refine (reading_M hv HM.out base n (16 * i) HN.out HB.out HP.out (enters_of Tryz.func120 (by kernel_rfl) rfl) (cap := #[.pointer (some ⟨b9, 0, none⟩), .pointer (some ⟨b5, 0, none⟩)]) (Post := fun w' => ∃ b c R', Mem w0 w' ((b5, #[.slice (some ⟨b, 0, none⟩) mn c]) :: (b9, #[.int .u64 a, .int .u32 l, .int .u16 f, .int .u16 x]) :: (b12, #[.int .u64 a0, .int .u32 l0, .int .u16 f0, .int .u16 x0]) :: (b10, #[.slice none 0 0]) :: L) R' ∧ InM R' b 0 mn c (setD M (base + 16 * i) a l f x) ∧ ∀ x ∈ R, x ∈ R') (fun bF w1 hv1 => SetDC (hv1.perm (perm_sd _ _ _ _ _ _)) HM.out HA1.out HA2.out HA3.out HA4.out HH.out)).mono ?_); rintro e w1 ⟨rfl, vb, vc, R1, hv1, hi1, hs1⟩; replace hv := hv1; have HI1 := Lib.hid hi1; have HS1 := Lib.hid hs1; clear hv1 hi1 hs1)
     | ((with_reducible refine at_load (T := 26) ?_); refine wl_ldv rfl b5 rfl _ hv.vars.ro 1 _ Tryz.underlying26 rfl infoM (by decide) rfl ?_)
     | ((with_reducible refine at_store (T := 26) ?_); refine wl_stv rfl b10 rfl _ rfl _ hv.vars.ro hv.vars.so 1 infoM rfl rfl (by simp [Value.oneCell']) ?_; intro w2 hw2; replace hv := hv.sets (by repeat first | exact .z | apply SetM.s) hw2; clear hw2))
   try simp only [Exit.inBlock, Exit.then]
   refine ret_cell2 (v := .agg #[(.slice (some ⟨vb, 0, none⟩) mn vc)]) (v1 := .int .i64 0) rfl rfl (read_row _ b10 26 _ (hv.vars.ro (b := b10)) 1 _ Tryz.underlying26 rfl infoM (by decide) rfl) rfl rfl ?_
   exact ⟨vb, 0, vc, R1, rfl, hv.drop.drop.drop.drop, HI1.out, HS1.out⟩
 · have HEQ : Hid (setD M (base + 16 * i) a l f x = M) := Lib.hid (by
     obtain ⟨rfl, rfl, rfl, rfl⟩ := of_decide_eq_true HQ2.out
     exact setD_same HM.out.good (by rw [HM.out.len]; exact HH.out) H1.out H2.out H3.out H4.out)
   rw [HEQ.out]
   go_enter Tryz.func105, Tryz.ntmps105
   go_wp2_with (first
     | ((with_reducible refine at_box (T := 26) (dst := some 5) ?_); refine wl_newb rfl #[(.slice (some ⟨mb, mo, none⟩) mn mc)] 26 (fun _ => rfl) ?_; intro b5 w2 hm2; replace hv := hv.madeAt hm2; clear hm2)
     | ((with_reducible refine at_box (T := 137) (dst := some 9) ?_); refine wl_newb rfl #[.int .u64 a, .int .u32 l, .int .u16 f, .int .u16 x] 137 (fun _ => rfl) ?_; intro b9 w2 hm2; replace hv := hv.madeAt hm2; clear hm2)
     | ((with_reducible refine at_alloc (T := 26) (dst := some 10) ?_); refine wl_newb rfl #[.slice none 0 0] 26 (fun _ => rfl) ?_; intro b10 w2 hm2; replace hv := hv.madeAt hm2; clear hm2)
     | ((with_reducible refine at_load (T := 26) ?_); refine wl_ldv rfl b5 rfl _ hv.vars.ro 1 _ Tryz.underlying26 rfl infoM (by decide) rfl ?_)
     | (go_at_call 53; (with_reducible refine (RingCheck_ok _ _ _ _ _ _ HN.out HB.out HM8.out _).mono ?_); rintro e w1 ⟨rfl, hn1⟩; replace hv := hv.new hn1; clear hn1)
     | (go_at_call 96; (with_reducible refine (Desc_w HM.out.ok base n i HN.out HB.out HI.out H1.out H2.out H3.out H4.out _ (hv.rd HM.out.rd)).mono ?_); rintro e w1 ⟨rfl, hn1⟩; replace hv := hv.new hn1; clear hn1)
     | ((with_reducible refine at_alloc (T := 137) (dst := some 12) ?_); refine wl_newb rfl #[.int .u64 0, .int .u32 0, .int .u16 0, .int .u16 0] 137 (fun _ => rfl) ?_; intro b12 w2 hm2; replace hv := hv.madeAt hm2; clear hm2)
     | ((with_reducible refine at_store (T := 137) ?_); refine wl_stv rfl b12 rfl _ rfl _ hv.vars.ro hv.vars.so 4 infoD rfl rfl (by simp [Value.oneCell']) ?_; intro w2 hw2; replace hv := hv.sets (by repeat first | exact .z | apply SetM.s) hw2; clear hw2)
     | ((with_reducible refine at_load (T := 137) ?_); refine wl_ldv rfl b12 rfl _ hv.vars.ro 4 _ Tryz.underlying137 rfl infoD (by decide) rfl ?_)
     | ((with_reducible refine at_load (T := 137) ?_); refine wl_ldv rfl b9 rfl _ hv.vars.ro 4 _ Tryz.underlying137 rfl infoD (by decide) rfl ?_)
     | ((with_reducible refine at_store (T := 26) ?_); refine wl_stv rfl b10 rfl _ rfl _ hv.vars.ro hv.vars.so 1 infoM rfl rfl (by simp [Value.oneCell']) ?_; intro w2 hw2; replace hv := hv.sets (by repeat first | exact .z | apply SetM.s) hw2; clear hw2))
   try simp only [Exit.inBlock, Exit.then]
   refine ret_cell2 (v := .agg #[(.slice (some ⟨mb, mo, none⟩) mn mc)]) (v1 := .int .i64 0) rfl rfl (read_row _ b10 26 _ (hv.vars.ro (b := b10)) 1 _ Tryz.underlying26 rfl infoM (by decide) rfl) rfl rfl ?_
   exact ⟨mb, mo, mc, R, rfl, hv.drop.drop.drop.drop, HM.out, fun x hx => hx⟩
end Go.Proofs.YtjmibgomkgkhnaaGreat
end

section
/-
 Rings: one is made available; one is given back.
-/
namespace Go.Proofs.Qu
open Go Go.RowKit Go.Proofs.Nm
def offerM (M : List Nat) (base n i first : Nat) : List Nat := putB (putB M (base + (16 * n + (4 + 2 * (i % n)))) (leB first 2)) (base + 16 * n + 2) (leB ((i + 1) % 65536) 2)
def returnM (M : List Nat) (base n i id len : Nat) : List Nat := putB (putB (putB M (base + (backN n + (4 + 8 * (i % n)))) (leB id 4)) (base + (backN n + (4 + 8 * (i % n))) + 4) (leB len 4)) (base + backN n + 2) (leB ((i + 1) % 65536) 2)
theorem inc16 (i : Nat) : IntKind.u16.wrap ((i : Int) + 1) = (((i + 1) % 65536 : Nat) : Int) := by
 have := wrap16n (i + 1)
 rw [← this]; rfl
theorem sub_off {α : Type} (f b10 b9 b8 b7 b6 b5 : α) (L : List α) : (b10 :: b5 :: L).Sublist (f :: b10 :: b9 :: b8 :: b7 :: b6 :: b5 :: L) := .cons _ (.cons_cons _ (.cons _ (.cons _ (.cons _ (.cons _ (List.Sublist.refl _))))))
end Go.Proofs.Qu
namespace Go.Proofs.YtjmibgomkgkhnaaGreat
open Go.Proofs.Qu Go.Proofs.Nm Go.RowKit Go.Proofs
theorem next_M {w0 w : World} {L : List (Nat × Array Value)} {R : List (Nat × Value × List Value)} {bF mb mo mn mc p : Nat} {M : List Nat} (hv : Mem w0 w ((bF, #[(.slice (some ⟨mb, mo, none⟩) mn mc), .int .i64 p]) :: L) R) (hm : InM R mb mo mn mc M) (base part i : Nat) (h : base + part + 2 + 2 ≤ mn) : Calls Tryz.prog 99 #[.pointer (some ⟨bF, 0, none⟩), .int .i64 base, .int .i64 part, .int .u16 i] w fun e w' => e = .returned (.tuple #[]) ∧ ∃ b c R', Mem w0 w' ((bF, #[.slice (some ⟨b, 0, none⟩) mn c, .int .i64 ((base + part + 2 + 2 : Nat) : Int)]) :: L) R' ∧ InM R' b 0 mn c (putB M (base + part + 2) (leB ((i + 1) % 65536) 2)) ∧ ∀ x ∈ R, x ∈ R' := by
 have HM := Lib.hid hm
 have HSUB : Hid (∀ x ∈ R, x ∈ R) := Lib.hid (fun x hx => hx)
 obtain ⟨bp, hbp⟩ : ∃ bp, base + part = bp := ⟨_, rfl⟩
 rw [hbp] at h ⊢
 have P1 := Lib.hid h
 have hs9 : bp + 2 ≤ 100000 := by have := hm.most; omega
 have q1 : IntKind.i64.wrap ((base : Int) + (part : Int)) = (bp : Int) := sum_i64 hbp (by omega)
 have q1w : wrap64 ((base : Int) + (part : Int)) = (bp : Int) := sum_w64 hbp (by omega)
 have q2 : IntKind.i64.wrap ((bp : Int) + 2) = ((bp + 2 : Nat) : Int) := by rw [IntWalk.i64_in _ (by omega)]; omega
 obtain ⟨j, hj⟩ : ∃ j, (i + 1) % 65536 = j := ⟨_, rfl⟩
 have hj2 : j < 65536 := by rw [← hj]; exact Nat.mod_lt _ (by decide)
 have q3 : IntKind.u16.wrap ((i : Int) + 1) = (j : Int) := by rw [inc16, hj]
 have A1 : Hid (j < 18446744073709551616) := Lib.hid (by omega)
 have q4 : IntKind.u64.wrap (j : Int) = (j : Int) := wrap_u64 (by omega)
 rw [hj]
 clear hm h hbp hs9 hj hj2
 go_enter Tryz.func99, Tryz.ntmps99
 go_wp2_with (first
   | ((with_reducible refine at_store (T := 3) ?_); refine wl_stc rfl bF 1 rfl (.int .i64 ((bp + 2 : Nat) : Int)) rfl _ hv.vars.ro hv.vars.so (by kernel_rfl) rfl (by show 1 < 2; decide) ?_; intro w2 hw2; replace hv := hv.sets (by repeat first | exact .z | apply SetM.s) hw2; clear hw2)
   | (go_at_call 98; (with_reducible refine (put_2 hv HM.out j A1.out P1.out).mono ?_); rintro e w1 ⟨rfl, vb, vc, R1, hv1, hi1, hs1⟩; replace hv := hv1; replace HM := Lib.hid hi1; replace HSUB := Lib.hid (fun x hx => hs1 x (HSUB.out x hx)); clear hv1 hi1 hs1))
 go_end0
 exact ⟨rfl, vb, vc, R1, hv, HM.out, HSUB.out⟩
theorem OffC {b5 b6 b7 b8 b9 b10 first n i base : Nat} {z10 : Array Value} {v0 : Value} {w0 w : World} {L : List (Nat × Array Value)} {R : List (Nat × Value × List Value)} {bF mb mo mn mc : Nat} {M : List Nat} (hn : okN n) (hb : base + sizeN n ≤ mn) (hi : i < 65536) (hf : first < 65536)
   (hv : Mem w0 w ((bF, #[(.slice (some ⟨mb, mo, none⟩) mn mc), .int .i64 ((base + (16 * n + (4 + 2 * (i % n)))) : Nat)]) :: (b10, z10) :: (b9, #[.int .i64 first]) :: (b8, #[.int .u16 i]) :: (b7, #[.int .i64 n]) :: (b6, #[.int .i64 base]) :: (b5, #[v0]) :: L) R) (hm : InM R mb mo mn mc M) :
   Calls Tryz.prog 106 #[.pointer (some ⟨bF, 0, none⟩), .pointer (some ⟨b9, 0, none⟩), .pointer (some ⟨b6, 0, none⟩), .pointer (some ⟨b7, 0, none⟩), .pointer (some ⟨b8, 0, none⟩), .pointer (some ⟨b5, 0, none⟩)] w fun e w' => e = .returned (.tuple #[]) ∧ ∃ b c R', Mem w0 w' ((b10, z10) :: (b5, #[.slice (some ⟨b, 0, none⟩) mn c]) :: L) R' ∧ InM R' b 0 mn c (offerM M base n i first) ∧ ∀ x ∈ R, x ∈ R' := by
 have HM := Lib.hid hm
 have HSUB : Hid (∀ x ∈ R, x ∈ R) := Lib.hid (fun x hx => hx)
 have hbnd := avail_bnd (i := i) hn
 obtain ⟨av, hav⟩ : ∃ av, 16 * n = av := ⟨_, rfl⟩
 have HAV : Hid (∀ w, Calls Tryz.prog 91 #[.int .i64 n] w fun e w' => e = .returned (.int .i64 av) ∧ New w w') := Lib.hid (fun w => by have := avail_ok n hn w; rw [hav] at this; exact this)
 have hav2 : av + 6 ≤ sizeN n := by have := hbnd.1; omega
 have HNX : Hid (base + av + 2 + 2 ≤ mn) := Lib.hid (by omega)
 unfold offerM
 rw [hav] at hv hbnd ⊢
 obtain ⟨p, hp⟩ : ∃ p, base + (av + (4 + 2 * (i % n))) = p := ⟨_, rfl⟩
 rw [hp] at hv ⊢
 have P1 : Hid (p + 2 ≤ mn) := Lib.hid (by rw [← hp]; have := hbnd.1; omega)
 have A1 : Hid (first < 18446744073709551616) := Lib.hid (by omega)
 have q1 : IntKind.u64.wrap (first : Int) = (first : Int) := wrap_u64 (by omega)
 clear hn hb hi hf hbnd hav hav2 hp hm
 go_enter Tryz.func106, Tryz.ntmps106
 go_wp2_with (first
   | ((with_reducible refine at_load (T := 3) ?_); refine wl_ldc rfl b9 0 rfl _ hv.vars.ro _ Tryz.underlying3 rfl (.int .i64 first) rfl ?_)
   | (go_at_call 98; (with_reducible refine (put_2 hv HM.out first A1.out P1.out).mono ?_); rintro e w1 ⟨rfl, vb, vc, R1, hv1, hi1, hs1⟩; replace hv := hv1; replace HM := Lib.hid hi1; replace HSUB := Lib.hid (fun x hx => hs1 x (HSUB.out x hx)); clear hv1 hi1 hs1))
 replace hv : Mem w0 _ ([(bF, _), (b10, z10), (b9, _), (b8, _), (b7, _), (b6, _)] ++ ((b5, _) :: L)) _ := hv
 refine Any.wp_region_cut 5 [⟨[], none⟩, ⟨[1005], none⟩, ⟨[1004], none⟩, ⟨[], none⟩, ⟨[1003], none⟩, ⟨[], none⟩] [.val, .val, .val, .val, .val] (by kernel_rfl) (by kernel_rfl) (hv.vars.keep (List.sublist_append_left [(bF, #[.slice (some ⟨vb, 0, none⟩) mn vc, .int .i64 ((p + 2) : Nat)]), (b10, z10), (b9, #[.int .i64 first]), (b8, #[.int .u16 i]), (b7, #[.int .i64 n]), (b6, #[.int .i64 base])] ((b5, #[v0]) :: L))) ?_
 simp only [Any.someVals, List.take_succ_cons, List.take_zero]
 iterate 5 apply Exists.intro
 repeat (first
   | (refine Any.E_off rfl ?_; simp only [Act.put, sia, scs, scz])
   | (apply Any.E_pureq rfl rfl rfl
      case h => intro K hK; go_big_quiet_op; (refine hK _ ?_; rfl)
      case hr => exact fun _ => rfl
      simp only [Act.put, sia, scs, scz])
   | (apply Any.E_val rfl rfl rfl rfl
      case h =>
        intro E' hA K hK
        first
          | ((with_reducible refine Any.at_qload (T := 3) ?_); refine Any.q_ldc 1005 hA (by decide) rfl rfl _ Tryz.underlying3 rfl (.int .i64 base) rfl ?_; refine hK _ ?_; rfl)
          | ((with_reducible refine Any.at_qload (T := 3) ?_); refine Any.q_ldc 1004 hA (by decide) rfl rfl _ Tryz.underlying3 rfl (.int .i64 n) rfl ?_; refine hK _ ?_; rfl)
          | ((with_reducible refine Any.at_qload (T := 27) ?_); refine Any.q_ldc 1003 hA (by decide) rfl rfl _ Tryz.underlying27 rfl (.int .u16 i) rfl ?_; refine hK _ ?_; rfl)
          | (go_big_quiet_op; first
            | (refine hK _ ?_; rfl)
            | (refine ⟨_, fun _ _ => rfl, ?_⟩; refine hK _ ?_; rfl)
            | (apply Exists.intro; refine ⟨fun w1 hw1 => ?_, ?_⟩; · (first
                | (go_at_call 91; exact Any.calls_VE (HAV.out _) hw1))
               refine hK _ ?_; rfl))
      case hD => rfl
      simp only [Act.put, sia, scs, scz])
   | ((with_reducible refine Any.at_ealloc ?_); refine Any.E_lay rfl rfl rfl (fun _ => rfl) ?_; intro B; simp only [Act.put, sia, scs, scz]))
 try any_goals exact undef
 refine Any.E_nil ?_
 intro w9 hE9
 replace hv : Mem w0 w9 ([(bF, #[.slice (some ⟨vb, 0, none⟩) mn vc, .int .i64 ((p + 2) : Nat)]), (b10, z10), (b9, #[.int .i64 first]), (b8, #[.int .u16 i]), (b7, #[.int .i64 n]), (b6, #[.int .i64 base])] ++ ((b5, #[v0]) :: L)) _ := hE9.memr (L1 := [(bF, #[.slice (some ⟨vb, 0, none⟩) mn vc, .int .i64 ((p + 2) : Nat)]), (b10, z10), (b9, #[.int .i64 first]), (b8, #[.int .u16 i]), (b7, #[.int .i64 n]), (b6, #[.int .i64 base])]) hv [1000, 1001, 1002, 1003, 1004, 1005] (by decide)
 clear hE9
 refine Any.wpOp_callv rfl rfl (Go.Proofs.enters_of Tryz.func99 (by kernel_rfl) rfl) rfl [.pointer (some ⟨bF, 0, none⟩), .int .i64 base, .int .i64 av, .int .u16 i] rfl ?_
 refine (next_M hv HM.out base av i HNX.out).mono ?_
 rintro e w1 ⟨rfl, vb, vc, R1, hv1, hi1, hs1⟩
 replace hv := hv1
 replace HM := Lib.hid hi1
 replace HSUB := Lib.hid (fun x hx => hs1 x (HSUB.out x hx))
 clear hv1 hi1 hs1
 refine ⟨_, rfl, ?_⟩
 replace hv : Mem w0 _ ([(bF, _), (b10, z10), (b9, _), (b8, _), (b7, _), (b6, _)] ++ ((b5, _) :: L)) _ := hv
 refine Any.wpAny_rest 6 [] [] (by kernel_rfl) (hv.vars.keep (List.sublist_append_left [(bF, #[.slice (some ⟨vb, 0, none⟩) mn vc, .int .i64 ((base + av + 2 + 2 : Nat) : Int)]), (b10, z10), (b9, #[.int .i64 first]), (b8, #[.int .u16 i]), (b7, #[.int .i64 n]), (b6, #[.int .i64 base])] ((b5, #[v0]) :: L))) ?_
 simp only [List.length_cons, List.length_nil, Nat.zero_add, Nat.reduceAdd, Nat.reduceSub, Any.someVals, List.drop_succ_cons, List.drop_zero]
 simp only [Act.put, sia, scs, scz]
 iterate 0 apply Exists.intro
 repeat (first
   | (refine Any.E_off rfl ?_; simp only [Act.put, sia, scs, scz])
   | (apply Any.E_pureq rfl rfl rfl
      case h => intro K hK; go_big_quiet_op; (refine hK _ ?_; rfl)
      case hr => exact fun _ => rfl
      simp only [Act.put, sia, scs, scz])
   | (apply Any.E_val rfl rfl rfl rfl
      case h =>
        intro E' hA K hK
        first
          | ((with_reducible refine Any.at_qload (T := 3) ?_); refine Any.q_ldc 1005 hA (by decide) rfl rfl _ Tryz.underlying3 rfl (.int .i64 base) rfl ?_; refine hK _ ?_; rfl)
          | ((with_reducible refine Any.at_qload (T := 3) ?_); refine Any.q_ldc 1004 hA (by decide) rfl rfl _ Tryz.underlying3 rfl (.int .i64 n) rfl ?_; refine hK _ ?_; rfl)
          | ((with_reducible refine Any.at_qload (T := 27) ?_); refine Any.q_ldc 1003 hA (by decide) rfl rfl _ Tryz.underlying27 rfl (.int .u16 i) rfl ?_; refine hK _ ?_; rfl)
          | (go_big_quiet_op; first
            | (refine hK _ ?_; rfl)
            | (refine ⟨_, fun _ _ => rfl, ?_⟩; refine hK _ ?_; rfl)
            | (apply Exists.intro; refine ⟨fun w1 hw1 => ?_, ?_⟩; · (first
                | (go_at_call 91; exact Any.calls_VE (HAV.out _) hw1))
               refine hK _ ?_; rfl))
      case hD => rfl
      simp only [Act.put, sia, scs, scz])
   | ((with_reducible refine Any.at_ealloc ?_); refine Any.E_lay rfl rfl rfl (fun _ => rfl) ?_; intro B; simp only [Act.put, sia, scs, scz]))
 try any_goals exact undef
 refine Any.E_nil ?_
 intro w9 hE9
 replace hv : Mem w0 w9 ([(bF, #[.slice (some ⟨vb, 0, none⟩) mn vc, .int .i64 ((base + av + 2 + 2 : Nat) : Int)]), (b10, z10), (b9, #[.int .i64 first]), (b8, #[.int .u16 i]), (b7, #[.int .i64 n]), (b6, #[.int .i64 base])] ++ ((b5, #[v0]) :: L)) _ := hE9.memr0 (L1 := [(bF, #[.slice (some ⟨vb, 0, none⟩) mn vc, .int .i64 ((base + av + 2 + 2 : Nat) : Int)]), (b10, z10), (b9, #[.int .i64 first]), (b8, #[.int .u16 i]), (b7, #[.int .i64 n]), (b6, #[.int .i64 base])]) hv [1000, 1001, 1002, 1003, 1004, 1005] (by decide)
 clear hE9
 simp only [List.cons_append, List.nil_append] at hv
 go_wp2_with (first
   | ((with_reducible refine at_load (T := 26) ?_); refine wl_ldp rfl bF 0 rfl _ hv.vars.ro 1 _ Tryz.underlying26 rfl infoM (by decide) (by show 0 + 1 ≤ 2; decide) #[.slice (some ⟨vb, 0, none⟩) mn vc] rfl ?_)
   | ((with_reducible refine at_store (T := 26) ?_); refine wl_stv rfl b5 rfl _ rfl _ hv.vars.ro hv.vars.so 1 infoM rfl rfl (by simp [Value.oneCell']) ?_; intro w2 hw2; replace hv := hv.sets (by repeat first | exact .z | apply SetM.s) hw2; clear hw2))
 go_end0
 exact ⟨rfl, vb, vc, R1, hv.keep (sub_off _ _ _ _ _ _ _ L), HM.out, HSUB.out⟩
theorem Offer_M {w0 w : World} {L : List (Nat × Array Value)} {R : List (Nat × Value × List Value)} {mb mo mn mc : Nat} {M : List Nat} (hv : Mem w0 w L R) (hm : InM R mb mo mn mc M) (base n i : Nat) (hn : okN n) (hb : base + sizeN n ≤ mn) (hi : i < 65536) {first : Nat} (hf : first < 65536) :
   Calls Tryz.prog 72 #[(.agg #[(.slice (some ⟨mb, mo, none⟩) mn mc)]), .int .i64 base, .int .i64 n, .int .u16 i, .int .i64 first] w fun e w' => ∃ b c R', e = .returned (.tuple #[.agg #[.slice (some ⟨b, 0, none⟩) mn c], .int .i64 0]) ∧ Mem w0 w' L R' ∧ InM R' b 0 mn c (offerM M base n i first) ∧ ∀ x ∈ R, x ∈ R' := by
 have HM := Lib.hid hm
 have HN := Lib.hid hn
 have HB := Lib.hid hb
 have hm8 := hm.most
 obtain ⟨M2, hM2⟩ : ∃ M2, (offerM M base n i first) = M2 := ⟨_, rfl⟩
 rw [hM2]
 have hcl0 : ∀ (bF : Nat) (w1 : World) (b5 b6 b7 b8 b9 b10 : Nat), Mem w0 w1 ((bF, #[(.slice (some ⟨mb, mo, none⟩) mn mc), .int .i64 ((base + (16 * n + (4 + 2 * (i % n))) : Nat) : Int)]) :: (b10, #[.slice none 0 0]) :: (b9, #[.int .i64 first]) :: (b8, #[.int .u16 i]) :: (b7, #[.int .i64 n]) :: (b6, #[.int .i64 base]) :: (b5, #[(.slice (some ⟨mb, mo, none⟩) mn mc)]) :: L) R → Calls Tryz.prog 106 #[.pointer (some ⟨bF, 0, none⟩), .pointer (some ⟨b9, 0, none⟩), .pointer (some ⟨b6, 0, none⟩), .pointer (some ⟨b7, 0, none⟩), .pointer (some ⟨b8, 0, none⟩), .pointer (some ⟨b5, 0, none⟩)] w1 fun e w' => e = .returned (.tuple #[]) ∧ ∃ b c R', Mem w0 w' ((b10, #[.slice none 0 0]) :: (b5, #[.slice (some ⟨b, 0, none⟩) mn c]) :: L) R' ∧ InM R' b 0 mn c M2 ∧ ∀ x ∈ R, x ∈ R' := fun bF w1 b5 b6 b7 b8 b9 b10 h => by
   have := OffC hn hb hi hf h hm
   rw [hM2] at this
   exact this
 have hbnd := avail_bnd (i := i) hn
 obtain ⟨av, hav⟩ : ∃ av, 16 * n = av := ⟨_, rfl⟩
 have HAV : Hid (∀ w, Calls Tryz.prog 91 #[.int .i64 n] w fun e w' => e = .returned (.int .i64 av) ∧ New w w') := Lib.hid (fun w => by have := avail_ok n HN.out w; rw [hav] at this; exact this)
 obtain ⟨pl, hpl⟩ : ∃ pl, 4 + 2 * (i % n) = pl := ⟨_, rfl⟩
 have HPL : Hid (∀ w, Calls Tryz.prog 93 #[.int .i64 n, .int .u16 i, .int .i64 2] w fun e w' => e = .returned (.int .i64 pl) ∧ New w w') := Lib.hid (fun w => by have := place_ok n i 2 HN.out hi (by decide) w; rw [hpl] at this; exact this)
 obtain ⟨s, hs⟩ : ∃ s, av + pl = s := ⟨_, rfl⟩
 rw [hav, hpl, hs] at hcl0 hbnd
 have HCL := Lib.hid hcl0
 have hs9 : s ≤ 1000000 := Nat.le_trans (Nat.le_trans (Nat.le_add_right _ _) hbnd.1) (Nat.le_trans hbnd.2 (by decide))
 have q1 : IntKind.i64.wrap ((av : Int) + (pl : Int)) = (s : Int) := sum_i64 hs hs9
 have q3 : wrap64 ((av : Int) + (pl : Int)) = (s : Int) := sum_w64 hs hs9
 have HH : Hid (base + s + 2 ≤ mn) := Lib.hid (by rw [Nat.add_assoc]; exact Nat.le_trans (Nat.add_le_add_left hbnd.1 base) hb)
 have HP : Hid (base + s ≤ 100000) := Lib.hid (Nat.le_trans (Nat.le_trans (Nat.le_add_right _ _) HH.out) (Nat.le_trans hm8 (by decide)))
 clear hn hb hi hm8 hM2 hcl0 hbnd hav hpl hs hs9 hm
 go_enter Tryz.func72, Tryz.ntmps72
 go_wp2_with (first
   | ((with_reducible refine at_box (T := 26) (dst := some 5) ?_); refine wl_newb rfl #[(.slice (some ⟨mb, mo, none⟩) mn mc)] 26 (fun _ => rfl) ?_; intro b5 w2 hm2; replace hv := hv.madeAt hm2; clear hm2)
   | ((with_reducible refine at_box (T := 3) (dst := some 6) ?_); refine wl_newb rfl #[.int .i64 base] 3 (fun _ => rfl) ?_; intro b6 w2 hm2; replace hv := hv.madeAt hm2; clear hm2)
   | ((with_reducible refine at_box (T := 3) (dst := some 7) ?_); refine wl_newb rfl #[.int .i64 n] 3 (fun _ => rfl) ?_; intro b7 w2 hm2; replace hv := hv.madeAt hm2; clear hm2)
   | ((with_reducible refine at_box (T := 27) (dst := some 8) ?_); refine wl_newb rfl #[.int .u16 i] 27 (fun _ => rfl) ?_; intro b8 w2 hm2; replace hv := hv.madeAt hm2; clear hm2)
   | ((with_reducible refine at_box (T := 3) (dst := some 9) ?_); refine wl_newb rfl #[.int .i64 first] 3 (fun _ => rfl) ?_; intro b9 w2 hm2; replace hv := hv.madeAt hm2; clear hm2)
   | ((with_reducible refine at_alloc (T := 26) (dst := some 10) ?_); refine wl_newb rfl #[.slice none 0 0] 26 (fun _ => rfl) ?_; intro b10 w2 hm2; replace hv := hv.madeAt hm2; clear hm2))
 replace hv : Mem w0 _ ([(b10, _), (b9, _), (b8, _), (b7, _), (b6, _), (b5, _)] ++ L) _ := hv
 refine Any.wp_region_cut 10 [⟨[1005], none⟩, ⟨[1004], none⟩, ⟨[1003], none⟩, ⟨[1003], none⟩, ⟨[], none⟩, ⟨[1003], none⟩, ⟨[1002], none⟩, ⟨[], none⟩, ⟨[], none⟩, ⟨[], none⟩, ⟨[], none⟩, ⟨[], none⟩] [.val, .val, .val, .val, .val, .val, .val, .val, .val, .val] (by kernel_rfl) (by kernel_rfl) (hv.vars.keep (List.sublist_append_left [(b10, #[.slice none 0 0]), (b9, #[.int .i64 first]), (b8, #[.int .u16 i]), (b7, #[.int .i64 n]), (b6, #[.int .i64 base]), (b5, #[(.slice (some ⟨mb, mo, none⟩) mn mc)])] L)) ?_
 simp only [Any.someVals, List.take_succ_cons, List.take_zero]
 iterate 10 apply Exists.intro
 repeat (first
   | (refine Any.E_off rfl ?_; simp only [Act.put, sia, scs, scz])
   | (apply Any.E_pureq rfl rfl rfl
      case h => intro K hK; go_big_quiet_op; (refine hK _ ?_; rfl)
      case hr => exact fun _ => rfl
      simp only [Act.put, sia, scs, scz])
   | (apply Any.E_val rfl rfl rfl rfl
      case h =>
        intro E' hA K hK
        first
          | ((with_reducible refine Any.at_qload (T := 26) ?_); refine Any.q_ldv 1005 hA (by decide) rfl rfl 1 _ Tryz.underlying26 rfl infoM (by decide) rfl ?_; refine hK _ ?_; rfl)
          | ((with_reducible refine Any.at_qload (T := 3) ?_); refine Any.q_ldc 1004 hA (by decide) rfl rfl _ Tryz.underlying3 rfl (.int .i64 base) rfl ?_; refine hK _ ?_; rfl)
          | ((with_reducible refine Any.at_qload (T := 3) ?_); refine Any.q_ldc 1003 hA (by decide) rfl rfl _ Tryz.underlying3 rfl (.int .i64 n) rfl ?_; refine hK _ ?_; rfl)
          | ((with_reducible refine Any.at_qload (T := 27) ?_); refine Any.q_ldc 1002 hA (by decide) rfl rfl _ Tryz.underlying27 rfl (.int .u16 i) rfl ?_; refine hK _ ?_; rfl)
          | (go_big_quiet_op; first
            | (refine hK _ ?_; rfl)
            | (refine ⟨_, fun _ _ => rfl, ?_⟩; refine hK _ ?_; rfl)
            | (apply Exists.intro; refine ⟨fun w1 hw1 => ?_, ?_⟩; · (first
                | (go_at_call 91; exact Any.calls_VE (HAV.out _) hw1)
                | (go_at_call 93; exact Any.calls_VE (HPL.out _) hw1))
               refine hK _ ?_; rfl))
      case hD => rfl
      simp only [Act.put, sia, scs, scz])
   | ((with_reducible refine Any.at_ealloc ?_); refine Any.E_lay rfl rfl rfl (fun _ => rfl) ?_; intro B; simp only [Act.put, sia, scs, scz]))
 try any_goals exact undef
 refine Any.E_nil ?_
 intro w9 hE9
 replace hv : Mem w0 w9 ([(b10, #[.slice none 0 0]), (b9, #[.int .i64 first]), (b8, #[.int .u16 i]), (b7, #[.int .i64 n]), (b6, #[.int .i64 base]), (b5, #[(.slice (some ⟨mb, mo, none⟩) mn mc)])] ++ L) _ := hE9.memr (L1 := [(b10, #[.slice none 0 0]), (b9, #[.int .i64 first]), (b8, #[.int .u16 i]), (b7, #[.int .i64 n]), (b6, #[.int .i64 base]), (b5, #[(.slice (some ⟨mb, mo, none⟩) mn mc)])]) hv [1000, 1001, 1002, 1003, 1004, 1005] (by decide)
 clear hE9
 refine Any.wpOp_callv rfl rfl (Go.Proofs.enters_of Tryz.func92 (by kernel_rfl) rfl) rfl [(.agg #[(.slice (some ⟨mb, mo, none⟩) mn mc)]), .int .i64 base, .int .i64 n, .int .i64 s, .func (.func 106) #[] #[.pointer (some ⟨b9, 0, none⟩), .pointer (some ⟨b6, 0, none⟩), .pointer (some ⟨b7, 0, none⟩), .pointer (some ⟨b8, 0, none⟩), .pointer (some ⟨b5, 0, none⟩)]] rfl ?_
 refine (reading_M hv HM.out base n s HN.out HB.out HP.out (Go.Proofs.enters_of Tryz.func106 (by kernel_rfl) rfl) (cap := #[.pointer (some ⟨b9, 0, none⟩), .pointer (some ⟨b6, 0, none⟩), .pointer (some ⟨b7, 0, none⟩), .pointer (some ⟨b8, 0, none⟩), .pointer (some ⟨b5, 0, none⟩)]) (Post := fun w' => ∃ b c R', Mem w0 w' ((b10, #[.slice none 0 0]) :: (b5, #[.slice (some ⟨b, 0, none⟩) mn c]) :: L) R' ∧ InM R' b 0 mn c M2 ∧ ∀ x ∈ R, x ∈ R') (fun bF w1 hv1 => HCL.out bF w1 _ _ _ _ _ _ hv1)).mono ?_
 rintro e w1 ⟨rfl, vb, vc, R1, hv1, hi1, hs1⟩
 replace hv := hv1
 have HI1 := Lib.hid hi1
 have HS1 := Lib.hid hs1
 clear hv1 hi1 hs1
 refine ⟨_, rfl, ?_⟩
 replace hv : Mem w0 _ ([(b10, _), (b5, _)] ++ L) _ := hv
 refine Any.wpAny_rest 11 [⟨[], none⟩] [.val] (by kernel_rfl) (hv.vars.keep (List.sublist_append_left [(b10, #[.slice none 0 0]), (b5, #[(.slice (some ⟨vb, 0, none⟩) mn vc)])] L)) ?_
 simp only [List.length_cons, List.length_nil, Nat.zero_add, Nat.reduceAdd, Nat.reduceSub, Any.someVals, List.drop_succ_cons, List.drop_zero]
 simp only [Act.put, sia, scs, scz]
 iterate 1 apply Exists.intro
 repeat (first
   | (refine Any.E_off rfl ?_; simp only [Act.put, sia, scs, scz])
   | (apply Any.E_pureq rfl rfl rfl
      case h => intro K hK; go_big_quiet_op; (refine hK _ ?_; rfl)
      case hr => exact fun _ => rfl
      simp only [Act.put, sia, scs, scz])
   | (apply Any.E_val rfl rfl rfl rfl
      case h =>
        intro E' hA K hK
        first
          | ((with_reducible refine Any.at_qload (T := 26) ?_); refine Any.q_ldv 1005 hA (by decide) rfl rfl 1 _ Tryz.underlying26 rfl infoM (by decide) rfl ?_; refine hK _ ?_; rfl)
          | ((with_reducible refine Any.at_qload (T := 3) ?_); refine Any.q_ldc 1004 hA (by decide) rfl rfl _ Tryz.underlying3 rfl (.int .i64 base) rfl ?_; refine hK _ ?_; rfl)
          | ((with_reducible refine Any.at_qload (T := 3) ?_); refine Any.q_ldc 1003 hA (by decide) rfl rfl _ Tryz.underlying3 rfl (.int .i64 n) rfl ?_; refine hK _ ?_; rfl)
          | ((with_reducible refine Any.at_qload (T := 27) ?_); refine Any.q_ldc 1002 hA (by decide) rfl rfl _ Tryz.underlying27 rfl (.int .u16 i) rfl ?_; refine hK _ ?_; rfl)
          | (go_big_quiet_op; first
            | (refine hK _ ?_; rfl)
            | (refine ⟨_, fun _ _ => rfl, ?_⟩; refine hK _ ?_; rfl)
            | (apply Exists.intro; refine ⟨fun w1 hw1 => ?_, ?_⟩; · (first
                | (go_at_call 91; exact Any.calls_VE (HAV.out _) hw1)
                | (go_at_call 93; exact Any.calls_VE (HPL.out _) hw1))
               refine hK _ ?_; rfl))
      case hD => rfl
      simp only [Act.put, sia, scs, scz])
   | ((with_reducible refine Any.at_ealloc ?_); refine Any.E_lay rfl rfl rfl (fun _ => rfl) ?_; intro B; simp only [Act.put, sia, scs, scz]))
 try any_goals exact undef
 refine Any.E_nil ?_
 intro w9 hE9
 replace hv : Mem w0 w9 ([(b10, #[.slice none 0 0]), (b5, #[(.slice (some ⟨vb, 0, none⟩) mn vc)])] ++ L) _ := hE9.memr0 (L1 := [(b10, #[.slice none 0 0]), (b5, #[(.slice (some ⟨vb, 0, none⟩) mn vc)])]) hv [1000, 1001] (by decide)
 clear hE9
 simp only [List.cons_append, List.nil_append] at hv
 go_wp2_with (first
   | ((with_reducible refine at_load (T := 26) ?_); refine wl_ldv rfl b5 rfl _ hv.vars.ro 1 _ Tryz.underlying26 rfl infoM (by decide) rfl ?_)
   | ((with_reducible refine at_store (T := 26) ?_); refine wl_stv rfl b10 rfl _ rfl _ hv.vars.ro hv.vars.so 1 infoM rfl rfl (by simp [Value.oneCell']) ?_; intro w2 hw2; replace hv := hv.sets (by repeat first | exact .z | apply SetM.s) hw2; clear hw2))
 try simp only [Exit.inBlock, Exit.then]
 refine ret_cell2 (v := .agg #[(.slice (some ⟨vb, 0, none⟩) mn vc)]) (v1 := .int .i64 0) rfl rfl (read_row _ b10 26 _ (hv.vars.ro (b := b10)) 1 _ Tryz.underlying26 rfl infoM (by decide) rfl) rfl rfl ?_
 exact ⟨vb, vc, R1, rfl, hv.drop.drop, HI1.out, HS1.out⟩
theorem RetC {b5 b6 b7 b8 b9 b10 id len n i base : Nat} {z10 : Array Value} {v0 : Value} {w0 w : World} {L : List (Nat × Array Value)} {R : List (Nat × Value × List Value)} {bF mb mo mn mc : Nat} {M : List Nat} (hn : okN n) (hb : base + sizeN n ≤ mn) (hi : i < 65536) (hf : id < 4294967296) (hf2 : len < 4294967296)
   (hv : Mem w0 w ((bF, #[(.slice (some ⟨mb, mo, none⟩) mn mc), .int .i64 ((base + (backN n + (4 + 8 * (i % n)))) : Nat)]) :: (b10, z10) :: (b9, #[.int .u32 id, .int .u32 len]) :: (b8, #[.int .u16 i]) :: (b7, #[.int .i64 n]) :: (b6, #[.int .i64 base]) :: (b5, #[v0]) :: L) R) (hm : InM R mb mo mn mc M) :
   Calls Tryz.prog 97 #[.pointer (some ⟨bF, 0, none⟩), .pointer (some ⟨b9, 0, none⟩), .pointer (some ⟨b6, 0, none⟩), .pointer (some ⟨b7, 0, none⟩), .pointer (some ⟨b8, 0, none⟩), .pointer (some ⟨b5, 0, none⟩)] w fun e w' => e = .returned (.tuple #[]) ∧ ∃ b c R', Mem w0 w' ((b10, z10) :: (b5, #[.slice (some ⟨b, 0, none⟩) mn c]) :: L) R' ∧ InM R' b 0 mn c (returnM M base n i id len) ∧ ∀ x ∈ R, x ∈ R' := by
 have HM := Lib.hid hm
 have HSUB : Hid (∀ x ∈ R, x ∈ R) := Lib.hid (fun x hx => hx)
 have hbnd := used_bnd (i := i) hn
 obtain ⟨av, hav⟩ : ∃ av, backN n = av := ⟨_, rfl⟩
 have HAV : Hid (∀ w, Calls Tryz.prog 88 #[.int .i64 n] w fun e w' => e = .returned (.int .i64 av) ∧ New w w') := Lib.hid (fun w => by have := back_ok n hn w; rw [hav] at this; exact this)
 have hav2 : av + 12 ≤ sizeN n := by have := hbnd.1; omega
 have HNX : Hid (base + av + 2 + 2 ≤ mn) := Lib.hid (by omega)
 unfold returnM
 rw [hav] at hv hbnd ⊢
 obtain ⟨p, hp⟩ : ∃ p, base + (av + (4 + 8 * (i % n))) = p := ⟨_, rfl⟩
 rw [hp] at hv ⊢
 have P1 : Hid (p + 4 ≤ mn) := Lib.hid (by rw [← hp]; have := hbnd.1; omega)
 have P2 : Hid (p + 4 + 4 ≤ mn) := Lib.hid (by rw [← hp]; have := hbnd.1; omega)
 have A1 : Hid (id < 18446744073709551616) := Lib.hid (by omega)
 have A2 : Hid (len < 18446744073709551616) := Lib.hid (by omega)
 have q1 : IntKind.u64.wrap (id : Int) = (id : Int) := wrap_u64 (by omega)
 have q2 : IntKind.u64.wrap (len : Int) = (len : Int) := wrap_u64 (by omega)
 clear hn hb hi hf hf2 hbnd hav hav2 hp hm
 go_enter Tryz.func97, Tryz.ntmps97
 go_wp2_with (first
   | ((with_reducible refine at_load (T := 135) ?_); refine wl_ldc rfl b9 0 rfl _ hv.vars.ro _ Tryz.underlying135 rfl (.int .u32 id) rfl ?_)
   | ((with_reducible refine at_load (T := 135) ?_); refine wl_ldc rfl b9 1 rfl _ hv.vars.ro _ Tryz.underlying135 rfl (.int .u32 len) rfl ?_)
   | (go_at_call 98; (with_reducible refine (put_4 hv HM.out id A1.out P1.out).mono ?_); rintro e w1 ⟨rfl, vb, vc, R1, hv1, hi1, hs1⟩; replace hv := hv1; replace HM := Lib.hid hi1; replace HSUB := Lib.hid (fun x hx => hs1 x (HSUB.out x hx)); clear hv1 hi1 hs1)
   | (go_at_call 98; (with_reducible refine (put_4 hv HM.out len A2.out P2.out).mono ?_); rintro e w1 ⟨rfl, vb, vc, R1, hv1, hi1, hs1⟩; replace hv := hv1; replace HM := Lib.hid hi1; replace HSUB := Lib.hid (fun x hx => hs1 x (HSUB.out x hx)); clear hv1 hi1 hs1))
 replace hv : Mem w0 _ ([(bF, _), (b10, z10), (b9, _), (b8, _), (b7, _), (b6, _)] ++ ((b5, _) :: L)) _ := hv
 refine Any.wp_region_cut 5 [⟨[], none⟩, ⟨[1005], none⟩, ⟨[1004], none⟩, ⟨[], none⟩, ⟨[1003], none⟩, ⟨[], none⟩] [.val, .val, .val, .val, .val] (by kernel_rfl) (by kernel_rfl) (hv.vars.keep (List.sublist_append_left [(bF, #[.slice (some ⟨vb, 0, none⟩) mn vc, .int .i64 ((p + 4 + 4) : Nat)]), (b10, z10), (b9, #[.int .u32 id, .int .u32 len]), (b8, #[.int .u16 i]), (b7, #[.int .i64 n]), (b6, #[.int .i64 base])] ((b5, #[v0]) :: L))) ?_
 simp only [Any.someVals, List.take_succ_cons, List.take_zero]
 iterate 5 apply Exists.intro
 repeat (first
   | (refine Any.E_off rfl ?_; simp only [Act.put, sia, scs, scz])
   | (apply Any.E_pureq rfl rfl rfl
      case h => intro K hK; go_big_quiet_op; (refine hK _ ?_; rfl)
      case hr => exact fun _ => rfl
      simp only [Act.put, sia, scs, scz])
   | (apply Any.E_val rfl rfl rfl rfl
      case h =>
        intro E' hA K hK
        first
          | ((with_reducible refine Any.at_qload (T := 3) ?_); refine Any.q_ldc 1005 hA (by decide) rfl rfl _ Tryz.underlying3 rfl (.int .i64 base) rfl ?_; refine hK _ ?_; rfl)
          | ((with_reducible refine Any.at_qload (T := 3) ?_); refine Any.q_ldc 1004 hA (by decide) rfl rfl _ Tryz.underlying3 rfl (.int .i64 n) rfl ?_; refine hK _ ?_; rfl)
          | ((with_reducible refine Any.at_qload (T := 27) ?_); refine Any.q_ldc 1003 hA (by decide) rfl rfl _ Tryz.underlying27 rfl (.int .u16 i) rfl ?_; refine hK _ ?_; rfl)
          | (go_big_quiet_op; first
            | (refine hK _ ?_; rfl)
            | (refine ⟨_, fun _ _ => rfl, ?_⟩; refine hK _ ?_; rfl)
            | (apply Exists.intro; refine ⟨fun w1 hw1 => ?_, ?_⟩; · (first
                | (go_at_call 88; exact Any.calls_VE (HAV.out _) hw1))
               refine hK _ ?_; rfl))
      case hD => rfl
      simp only [Act.put, sia, scs, scz])
   | ((with_reducible refine Any.at_ealloc ?_); refine Any.E_lay rfl rfl rfl (fun _ => rfl) ?_; intro B; simp only [Act.put, sia, scs, scz]))
 try any_goals exact undef
 refine Any.E_nil ?_
 intro w9 hE9
 replace hv : Mem w0 w9 ([(bF, #[.slice (some ⟨vb, 0, none⟩) mn vc, .int .i64 ((p + 4 + 4) : Nat)]), (b10, z10), (b9, #[.int .u32 id, .int .u32 len]), (b8, #[.int .u16 i]), (b7, #[.int .i64 n]), (b6, #[.int .i64 base])] ++ ((b5, #[v0]) :: L)) _ := hE9.memr (L1 := [(bF, #[.slice (some ⟨vb, 0, none⟩) mn vc, .int .i64 ((p + 4 + 4) : Nat)]), (b10, z10), (b9, #[.int .u32 id, .int .u32 len]), (b8, #[.int .u16 i]), (b7, #[.int .i64 n]), (b6, #[.int .i64 base])]) hv [1000, 1001, 1002, 1003, 1004, 1005] (by decide)
 clear hE9
 refine Any.wpOp_callv rfl rfl (Go.Proofs.enters_of Tryz.func99 (by kernel_rfl) rfl) rfl [.pointer (some ⟨bF, 0, none⟩), .int .i64 base, .int .i64 av, .int .u16 i] rfl ?_
 refine (next_M hv HM.out base av i HNX.out).mono ?_
 rintro e w1 ⟨rfl, vb, vc, R1, hv1, hi1, hs1⟩
 replace hv := hv1
 replace HM := Lib.hid hi1
 replace HSUB := Lib.hid (fun x hx => hs1 x (HSUB.out x hx))
 clear hv1 hi1 hs1
 refine ⟨_, rfl, ?_⟩
 replace hv : Mem w0 _ ([(bF, _), (b10, z10), (b9, _), (b8, _), (b7, _), (b6, _)] ++ ((b5, _) :: L)) _ := hv
 refine Any.wpAny_rest 6 [] [] (by kernel_rfl) (hv.vars.keep (List.sublist_append_left [(bF, #[.slice (some ⟨vb, 0, none⟩) mn vc, .int .i64 ((base + av + 2 + 2 : Nat) : Int)]), (b10, z10), (b9, #[.int .u32 id, .int .u32 len]), (b8, #[.int .u16 i]), (b7, #[.int .i64 n]), (b6, #[.int .i64 base])] ((b5, #[v0]) :: L))) ?_
 simp only [List.length_cons, List.length_nil, Nat.zero_add, Nat.reduceAdd, Nat.reduceSub, Any.someVals, List.drop_succ_cons, List.drop_zero]
 simp only [Act.put, sia, scs, scz]
 iterate 0 apply Exists.intro
 repeat (first
   | (refine Any.E_off rfl ?_; simp only [Act.put, sia, scs, scz])
   | (apply Any.E_pureq rfl rfl rfl
      case h => intro K hK; go_big_quiet_op; (refine hK _ ?_; rfl)
      case hr => exact fun _ => rfl
      simp only [Act.put, sia, scs, scz])
   | (apply Any.E_val rfl rfl rfl rfl
      case h =>
        intro E' hA K hK
        first
          | ((with_reducible refine Any.at_qload (T := 3) ?_); refine Any.q_ldc 1005 hA (by decide) rfl rfl _ Tryz.underlying3 rfl (.int .i64 base) rfl ?_; refine hK _ ?_; rfl)
          | ((with_reducible refine Any.at_qload (T := 3) ?_); refine Any.q_ldc 1004 hA (by decide) rfl rfl _ Tryz.underlying3 rfl (.int .i64 n) rfl ?_; refine hK _ ?_; rfl)
          | ((with_reducible refine Any.at_qload (T := 27) ?_); refine Any.q_ldc 1003 hA (by decide) rfl rfl _ Tryz.underlying27 rfl (.int .u16 i) rfl ?_; refine hK _ ?_; rfl)
          | (go_big_quiet_op; first
            | (refine hK _ ?_; rfl)
            | (refine ⟨_, fun _ _ => rfl, ?_⟩; refine hK _ ?_; rfl)
            | (apply Exists.intro; refine ⟨fun w1 hw1 => ?_, ?_⟩; · (first
                | (go_at_call 88; exact Any.calls_VE (HAV.out _) hw1))
               refine hK _ ?_; rfl))
      case hD => rfl
      simp only [Act.put, sia, scs, scz])
   | ((with_reducible refine Any.at_ealloc ?_); refine Any.E_lay rfl rfl rfl (fun _ => rfl) ?_; intro B; simp only [Act.put, sia, scs, scz]))
 try any_goals exact undef
 refine Any.E_nil ?_
 intro w9 hE9
 replace hv : Mem w0 w9 ([(bF, #[.slice (some ⟨vb, 0, none⟩) mn vc, .int .i64 ((base + av + 2 + 2 : Nat) : Int)]), (b10, z10), (b9, #[.int .u32 id, .int .u32 len]), (b8, #[.int .u16 i]), (b7, #[.int .i64 n]), (b6, #[.int .i64 base])] ++ ((b5, #[v0]) :: L)) _ := hE9.memr0 (L1 := [(bF, #[.slice (some ⟨vb, 0, none⟩) mn vc, .int .i64 ((base + av + 2 + 2 : Nat) : Int)]), (b10, z10), (b9, #[.int .u32 id, .int .u32 len]), (b8, #[.int .u16 i]), (b7, #[.int .i64 n]), (b6, #[.int .i64 base])]) hv [1000, 1001, 1002, 1003, 1004, 1005] (by decide)
 clear hE9
 simp only [List.cons_append, List.nil_append] at hv
 go_wp2_with (first
   | ((with_reducible refine at_load (T := 26) ?_); refine wl_ldp rfl bF 0 rfl _ hv.vars.ro 1 _ Tryz.underlying26 rfl infoM (by decide) (by show 0 + 1 ≤ 2; decide) #[.slice (some ⟨vb, 0, none⟩) mn vc] rfl ?_)
   | ((with_reducible refine at_store (T := 26) ?_); refine wl_stv rfl b5 rfl _ rfl _ hv.vars.ro hv.vars.so 1 infoM rfl rfl (by simp [Value.oneCell']) ?_; intro w2 hw2; replace hv := hv.sets (by repeat first | exact .z | apply SetM.s) hw2; clear hw2))
 go_end0
 exact ⟨rfl, vb, vc, R1, hv.keep (sub_off _ _ _ _ _ _ _ L), HM.out, HSUB.out⟩
theorem Return_M {w0 w : World} {L : List (Nat × Array Value)} {R : List (Nat × Value × List Value)} {mb mo mn mc : Nat} {M : List Nat} (hv : Mem w0 w L R) (hm : InM R mb mo mn mc M) (base n i : Nat) (hn : okN n) (hb : base + sizeN n ≤ mn) (hi : i < 65536) {id len : Nat} (hf : id < 4294967296) (hf2 : len < 4294967296) :
   Calls Tryz.prog 60 #[(.agg #[(.slice (some ⟨mb, mo, none⟩) mn mc)]), .int .i64 base, .int .i64 n, .int .u16 i, .agg #[.int .u32 id, .int .u32 len]] w fun e w' => ∃ b c R', e = .returned (.tuple #[.agg #[.slice (some ⟨b, 0, none⟩) mn c], .int .i64 0]) ∧ Mem w0 w' L R' ∧ InM R' b 0 mn c (returnM M base n i id len) ∧ ∀ x ∈ R, x ∈ R' := by
 have HM := Lib.hid hm
 have HN := Lib.hid hn
 have HB := Lib.hid hb
 have hm8 := hm.most
 obtain ⟨M2, hM2⟩ : ∃ M2, (returnM M base n i id len) = M2 := ⟨_, rfl⟩
 rw [hM2]
 have hcl0 : ∀ (bF : Nat) (w1 : World) (b5 b6 b7 b8 b9 b10 : Nat), Mem w0 w1 ((bF, #[(.slice (some ⟨mb, mo, none⟩) mn mc), .int .i64 ((base + (backN n + (4 + 8 * (i % n))) : Nat) : Int)]) :: (b10, #[.slice none 0 0]) :: (b9, #[.int .u32 id, .int .u32 len]) :: (b8, #[.int .u16 i]) :: (b7, #[.int .i64 n]) :: (b6, #[.int .i64 base]) :: (b5, #[(.slice (some ⟨mb, mo, none⟩) mn mc)]) :: L) R → Calls Tryz.prog 97 #[.pointer (some ⟨bF, 0, none⟩), .pointer (some ⟨b9, 0, none⟩), .pointer (some ⟨b6, 0, none⟩), .pointer (some ⟨b7, 0, none⟩), .pointer (some ⟨b8, 0, none⟩), .pointer (some ⟨b5, 0, none⟩)] w1 fun e w' => e = .returned (.tuple #[]) ∧ ∃ b c R', Mem w0 w' ((b10, #[.slice none 0 0]) :: (b5, #[.slice (some ⟨b, 0, none⟩) mn c]) :: L) R' ∧ InM R' b 0 mn c M2 ∧ ∀ x ∈ R, x ∈ R' := fun bF w1 b5 b6 b7 b8 b9 b10 h => by
   have := RetC hn hb hi hf hf2 h hm
   rw [hM2] at this
   exact this
 have hbnd := used_bnd (i := i) hn
 obtain ⟨av, hav⟩ : ∃ av, backN n = av := ⟨_, rfl⟩
 have HAV : Hid (∀ w, Calls Tryz.prog 88 #[.int .i64 n] w fun e w' => e = .returned (.int .i64 av) ∧ New w w') := Lib.hid (fun w => by have := back_ok n HN.out w; rw [hav] at this; exact this)
 obtain ⟨pl, hpl⟩ : ∃ pl, 4 + 8 * (i % n) = pl := ⟨_, rfl⟩
 have HPL : Hid (∀ w, Calls Tryz.prog 93 #[.int .i64 n, .int .u16 i, .int .i64 8] w fun e w' => e = .returned (.int .i64 pl) ∧ New w w') := Lib.hid (fun w => by have := place_ok n i 8 HN.out hi (by decide) w; rw [hpl] at this; exact this)
 obtain ⟨s, hs⟩ : ∃ s, av + pl = s := ⟨_, rfl⟩
 rw [hav, hpl, hs] at hcl0 hbnd
 have HCL := Lib.hid hcl0
 have hs9 : s ≤ 1000000 := Nat.le_trans (Nat.le_trans (Nat.le_add_right _ _) hbnd.1) (Nat.le_trans hbnd.2 (by decide))
 have q1 : IntKind.i64.wrap ((av : Int) + (pl : Int)) = (s : Int) := sum_i64 hs hs9
 have q3 : wrap64 ((av : Int) + (pl : Int)) = (s : Int) := sum_w64 hs hs9
 have HH : Hid (base + s + 8 ≤ mn) := Lib.hid (by rw [Nat.add_assoc]; exact Nat.le_trans (Nat.add_le_add_left hbnd.1 base) hb)
 have HP : Hid (base + s ≤ 100000) := Lib.hid (Nat.le_trans (Nat.le_trans (Nat.le_add_right _ _) HH.out) (Nat.le_trans hm8 (by decide)))
 clear hn hb hi hm8 hM2 hcl0 hbnd hav hpl hs hs9 hm
 go_enter Tryz.func60, Tryz.ntmps60
 go_wp2_with (first
   | ((with_reducible refine at_box (T := 26) (dst := some 5) ?_); refine wl_newb rfl #[(.slice (some ⟨mb, mo, none⟩) mn mc)] 26 (fun _ => rfl) ?_; intro b5 w2 hm2; replace hv := hv.madeAt hm2; clear hm2)
   | ((with_reducible refine at_box (T := 3) (dst := some 6) ?_); refine wl_newb rfl #[.int .i64 base] 3 (fun _ => rfl) ?_; intro b6 w2 hm2; replace hv := hv.madeAt hm2; clear hm2)
   | ((with_reducible refine at_box (T := 3) (dst := some 7) ?_); refine wl_newb rfl #[.int .i64 n] 3 (fun _ => rfl) ?_; intro b7 w2 hm2; replace hv := hv.madeAt hm2; clear hm2)
   | ((with_reducible refine at_box (T := 27) (dst := some 8) ?_); refine wl_newb rfl #[.int .u16 i] 27 (fun _ => rfl) ?_; intro b8 w2 hm2; replace hv := hv.madeAt hm2; clear hm2)
   | ((with_reducible refine at_box (T := 142) (dst := some 9) ?_); refine wl_newb rfl #[.int .u32 id, .int .u32 len] 142 (fun _ => rfl) ?_; intro b9 w2 hm2; replace hv := hv.madeAt hm2; clear hm2)
   | ((with_reducible refine at_alloc (T := 26) (dst := some 10) ?_); refine wl_newb rfl #[.slice none 0 0] 26 (fun _ => rfl) ?_; intro b10 w2 hm2; replace hv := hv.madeAt hm2; clear hm2))
 replace hv : Mem w0 _ ([(b10, _), (b9, _), (b8, _), (b7, _), (b6, _), (b5, _)] ++ L) _ := hv
 refine Any.wp_region_cut 10 [⟨[1005], none⟩, ⟨[1004], none⟩, ⟨[1003], none⟩, ⟨[1003], none⟩, ⟨[], none⟩, ⟨[1003], none⟩, ⟨[1002], none⟩, ⟨[], none⟩, ⟨[], none⟩, ⟨[], none⟩, ⟨[], none⟩, ⟨[], none⟩] [.val, .val, .val, .val, .val, .val, .val, .val, .val, .val] (by kernel_rfl) (by kernel_rfl) (hv.vars.keep (List.sublist_append_left [(b10, #[.slice none 0 0]), (b9, #[.int .u32 id, .int .u32 len]), (b8, #[.int .u16 i]), (b7, #[.int .i64 n]), (b6, #[.int .i64 base]), (b5, #[(.slice (some ⟨mb, mo, none⟩) mn mc)])] L)) ?_
 simp only [Any.someVals, List.take_succ_cons, List.take_zero]
 iterate 10 apply Exists.intro
 repeat (first
   | (refine Any.E_off rfl ?_; simp only [Act.put, sia, scs, scz])
   | (apply Any.E_pureq rfl rfl rfl
      case h => intro K hK; go_big_quiet_op; (refine hK _ ?_; rfl)
      case hr => exact fun _ => rfl
      simp only [Act.put, sia, scs, scz])
   | (apply Any.E_val rfl rfl rfl rfl
      case h =>
        intro E' hA K hK
        first
          | ((with_reducible refine Any.at_qload (T := 26) ?_); refine Any.q_ldv 1005 hA (by decide) rfl rfl 1 _ Tryz.underlying26 rfl infoM (by decide) rfl ?_; refine hK _ ?_; rfl)
          | ((with_reducible refine Any.at_qload (T := 3) ?_); refine Any.q_ldc 1004 hA (by decide) rfl rfl _ Tryz.underlying3 rfl (.int .i64 base) rfl ?_; refine hK _ ?_; rfl)
          | ((with_reducible refine Any.at_qload (T := 3) ?_); refine Any.q_ldc 1003 hA (by decide) rfl rfl _ Tryz.underlying3 rfl (.int .i64 n) rfl ?_; refine hK _ ?_; rfl)
          | ((with_reducible refine Any.at_qload (T := 27) ?_); refine Any.q_ldc 1002 hA (by decide) rfl rfl _ Tryz.underlying27 rfl (.int .u16 i) rfl ?_; refine hK _ ?_; rfl)
          | (go_big_quiet_op; first
            | (refine hK _ ?_; rfl)
            | (refine ⟨_, fun _ _ => rfl, ?_⟩; refine hK _ ?_; rfl)
            | (apply Exists.intro; refine ⟨fun w1 hw1 => ?_, ?_⟩; · (first
                | (go_at_call 88; exact Any.calls_VE (HAV.out _) hw1)
                | (go_at_call 93; exact Any.calls_VE (HPL.out _) hw1))
               refine hK _ ?_; rfl))
      case hD => rfl
      simp only [Act.put, sia, scs, scz])
   | ((with_reducible refine Any.at_ealloc ?_); refine Any.E_lay rfl rfl rfl (fun _ => rfl) ?_; intro B; simp only [Act.put, sia, scs, scz]))
 try any_goals exact undef
 refine Any.E_nil ?_
 intro w9 hE9
 replace hv : Mem w0 w9 ([(b10, #[.slice none 0 0]), (b9, #[.int .u32 id, .int .u32 len]), (b8, #[.int .u16 i]), (b7, #[.int .i64 n]), (b6, #[.int .i64 base]), (b5, #[(.slice (some ⟨mb, mo, none⟩) mn mc)])] ++ L) _ := hE9.memr (L1 := [(b10, #[.slice none 0 0]), (b9, #[.int .u32 id, .int .u32 len]), (b8, #[.int .u16 i]), (b7, #[.int .i64 n]), (b6, #[.int .i64 base]), (b5, #[(.slice (some ⟨mb, mo, none⟩) mn mc)])]) hv [1000, 1001, 1002, 1003, 1004, 1005] (by decide)
 clear hE9
 refine Any.wpOp_callv rfl rfl (Go.Proofs.enters_of Tryz.func92 (by kernel_rfl) rfl) rfl [(.agg #[(.slice (some ⟨mb, mo, none⟩) mn mc)]), .int .i64 base, .int .i64 n, .int .i64 s, .func (.func 97) #[] #[.pointer (some ⟨b9, 0, none⟩), .pointer (some ⟨b6, 0, none⟩), .pointer (some ⟨b7, 0, none⟩), .pointer (some ⟨b8, 0, none⟩), .pointer (some ⟨b5, 0, none⟩)]] rfl ?_
 refine (reading_M hv HM.out base n s HN.out HB.out HP.out (Go.Proofs.enters_of Tryz.func97 (by kernel_rfl) rfl) (cap := #[.pointer (some ⟨b9, 0, none⟩), .pointer (some ⟨b6, 0, none⟩), .pointer (some ⟨b7, 0, none⟩), .pointer (some ⟨b8, 0, none⟩), .pointer (some ⟨b5, 0, none⟩)]) (Post := fun w' => ∃ b c R', Mem w0 w' ((b10, #[.slice none 0 0]) :: (b5, #[.slice (some ⟨b, 0, none⟩) mn c]) :: L) R' ∧ InM R' b 0 mn c M2 ∧ ∀ x ∈ R, x ∈ R') (fun bF w1 hv1 => HCL.out bF w1 _ _ _ _ _ _ hv1)).mono ?_
 rintro e w1 ⟨rfl, vb, vc, R1, hv1, hi1, hs1⟩
 replace hv := hv1
 have HI1 := Lib.hid hi1
 have HS1 := Lib.hid hs1
 clear hv1 hi1 hs1
 refine ⟨_, rfl, ?_⟩
 replace hv : Mem w0 _ ([(b10, _), (b5, _)] ++ L) _ := hv
 refine Any.wpAny_rest 11 [⟨[], none⟩] [.val] (by kernel_rfl) (hv.vars.keep (List.sublist_append_left [(b10, #[.slice none 0 0]), (b5, #[(.slice (some ⟨vb, 0, none⟩) mn vc)])] L)) ?_
 simp only [List.length_cons, List.length_nil, Nat.zero_add, Nat.reduceAdd, Nat.reduceSub, Any.someVals, List.drop_succ_cons, List.drop_zero]
 simp only [Act.put, sia, scs, scz]
 iterate 1 apply Exists.intro
 repeat (first
   | (refine Any.E_off rfl ?_; simp only [Act.put, sia, scs, scz])
   | (apply Any.E_pureq rfl rfl rfl
      case h => intro K hK; go_big_quiet_op; (refine hK _ ?_; rfl)
      case hr => exact fun _ => rfl
      simp only [Act.put, sia, scs, scz])
   | (apply Any.E_val rfl rfl rfl rfl
      case h =>
        intro E' hA K hK
        first
          | ((with_reducible refine Any.at_qload (T := 26) ?_); refine Any.q_ldv 1005 hA (by decide) rfl rfl 1 _ Tryz.underlying26 rfl infoM (by decide) rfl ?_; refine hK _ ?_; rfl)
          | ((with_reducible refine Any.at_qload (T := 3) ?_); refine Any.q_ldc 1004 hA (by decide) rfl rfl _ Tryz.underlying3 rfl (.int .i64 base) rfl ?_; refine hK _ ?_; rfl)
          | ((with_reducible refine Any.at_qload (T := 3) ?_); refine Any.q_ldc 1003 hA (by decide) rfl rfl _ Tryz.underlying3 rfl (.int .i64 n) rfl ?_; refine hK _ ?_; rfl)
          | ((with_reducible refine Any.at_qload (T := 27) ?_); refine Any.q_ldc 1002 hA (by decide) rfl rfl _ Tryz.underlying27 rfl (.int .u16 i) rfl ?_; refine hK _ ?_; rfl)
          | (go_big_quiet_op; first
            | (refine hK _ ?_; rfl)
            | (refine ⟨_, fun _ _ => rfl, ?_⟩; refine hK _ ?_; rfl)
            | (apply Exists.intro; refine ⟨fun w1 hw1 => ?_, ?_⟩; · (first
                | (go_at_call 88; exact Any.calls_VE (HAV.out _) hw1)
                | (go_at_call 93; exact Any.calls_VE (HPL.out _) hw1))
               refine hK _ ?_; rfl))
      case hD => rfl
      simp only [Act.put, sia, scs, scz])
   | ((with_reducible refine Any.at_ealloc ?_); refine Any.E_lay rfl rfl rfl (fun _ => rfl) ?_; intro B; simp only [Act.put, sia, scs, scz]))
 try any_goals exact undef
 refine Any.E_nil ?_
 intro w9 hE9
 replace hv : Mem w0 w9 ([(b10, #[.slice none 0 0]), (b5, #[(.slice (some ⟨vb, 0, none⟩) mn vc)])] ++ L) _ := hE9.memr0 (L1 := [(b10, #[.slice none 0 0]), (b5, #[(.slice (some ⟨vb, 0, none⟩) mn vc)])]) hv [1000, 1001] (by decide)
 clear hE9
 simp only [List.cons_append, List.nil_append] at hv
 go_wp2_with (first
   | ((with_reducible refine at_load (T := 26) ?_); refine wl_ldv rfl b5 rfl _ hv.vars.ro 1 _ Tryz.underlying26 rfl infoM (by decide) rfl ?_)
   | ((with_reducible refine at_store (T := 26) ?_); refine wl_stv rfl b10 rfl _ rfl _ hv.vars.ro hv.vars.so 1 infoM rfl rfl (by simp [Value.oneCell']) ?_; intro w2 hw2; replace hv := hv.sets (by repeat first | exact .z | apply SetM.s) hw2; clear hw2))
 try simp only [Exit.inBlock, Exit.then]
 refine ret_cell2 (v := .agg #[(.slice (some ⟨vb, 0, none⟩) mn vc)]) (v1 := .int .i64 0) rfl rfl (read_row _ b10 26 _ (hv.vars.ro (b := b10)) 1 _ Tryz.underlying26 rfl infoM (by decide) rfl) rfl rfl ?_
 exact ⟨vb, vc, R1, rfl, hv.drop.drop, HI1.out, HS1.out⟩
end Go.Proofs.YtjmibgomkgkhnaaGreat
end
