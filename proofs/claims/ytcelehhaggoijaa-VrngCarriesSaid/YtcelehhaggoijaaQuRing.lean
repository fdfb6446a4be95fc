/-
  Rings: what reads one.
-/
import Derived.Test.YtcelehhaggoijaaQuFld2
import Derived.Deep.DeepMust
set_option linter.unusedVariables false
set_option linter.unusedSimpArgs false
namespace Go.Proofs.Qu
open Go Go.RowKit Go.Proofs.Nm
theorem getN_lt' {M : List Nat} (h : goodB M) (p : Nat) {k : Nat} (hk : k ≤ 8) : getN M p k < 256 ^ k := by
  have h1 := fromTo_lt (getB_good (p := p) (n := k) h) (min 8 (getB M p k).length)
  have h2 : (getB M p k).length ≤ k := by unfold getB; rw [List.length_take]; omega
  exact Nat.lt_of_lt_of_le h1 (Nat.pow_le_pow_right (by omega) (by omega))
structure OkM (mn : Nat) (M : List Nat) : Prop where
  len : M.length = mn
  pos : 0 < mn
  most : mn ≤ 8192
  good : goodB M
theorem InM.ok {R : List (Nat × Value × List Value)} {mb mo mn mc : Nat} {M : List Nat} (h : InM R mb mo mn mc M) : OkM mn M := ⟨h.len, h.pos, h.most, h.good⟩
theorem wrap32 {n : Nat} (h : n < 4294967296) : IntKind.u32.wrap (n : Int) = (n : Int) := by
  unfold IntKind.wrap
  simp [IntKind.bits, IntKind.signed]
  omega
theorem wrap16 {n : Nat} (h : n < 65536) : IntKind.u16.wrap (n : Int) = (n : Int) := by
  unfold IntKind.wrap
  simp [IntKind.bits, IntKind.signed]
  omega
theorem wrap16n (n : Nat) : IntKind.u16.wrap (n : Int) = ((n % 65536 : Nat) : Int) := by
  unfold IntKind.wrap
  simp [IntKind.bits, IntKind.signed]
end Go.Proofs.Qu
namespace Go.Proofs.Ytcelehhaggoijaa
open Go.Proofs.Qu Go.Proofs.Nm Go.RowKit Go.Proofs
theorem infoD : (Try.prog.info? 96).map (·.size) = some 4 := by kernel_rfl
theorem infoUs : (Try.prog.info? 101).map (·.size) = some 2 := by kernel_rfl
theorem getx_2 {w0 w : World} {L : List (Nat × Array Value)} {R : List (Nat × Value × List Value)} {bF mb mo mn mc p : Nat} {M : List Nat} (hv : Mem w0 w ((bF, #[(.slice (some ⟨mb, mo, none⟩) mn mc), .int .i64 (p : Nat)]) :: L) R) (hm : InM R mb mo mn mc M) (h : p + 2 ≤ mn) {x : Nat} (hx : getN M p 2 = x) : Calls Try.prog 62 #[.pointer (some ⟨bF, 0, none⟩), .int .i64 2] w fun e w' => e = .returned (.int .u64 (x : Nat)) ∧ Mem w0 w' ((bF, #[(.slice (some ⟨mb, mo, none⟩) mn mc), .int .i64 ((p + 2) : Nat)]) :: L) R := by
  subst hx
  exact get_2 hv hm h
theorem getx_4 {w0 w : World} {L : List (Nat × Array Value)} {R : List (Nat × Value × List Value)} {bF mb mo mn mc p : Nat} {M : List Nat} (hv : Mem w0 w ((bF, #[(.slice (some ⟨mb, mo, none⟩) mn mc), .int .i64 (p : Nat)]) :: L) R) (hm : InM R mb mo mn mc M) (h : p + 4 ≤ mn) {x : Nat} (hx : getN M p 4 = x) : Calls Try.prog 62 #[.pointer (some ⟨bF, 0, none⟩), .int .i64 4] w fun e w' => e = .returned (.int .u64 (x : Nat)) ∧ Mem w0 w' ((bF, #[(.slice (some ⟨mb, mo, none⟩) mn mc), .int .i64 ((p + 4) : Nat)]) :: L) R := by
  subst hx
  exact get_4 hv hm h
theorem getx_8 {w0 w : World} {L : List (Nat × Array Value)} {R : List (Nat × Value × List Value)} {bF mb mo mn mc p : Nat} {M : List Nat} (hv : Mem w0 w ((bF, #[(.slice (some ⟨mb, mo, none⟩) mn mc), .int .i64 (p : Nat)]) :: L) R) (hm : InM R mb mo mn mc M) (h : p + 8 ≤ mn) {x : Nat} (hx : getN M p 8 = x) : Calls Try.prog 62 #[.pointer (some ⟨bF, 0, none⟩), .int .i64 8] w fun e w' => e = .returned (.int .u64 (x : Nat)) ∧ Mem w0 w' ((bF, #[(.slice (some ⟨mb, mo, none⟩) mn mc), .int .i64 ((p + 8) : Nat)]) :: L) R := by
  subst hx
  exact get_8 hv hm h
set_option maxRecDepth 100000 in
set_option maxHeartbeats 4000000 in
theorem DescC {bD : Nat} {w0 w : World} {L : List (Nat × Array Value)} {R : List (Nat × Value × List Value)} {bF mb mo mn mc p : Nat} {M : List Nat} (hv : Mem w0 w ((bF, #[(.slice (some ⟨mb, mo, none⟩) mn mc), .int .i64 (p : Nat)]) :: (bD, #[.int .u64 0, .int .u32 0, .int .u16 0, .int .u16 0]) :: L) R) (hm : InM R mb mo mn mc M) (h : p + 16 ≤ mn) {a l f x : Nat} (h1 : getN M p 8 = a) (h2 : getN M (p + 8) 4 = l) (h3 : getN M (p + 8 + 4) 2 = f) (h4 : getN M (p + 8 + 4 + 2) 2 = x) :
    Calls Try.prog 75 #[.pointer (some ⟨bF, 0, none⟩), .pointer (some ⟨bD, 0, none⟩)] w fun e w' => e = .returned (.tuple #[]) ∧ Mem w0 w' ((bD, #[.int .u64 (a : Nat), .int .u32 (l : Nat), .int .u16 (f : Nat), .int .u16 (x : Nat)]) :: L) R := by
  have HM := Lib.hid hm
  have H1 := Lib.hid h1
  have H2 := Lib.hid h2
  have H3 := Lib.hid h3
  have H4 := Lib.hid h4
  have P1 : Hid (p + 8 ≤ mn) := Lib.hid (by omega)
  have P2 : Hid (p + 8 + 4 ≤ mn) := Lib.hid (by omega)
  have P3 : Hid (p + 8 + 4 + 2 ≤ mn) := Lib.hid (by omega)
  have P4 : Hid (p + 8 + 4 + 2 + 2 ≤ mn) := Lib.hid (by omega)
  have g2 := getN_lt' hm.good (p + 8) (k := 4) (by decide)
  have g3 := getN_lt' hm.good (p + 8 + 4) (k := 2) (by decide)
  have g4 := getN_lt' hm.good (p + 8 + 4 + 2) (k := 2) (by decide)
  rw [h2] at g2
  rw [h3] at g3
  rw [h4] at g4
  have q2 : IntKind.u32.wrap (l : Int) = (l : Int) := wrap32 g2
  have q3 : IntKind.u16.wrap (f : Int) = (f : Int) := wrap16 g3
  have q4 : IntKind.u16.wrap (x : Int) = (x : Int) := wrap16 g4
  clear h1 h2 h3 h4 g2 g3 g4 hm h
  go_enter Try.func75, Try.ntmps75
  go_wp2_with (first
    | (go_at_call 62; (with_reducible refine (getx_8 hv HM.out P1.out H1.out).mono ?_); rintro e w1 ⟨rfl, hv1⟩; replace hv := hv1; clear hv1)
    | (go_at_call 62; (with_reducible refine (getx_4 hv HM.out P2.out H2.out).mono ?_); rintro e w1 ⟨rfl, hv1⟩; replace hv := hv1; clear hv1)
    | (go_at_call 62; (with_reducible refine (getx_2 hv HM.out P3.out H3.out).mono ?_); rintro e w1 ⟨rfl, hv1⟩; replace hv := hv1; clear hv1)
    | (go_at_call 62; (with_reducible refine (getx_2 hv HM.out P4.out H4.out).mono ?_); rintro e w1 ⟨rfl, hv1⟩; replace hv := hv1; clear hv1)
    | ((with_reducible refine at_store (T := 93) ?_); refine wl_stc rfl bD 0 rfl (.int .u64 (a : Nat)) rfl _ (hv.vars.row (by first | exact .head _ | exact .tail _ (.head _) | exact .tail _ (.tail _ (.head _)) | exact .tail _ (.tail _ (.tail _ (.head _))) | exact .tail _ (.tail _ (.tail _ (.tail _ (.head _)))) | exact .tail _ (.tail _ (.tail _ (.tail _ (.tail _ (.head _))))) | exact .tail _ (.tail _ (.tail _ (.tail _ (.tail _ (.tail _ (.head _)))))) | exact .tail _ (.tail _ (.tail _ (.tail _ (.tail _ (.tail _ (.tail _ (.head _))))))))) (hv.vars.sft (by first | exact .head _ | exact .tail _ (.head _) | exact .tail _ (.tail _ (.head _)) | exact .tail _ (.tail _ (.tail _ (.head _))) | exact .tail _ (.tail _ (.tail _ (.tail _ (.head _)))) | exact .tail _ (.tail _ (.tail _ (.tail _ (.tail _ (.head _))))) | exact .tail _ (.tail _ (.tail _ (.tail _ (.tail _ (.tail _ (.head _)))))) | exact .tail _ (.tail _ (.tail _ (.tail _ (.tail _ (.tail _ (.tail _ (.head _))))))))) (by kernel_rfl) rfl (by show 0 < 4; decide) ?_; intro w2 hw2; (first | (replace hv := hv.set 0 rfl hw2) | (replace hv := hv.set 1 rfl hw2) | (replace hv := hv.set 2 rfl hw2) | (replace hv := hv.set 3 rfl hw2)); clear hw2; simp only [List.set] at hv)
    | ((with_reducible refine at_store (T := 94) ?_); refine wl_stc rfl bD 1 rfl (.int .u32 (l : Nat)) rfl _ (hv.vars.row (by first | exact .head _ | exact .tail _ (.head _) | exact .tail _ (.tail _ (.head _)) | exact .tail _ (.tail _ (.tail _ (.head _))) | exact .tail _ (.tail _ (.tail _ (.tail _ (.head _)))) | exact .tail _ (.tail _ (.tail _ (.tail _ (.tail _ (.head _))))) | exact .tail _ (.tail _ (.tail _ (.tail _ (.tail _ (.tail _ (.head _)))))) | exact .tail _ (.tail _ (.tail _ (.tail _ (.tail _ (.tail _ (.tail _ (.head _))))))))) (hv.vars.sft (by first | exact .head _ | exact .tail _ (.head _) | exact .tail _ (.tail _ (.head _)) | exact .tail _ (.tail _ (.tail _ (.head _))) | exact .tail _ (.tail _ (.tail _ (.tail _ (.head _)))) | exact .tail _ (.tail _ (.tail _ (.tail _ (.tail _ (.head _))))) | exact .tail _ (.tail _ (.tail _ (.tail _ (.tail _ (.tail _ (.head _)))))) | exact .tail _ (.tail _ (.tail _ (.tail _ (.tail _ (.tail _ (.tail _ (.head _))))))))) (by kernel_rfl) rfl (by show 1 < 4; decide) ?_; intro w2 hw2; (first | (replace hv := hv.set 0 rfl hw2) | (replace hv := hv.set 1 rfl hw2) | (replace hv := hv.set 2 rfl hw2) | (replace hv := hv.set 3 rfl hw2)); clear hw2; simp only [List.set] at hv)
    | ((with_reducible refine at_store (T := 27) ?_); refine wl_stc rfl bD 2 rfl (.int .u16 (f : Nat)) rfl _ (hv.vars.row (by first | exact .head _ | exact .tail _ (.head _) | exact .tail _ (.tail _ (.head _)) | exact .tail _ (.tail _ (.tail _ (.head _))) | exact .tail _ (.tail _ (.tail _ (.tail _ (.head _)))) | exact .tail _ (.tail _ (.tail _ (.tail _ (.tail _ (.head _))))) | exact .tail _ (.tail _ (.tail _ (.tail _ (.tail _ (.tail _ (.head _)))))) | exact .tail _ (.tail _ (.tail _ (.tail _ (.tail _ (.tail _ (.tail _ (.head _))))))))) (hv.vars.sft (by first | exact .head _ | exact .tail _ (.head _) | exact .tail _ (.tail _ (.head _)) | exact .tail _ (.tail _ (.tail _ (.head _))) | exact .tail _ (.tail _ (.tail _ (.tail _ (.head _)))) | exact .tail _ (.tail _ (.tail _ (.tail _ (.tail _ (.head _))))) | exact .tail _ (.tail _ (.tail _ (.tail _ (.tail _ (.tail _ (.head _)))))) | exact .tail _ (.tail _ (.tail _ (.tail _ (.tail _ (.tail _ (.tail _ (.head _))))))))) (by kernel_rfl) rfl (by show 2 < 4; decide) ?_; intro w2 hw2; (first | (replace hv := hv.set 0 rfl hw2) | (replace hv := hv.set 1 rfl hw2) | (replace hv := hv.set 2 rfl hw2) | (replace hv := hv.set 3 rfl hw2)); clear hw2; simp only [List.set] at hv)
    | ((with_reducible refine at_store (T := 27) ?_); refine wl_stc rfl bD 3 rfl (.int .u16 (x : Nat)) rfl _ (hv.vars.row (by first | exact .head _ | exact .tail _ (.head _) | exact .tail _ (.tail _ (.head _)) | exact .tail _ (.tail _ (.tail _ (.head _))) | exact .tail _ (.tail _ (.tail _ (.tail _ (.head _)))) | exact .tail _ (.tail _ (.tail _ (.tail _ (.tail _ (.head _))))) | exact .tail _ (.tail _ (.tail _ (.tail _ (.tail _ (.tail _ (.head _)))))) | exact .tail _ (.tail _ (.tail _ (.tail _ (.tail _ (.tail _ (.tail _ (.head _))))))))) (hv.vars.sft (by first | exact .head _ | exact .tail _ (.head _) | exact .tail _ (.tail _ (.head _)) | exact .tail _ (.tail _ (.tail _ (.head _))) | exact .tail _ (.tail _ (.tail _ (.tail _ (.head _)))) | exact .tail _ (.tail _ (.tail _ (.tail _ (.tail _ (.head _))))) | exact .tail _ (.tail _ (.tail _ (.tail _ (.tail _ (.tail _ (.head _)))))) | exact .tail _ (.tail _ (.tail _ (.tail _ (.tail _ (.tail _ (.tail _ (.head _))))))))) (by kernel_rfl) rfl (by show 3 < 4; decide) ?_; intro w2 hw2; (first | (replace hv := hv.set 0 rfl hw2) | (replace hv := hv.set 1 rfl hw2) | (replace hv := hv.set 2 rfl hw2) | (replace hv := hv.set 3 rfl hw2)); clear hw2; simp only [List.set] at hv))
  go_end0
  exact ⟨rfl, hv.drop⟩
set_option maxRecDepth 100000 in
set_option maxHeartbeats 4000000 in
theorem IdxC {bD : Nat} {w0 w : World} {L : List (Nat × Array Value)} {R : List (Nat × Value × List Value)} {bF mb mo mn mc p : Nat} {M : List Nat} (hv : Mem w0 w ((bF, #[(.slice (some ⟨mb, mo, none⟩) mn mc), .int .i64 (p : Nat)]) :: (bD, #[.int .u16 0]) :: L) R) (hm : InM R mb mo mn mc M) (h : p + 2 ≤ mn) {x : Nat} (hx : getN M p 2 = x) :
    Calls Try.prog 73 #[.pointer (some ⟨bF, 0, none⟩), .pointer (some ⟨bD, 0, none⟩)] w fun e w' => e = .returned (.tuple #[]) ∧ Mem w0 w' ((bD, #[.int .u16 (x : Nat)]) :: L) R := by
  have HM := Lib.hid hm
  have H1 := Lib.hid hx
  have P1 := Lib.hid h
  have g := getN_lt' hm.good p (k := 2) (by decide)
  rw [hx] at g
  have q : IntKind.u16.wrap (x : Int) = (x : Int) := wrap16 g
  clear hx g hm h
  go_enter Try.func73, Try.ntmps73
  go_wp2_with (first
    | (go_at_call 62; (with_reducible refine (getx_2 hv HM.out P1.out H1.out).mono ?_); rintro e w1 ⟨rfl, hv1⟩; replace hv := hv1; clear hv1)
    | ((with_reducible refine at_store (T := 27) ?_); refine wl_stc rfl bD 0 rfl (.int .u16 (x : Nat)) rfl _ (hv.vars.row (by first | exact .head _ | exact .tail _ (.head _) | exact .tail _ (.tail _ (.head _)) | exact .tail _ (.tail _ (.tail _ (.head _))) | exact .tail _ (.tail _ (.tail _ (.tail _ (.head _)))) | exact .tail _ (.tail _ (.tail _ (.tail _ (.tail _ (.head _))))) | exact .tail _ (.tail _ (.tail _ (.tail _ (.tail _ (.tail _ (.head _)))))) | exact .tail _ (.tail _ (.tail _ (.tail _ (.tail _ (.tail _ (.tail _ (.head _))))))))) (hv.vars.sft (by first | exact .head _ | exact .tail _ (.head _) | exact .tail _ (.tail _ (.head _)) | exact .tail _ (.tail _ (.tail _ (.head _))) | exact .tail _ (.tail _ (.tail _ (.tail _ (.head _)))) | exact .tail _ (.tail _ (.tail _ (.tail _ (.tail _ (.head _))))) | exact .tail _ (.tail _ (.tail _ (.tail _ (.tail _ (.tail _ (.head _)))))) | exact .tail _ (.tail _ (.tail _ (.tail _ (.tail _ (.tail _ (.tail _ (.head _))))))))) (by kernel_rfl) rfl (by show 0 < 1; decide) ?_; intro w2 hw2; (first | (replace hv := hv.set 0 rfl hw2) | (replace hv := hv.set 1 rfl hw2) | (replace hv := hv.set 2 rfl hw2) | (replace hv := hv.set 3 rfl hw2)); clear hw2; simp only [List.set] at hv))
  go_end0
  exact ⟨rfl, hv.drop⟩
set_option maxRecDepth 100000 in
set_option maxHeartbeats 4000000 in
theorem AvatC {bD : Nat} {w0 w : World} {L : List (Nat × Array Value)} {R : List (Nat × Value × List Value)} {bF mb mo mn mc p : Nat} {M : List Nat} (hv : Mem w0 w ((bF, #[(.slice (some ⟨mb, mo, none⟩) mn mc), .int .i64 (p : Nat)]) :: (bD, #[.int .i64 0]) :: L) R) (hm : InM R mb mo mn mc M) (h : p + 2 ≤ mn) {x : Nat} (hx : getN M p 2 = x) :
    Calls Try.prog 61 #[.pointer (some ⟨bF, 0, none⟩), .pointer (some ⟨bD, 0, none⟩)] w fun e w' => e = .returned (.tuple #[]) ∧ Mem w0 w' ((bD, #[.int .i64 (x : Nat)]) :: L) R := by
  have HM := Lib.hid hm
  have H1 := Lib.hid hx
  have P1 := Lib.hid h
  have g := getN_lt' hm.good p (k := 2) (by decide)
  rw [hx] at g
  have q : IntKind.i64.wrap (x : Int) = (x : Int) := IntWalk.i64_in _ (by omega)
  clear hx g hm h
  go_enter Try.func61, Try.ntmps61
  go_wp2_with (first
    | (go_at_call 62; (with_reducible refine (getx_2 hv HM.out P1.out H1.out).mono ?_); rintro e w1 ⟨rfl, hv1⟩; replace hv := hv1; clear hv1)
    | ((with_reducible refine at_store (T := 3) ?_); refine wl_stc rfl bD 0 rfl (.int .i64 (x : Nat)) rfl _ (hv.vars.row (by first | exact .head _ | exact .tail _ (.head _) | exact .tail _ (.tail _ (.head _)) | exact .tail _ (.tail _ (.tail _ (.head _))) | exact .tail _ (.tail _ (.tail _ (.tail _ (.head _)))) | exact .tail _ (.tail _ (.tail _ (.tail _ (.tail _ (.head _))))) | exact .tail _ (.tail _ (.tail _ (.tail _ (.tail _ (.tail _ (.head _)))))) | exact .tail _ (.tail _ (.tail _ (.tail _ (.tail _ (.tail _ (.tail _ (.head _))))))))) (hv.vars.sft (by first | exact .head _ | exact .tail _ (.head _) | exact .tail _ (.tail _ (.head _)) | exact .tail _ (.tail _ (.tail _ (.head _))) | exact .tail _ (.tail _ (.tail _ (.tail _ (.head _)))) | exact .tail _ (.tail _ (.tail _ (.tail _ (.tail _ (.head _))))) | exact .tail _ (.tail _ (.tail _ (.tail _ (.tail _ (.tail _ (.head _)))))) | exact .tail _ (.tail _ (.tail _ (.tail _ (.tail _ (.tail _ (.tail _ (.head _))))))))) (by kernel_rfl) rfl (by show 0 < 1; decide) ?_; intro w2 hw2; (first | (replace hv := hv.set 0 rfl hw2) | (replace hv := hv.set 1 rfl hw2) | (replace hv := hv.set 2 rfl hw2) | (replace hv := hv.set 3 rfl hw2)); clear hw2; simp only [List.set] at hv))
  go_end0
  exact ⟨rfl, hv.drop⟩
set_option maxRecDepth 100000 in
set_option maxHeartbeats 4000000 in
theorem UsatC {bD : Nat} {w0 w : World} {L : List (Nat × Array Value)} {R : List (Nat × Value × List Value)} {bF mb mo mn mc p : Nat} {M : List Nat} (hv : Mem w0 w ((bF, #[(.slice (some ⟨mb, mo, none⟩) mn mc), .int .i64 (p : Nat)]) :: (bD, #[.int .u32 0, .int .u32 0]) :: L) R) (hm : InM R mb mo mn mc M) (h : p + 8 ≤ mn) {a l : Nat} (h1 : getN M p 4 = a) (h2 : getN M (p + 4) 4 = l) :
    Calls Try.prog 65 #[.pointer (some ⟨bF, 0, none⟩), .pointer (some ⟨bD, 0, none⟩)] w fun e w' => e = .returned (.tuple #[]) ∧ Mem w0 w' ((bD, #[.int .u32 (a : Nat), .int .u32 (l : Nat)]) :: L) R := by
  have HM := Lib.hid hm
  have H1 := Lib.hid h1
  have H2 := Lib.hid h2
  have P1 : Hid (p + 4 ≤ mn) := Lib.hid (by omega)
  have P2 : Hid (p + 4 + 4 ≤ mn) := Lib.hid (by omega)
  have g1 := getN_lt' hm.good p (k := 4) (by decide)
  have g2 := getN_lt' hm.good (p + 4) (k := 4) (by decide)
  rw [h1] at g1
  rw [h2] at g2
  have q1 : IntKind.u32.wrap (a : Int) = (a : Int) := wrap32 g1
  have q2 : IntKind.u32.wrap (l : Int) = (l : Int) := wrap32 g2
  clear h1 h2 g1 g2 hm h
  go_enter Try.func65, Try.ntmps65
  go_wp2_with (first
    | (go_at_call 62; (with_reducible refine (getx_4 hv HM.out P1.out H1.out).mono ?_); rintro e w1 ⟨rfl, hv1⟩; replace hv := hv1; clear hv1)
    | (go_at_call 62; (with_reducible refine (getx_4 hv HM.out P2.out H2.out).mono ?_); rintro e w1 ⟨rfl, hv1⟩; replace hv := hv1; clear hv1)
    | ((with_reducible refine at_store (T := 94) ?_); refine wl_stc rfl bD 0 rfl (.int .u32 (a : Nat)) rfl _ (hv.vars.row (by first | exact .head _ | exact .tail _ (.head _) | exact .tail _ (.tail _ (.head _)) | exact .tail _ (.tail _ (.tail _ (.head _))) | exact .tail _ (.tail _ (.tail _ (.tail _ (.head _)))) | exact .tail _ (.tail _ (.tail _ (.tail _ (.tail _ (.head _))))) | exact .tail _ (.tail _ (.tail _ (.tail _ (.tail _ (.tail _ (.head _)))))) | exact .tail _ (.tail _ (.tail _ (.tail _ (.tail _ (.tail _ (.tail _ (.head _))))))))) (hv.vars.sft (by first | exact .head _ | exact .tail _ (.head _) | exact .tail _ (.tail _ (.head _)) | exact .tail _ (.tail _ (.tail _ (.head _))) | exact .tail _ (.tail _ (.tail _ (.tail _ (.head _)))) | exact .tail _ (.tail _ (.tail _ (.tail _ (.tail _ (.head _))))) | exact .tail _ (.tail _ (.tail _ (.tail _ (.tail _ (.tail _ (.head _)))))) | exact .tail _ (.tail _ (.tail _ (.tail _ (.tail _ (.tail _ (.tail _ (.head _))))))))) (by kernel_rfl) rfl (by show 0 < 2; decide) ?_; intro w2 hw2; (first | (replace hv := hv.set 0 rfl hw2) | (replace hv := hv.set 1 rfl hw2) | (replace hv := hv.set 2 rfl hw2) | (replace hv := hv.set 3 rfl hw2)); clear hw2; simp only [List.set] at hv)
    | ((with_reducible refine at_store (T := 94) ?_); refine wl_stc rfl bD 1 rfl (.int .u32 (l : Nat)) rfl _ (hv.vars.row (by first | exact .head _ | exact .tail _ (.head _) | exact .tail _ (.tail _ (.head _)) | exact .tail _ (.tail _ (.tail _ (.head _))) | exact .tail _ (.tail _ (.tail _ (.tail _ (.head _)))) | exact .tail _ (.tail _ (.tail _ (.tail _ (.tail _ (.head _))))) | exact .tail _ (.tail _ (.tail _ (.tail _ (.tail _ (.tail _ (.head _)))))) | exact .tail _ (.tail _ (.tail _ (.tail _ (.tail _ (.tail _ (.tail _ (.head _))))))))) (hv.vars.sft (by first | exact .head _ | exact .tail _ (.head _) | exact .tail _ (.tail _ (.head _)) | exact .tail _ (.tail _ (.tail _ (.head _))) | exact .tail _ (.tail _ (.tail _ (.tail _ (.head _)))) | exact .tail _ (.tail _ (.tail _ (.tail _ (.tail _ (.head _))))) | exact .tail _ (.tail _ (.tail _ (.tail _ (.tail _ (.tail _ (.head _)))))) | exact .tail _ (.tail _ (.tail _ (.tail _ (.tail _ (.tail _ (.tail _ (.head _))))))))) (by kernel_rfl) rfl (by show 1 < 2; decide) ?_; intro w2 hw2; (first | (replace hv := hv.set 0 rfl hw2) | (replace hv := hv.set 1 rfl hw2) | (replace hv := hv.set 2 rfl hw2) | (replace hv := hv.set 3 rfl hw2)); clear hw2; simp only [List.set] at hv))
  go_end0
  exact ⟨rfl, hv.drop⟩
set_option maxRecDepth 100000 in
set_option maxHeartbeats 4000000 in
theorem Desc_w {mb mo mn mc : Nat} {M : List Nat} (hm : OkM mn M) (base n i : Nat) (hn : okN n) (hb : base + sizeN n ≤ mn) (hi : i < n) {a l f x : Nat} (h1 : getN M (base + 16 * i) 8 = a) (h2 : getN M (base + 16 * i + 8) 4 = l) (h3 : getN M (base + 16 * i + 8 + 4) 2 = f) (h4 : getN M (base + 16 * i + 8 + 4 + 2) 2 = x) (w : World) (hr : Rd w 1 (.slice (some ⟨mb, mo, none⟩) mn mc) (cellsB M)) :
    Calls Try.prog 63 #[(.agg #[(.slice (some ⟨mb, mo, none⟩) mn mc)]), .int .i64 (base : Nat), .int .i64 (n : Nat), .int .i64 (i : Nat)] w fun e w' => e = .returned (.tuple #[.agg #[.int .u64 (a : Nat), .int .u32 (l : Nat), .int .u16 (f : Nat), .int .u16 (x : Nat)], .int .i64 0]) ∧ New w w' := by
  have hv0 := (Mem.nil w).old hr
  have hv : Mem w w [] [(1, (.slice (some ⟨mb, mo, none⟩) mn mc), cellsB M)] := hv0
  have HM : Hid (InM [(1, (.slice (some ⟨mb, mo, none⟩) mn mc), cellsB M)] mb mo mn mc M) := Lib.hid ⟨Mem.z, hm.len, hm.pos, hm.most, hm.good⟩
  clear hv0 hr
  have HN := Lib.hid hn
  have HB := Lib.hid hb
  have H1 := Lib.hid h1
  have H2 := Lib.hid h2
  have H3 := Lib.hid h3
  have H4 := Lib.hid h4
  have hsz := hn.size
  have hle := hn.le
  have HP : Hid (base + 16 * i ≤ 100000) := Lib.hid (by have := hm.most; omega)
  have HH : Hid (base + 16 * i + 16 ≤ mn) := Lib.hid (by omega)
  have HM8 : Hid (mn ≤ 8192) := Lib.hid hm.most
  have y1 : decide ((i : Int) < 0) = false := decide_eq_false (by omega)
  have y2 : decide ((n : Int) ≤ (i : Int)) = false := decide_eq_false (by omega)
  have z2 : decide (n ≤ i) = false := decide_eq_false (by omega)
  have q1 : IntKind.i64.wrap (16 * (i : Int)) = ((16 * i : Nat) : Int) := by rw [IntWalk.i64_in _ (by omega)]; omega
  clear hn hb hi h1 h2 h3 h4 hsz hle hm
  go_enter Try.func63, Try.ntmps63
  go_wp2_with (first
    | ((with_reducible refine at_box (T := 25) (dst := some 4) ?_); refine wl_newb rfl #[(.slice (some ⟨mb, mo, none⟩) mn mc)] 25 (fun _ => rfl) ?_; intro b4 w2 hm2; replace hv := hv.madeAt hm2; clear hm2)
    | ((with_reducible refine at_alloc (T := 96) (dst := some 8) ?_); refine wl_newb rfl #[.int .u64 0, .int .u32 0, .int .u16 0, .int .u16 0] 96 (fun _ => rfl) ?_; intro b8 w2 hm2; replace hv := hv.madeAt hm2; clear hm2)
    | ((with_reducible refine at_alloc (T := 96) (dst := some 10) ?_); refine wl_newb rfl #[.int .u64 0, .int .u32 0, .int .u16 0, .int .u16 0] 96 (fun _ => rfl) ?_; intro b10 w2 hm2; replace hv := hv.madeAt hm2; clear hm2)
    | ((with_reducible refine at_load (T := 25) ?_); refine wl_ldv rfl b4 rfl _ (hv.vars.row (by first | exact .head _ | exact .tail _ (.head _) | exact .tail _ (.tail _ (.head _)) | exact .tail _ (.tail _ (.tail _ (.head _))) | exact .tail _ (.tail _ (.tail _ (.tail _ (.head _)))) | exact .tail _ (.tail _ (.tail _ (.tail _ (.tail _ (.head _))))) | exact .tail _ (.tail _ (.tail _ (.tail _ (.tail _ (.tail _ (.head _)))))) | exact .tail _ (.tail _ (.tail _ (.tail _ (.tail _ (.tail _ (.tail _ (.head _))))))))) 1 _ Try.underlying25 rfl infoM (by decide) rfl ?_)
    | (go_at_call 22; (with_reducible refine (RingCheck_ok _ _ _ _ _ _ HN.out HB.out HM8.out _).mono ?_); rintro e w1 ⟨rfl, hn1⟩; replace hv := hv.new hn1; clear hn1)
    | (go_at_call 54; (refine (reading_M hv HM.out base n (16 * i) HN.out HB.out HP.out (enters_of Try.func75 (by kernel_rfl) rfl) (cap := #[.pointer (some ⟨b10, 0, none⟩)]) (Post := fun w' => Mem w w' ((b10, #[.int .u64 (a : Nat), .int .u32 (l : Nat), .int .u16 (f : Nat), .int .u16 (x : Nat)]) :: (b8, #[.int .u64 0, .int .u32 0, .int .u16 0, .int .u16 0]) :: (b4, #[(.slice (some ⟨mb, mo, none⟩) mn mc)]) :: []) [(1, (.slice (some ⟨mb, mo, none⟩) mn mc), cellsB M)]) (fun bF w1 hv1 => DescC hv1 HM.out HH.out H1.out H2.out H3.out H4.out)).mono ?_); rintro e w1 ⟨rfl, hv1⟩; replace hv := hv1; clear hv1)
    | ((with_reducible refine at_load (T := 96) ?_); refine wl_ldv rfl b10 rfl _ (hv.vars.row (by first | exact .head _ | exact .tail _ (.head _) | exact .tail _ (.tail _ (.head _)) | exact .tail _ (.tail _ (.tail _ (.head _))) | exact .tail _ (.tail _ (.tail _ (.tail _ (.head _)))) | exact .tail _ (.tail _ (.tail _ (.tail _ (.tail _ (.head _))))) | exact .tail _ (.tail _ (.tail _ (.tail _ (.tail _ (.tail _ (.head _)))))) | exact .tail _ (.tail _ (.tail _ (.tail _ (.tail _ (.tail _ (.tail _ (.head _))))))))) 4 _ Try.underlying96 rfl infoD (by decide) rfl ?_)
    | ((with_reducible refine at_store (T := 96) ?_); refine wl_stv rfl b8 rfl _ rfl _ (hv.vars.row (by first | exact .head _ | exact .tail _ (.head _) | exact .tail _ (.tail _ (.head _)) | exact .tail _ (.tail _ (.tail _ (.head _))) | exact .tail _ (.tail _ (.tail _ (.tail _ (.head _)))) | exact .tail _ (.tail _ (.tail _ (.tail _ (.tail _ (.head _))))) | exact .tail _ (.tail _ (.tail _ (.tail _ (.tail _ (.tail _ (.head _)))))) | exact .tail _ (.tail _ (.tail _ (.tail _ (.tail _ (.tail _ (.tail _ (.head _))))))))) (hv.vars.sft (by first | exact .head _ | exact .tail _ (.head _) | exact .tail _ (.tail _ (.head _)) | exact .tail _ (.tail _ (.tail _ (.head _))) | exact .tail _ (.tail _ (.tail _ (.tail _ (.head _)))) | exact .tail _ (.tail _ (.tail _ (.tail _ (.tail _ (.head _))))) | exact .tail _ (.tail _ (.tail _ (.tail _ (.tail _ (.tail _ (.head _)))))) | exact .tail _ (.tail _ (.tail _ (.tail _ (.tail _ (.tail _ (.tail _ (.head _))))))))) 4 infoD rfl rfl (by simp [Value.oneCell']) ?_; intro w2 hw2; (first | (replace hv := hv.set 0 rfl hw2) | (replace hv := hv.set 1 rfl hw2) | (replace hv := hv.set 2 rfl hw2) | (replace hv := hv.set 3 rfl hw2)); clear hw2; simp only [List.set] at hv))
  try simp only [Exit.inBlock, Exit.then]
  exact ret_cell2 (v := .agg #[.int .u64 (a : Nat), .int .u32 (l : Nat), .int .u16 (f : Nat), .int .u16 (x : Nat)]) (v1 := .int .i64 0) rfl rfl (read_row _ b8 96 _ (hv.vars.row (b := b8) (by first | exact .head _ | exact .tail _ (.head _) | exact .tail _ (.tail _ (.head _)) | exact .tail _ (.tail _ (.tail _ (.head _))) | exact .tail _ (.tail _ (.tail _ (.tail _ (.head _)))) | exact .tail _ (.tail _ (.tail _ (.tail _ (.tail _ (.head _))))) | exact .tail _ (.tail _ (.tail _ (.tail _ (.tail _ (.tail _ (.head _)))))) | exact .tail _ (.tail _ (.tail _ (.tail _ (.tail _ (.tail _ (.tail _ (.head _))))))))) 4 _ Try.underlying96 rfl infoD (by decide) rfl) rfl rfl ⟨rfl, hv.below⟩
end Go.Proofs.Ytcelehhaggoijaa
