/-
  What a function value comes to, whatever the instruction.
-/
import Derived.Test.YthpodinbbmgfoaaGreatIpTwo
import Derived.Shelf.Abstract
set_option linter.unusedVariables false
set_option linter.unusedSimpArgs false
namespace Go
open Go.RowKit Go.Shelf
/-- fv, called with two words, comes to f of them; R: what it reads. -/
def Fn2 (P : Program) (fv : Value) (R : List (Nat × Value × List Value)) (ok : Nat → Prop) (f : Nat → Nat → Nat) : Prop :=
  ∃ k cap, fv = .func (.func k) #[] cap ∧ (∀ args w, (callFunc k args).run P w = .ok (.enter k args) w) ∧ ∀ w', (∀ z ∈ R, Rd w' z.1 z.2.1 z.2.2) → ∀ x y : Nat, x < 18446744073709551616 → y < 18446744073709551616 → ok y →
    Calls P k (#[.int .u64 x, .int .u64 y] ++ cap) w' fun e w2 => e = .returned (.int .u64 (f x y : Nat)) ∧ New w' w2
/-- .. with one word. -/
def Fn1 (P : Program) (fv : Value) (f : Nat → Nat) : Prop :=
  ∃ k, fv = .func (.func k) #[] #[] ∧ (∀ args w, (callFunc k args).run P w = .ok (.enter k args) w) ∧ ∀ w' (x : Nat), x < 18446744073709551616 → Calls P k #[.int .u64 x] w' fun e w2 => e = .returned (.int .u64 (f x : Nat)) ∧ New w' w2
theorem rd_cell {w : World} {b : Nat} {v : Value} (h : Rd w 1 (.slice (some ⟨b, 0, none⟩) 1 1) [v]) : w.cell? ⟨b, 0, none⟩ = some v := by
  obtain ⟨ao, n, cap, e, g1, g2, g3, g4, g5⟩ := h
  cases e
  obtain ⟨b', o', e', _, hc⟩ := g5 0 (by simp)
  cases e'
  exact hc
theorem same_new {w w' : World} (h : w = w') : New w w' := by rw [← h]; exact Below.refl _ _
theorem drewN_new {w w' : World} {n : Nat} (h : w' = w.drewN n) : New w w' := by rw [h]; exact ⟨rfl, rfl, rfl, Nat.le_refl _, fun _ _ => rfl⟩
end Go
namespace Go.Proofs.YthpodinbbmgfoaaGreat
open Go.Proofs.Ip Go.Proofs.Pt Go.RowKit Go.Shelf
theorem fn2_6 : Fn2 Tryz.prog (.func (.func 37) #[] #[]) [] (fun y => True) (fun x y => (x + y) % 18446744073709551616) :=
  ⟨37, #[], rfl, enters_of Tryz.func37 (by kernel_rfl) rfl, fun w' _ x y hx hy ho => (WAdd_any x y hx hy w').mono fun e w2 ⟨h1, h2⟩ => ⟨h1, same_new h2⟩⟩
theorem fn2_7 : Fn2 Tryz.prog (.func (.func 38) #[] #[]) [] (fun y => True) (fun x y => (x + (18446744073709551616 - y)) % 18446744073709551616) :=
  ⟨38, #[], rfl, enters_of Tryz.func38 (by kernel_rfl) rfl, fun w' _ x y hx hy ho => (WSub_any x y hx hy w').mono fun e w2 ⟨h1, h2⟩ => ⟨h1, same_new h2⟩⟩
theorem fn2_8 : Fn2 Tryz.prog (.func (.func 39) #[] #[]) [] (fun y => True) (fun x y => x * y % 18446744073709551616) :=
  ⟨39, #[], rfl, enters_of Tryz.func39 (by kernel_rfl) rfl, fun w' _ x y hx hy ho => (WMul_any x y hx hy w').mono fun e w2 ⟨h1, h2⟩ => ⟨h1, same_new h2⟩⟩
theorem fn2_9 : Fn2 Tryz.prog (.func (.func 40) #[] #[]) [] (fun y => y ≠ 0) (fun x y => x / y) :=
  ⟨40, #[], rfl, enters_of Tryz.func40 (by kernel_rfl) rfl, fun w' _ x y hx hy ho => (WDiv_any x y hx hy ho w').mono fun e w2 ⟨h1, h2⟩ => ⟨h1, same_new h2⟩⟩
theorem fn2_10 : Fn2 Tryz.prog (.func (.func 41) #[] #[]) [] (fun y => y ≠ 0) (fun x y => x % y) :=
  ⟨41, #[], rfl, enters_of Tryz.func41 (by kernel_rfl) rfl, fun w' _ x y hx hy ho => (WMod_any x y hx hy ho w').mono fun e w2 ⟨h1, h2⟩ => ⟨h1, same_new h2⟩⟩
theorem fn2_11 : Fn2 Tryz.prog (.func (.func 42) #[] #[]) [] (fun y => True) (fun x y => x &&& y) :=
  ⟨42, #[], rfl, enters_of Tryz.func42 (by kernel_rfl) rfl, fun w' _ x y hx hy ho => (WAnd_any x y hx hy w').mono fun e w2 ⟨h1, h2⟩ => ⟨h1, same_new h2⟩⟩
theorem fn2_12 : Fn2 Tryz.prog (.func (.func 43) #[] #[]) [] (fun y => True) (fun x y => x ||| y) :=
  ⟨43, #[], rfl, enters_of Tryz.func43 (by kernel_rfl) rfl, fun w' _ x y hx hy ho => (WOr_any x y hx hy w').mono fun e w2 ⟨h1, h2⟩ => ⟨h1, same_new h2⟩⟩
theorem fn2_13 : Fn2 Tryz.prog (.func (.func 44) #[] #[]) [] (fun y => True) (fun x y => x ^^^ y) :=
  ⟨44, #[], rfl, enters_of Tryz.func44 (by kernel_rfl) rfl, fun w' _ x y hx hy ho => (WXor_any x y hx hy w').mono fun e w2 ⟨h1, h2⟩ => ⟨h1, same_new h2⟩⟩
theorem fn2_14 : Fn2 Tryz.prog (.func (.func 45) #[] #[]) [] (fun y => True) (fun x y => x * 2 ^ y % 18446744073709551616) :=
  ⟨45, #[], rfl, enters_of Tryz.func45 (by kernel_rfl) rfl, fun w' _ x y hx hy ho => (WShl_any x y hx hy w').mono fun e w2 ⟨h1, h2⟩ => ⟨h1, same_new h2⟩⟩
theorem fn2_15 : Fn2 Tryz.prog (.func (.func 46) #[] #[]) [] (fun y => True) (fun x y => x / 2 ^ y) :=
  ⟨46, #[], rfl, enters_of Tryz.func46 (by kernel_rfl) rfl, fun w' _ x y hx hy ho => (WShr_any x y hx hy w').mono fun e w2 ⟨h1, h2⟩ => ⟨h1, same_new h2⟩⟩
theorem fn2_30 : Fn2 Tryz.prog (.func (.func 60) #[] #[]) [] (fun y => True) (fun x y => minF x y) :=
  ⟨60, #[], rfl, enters_of Tryz.func60 (by kernel_rfl) rfl, fun w' _ x y hx hy ho => (Min_any x y hx hy w').mono fun e w2 ⟨h1, h2⟩ => ⟨h1, same_new h2⟩⟩
theorem fn2_31 : Fn2 Tryz.prog (.func (.func 61) #[] #[]) [] (fun y => True) (fun x y => maxF x y) :=
  ⟨61, #[], rfl, enters_of Tryz.func61 (by kernel_rfl) rfl, fun w' _ x y hx hy ho => (Max_any x y hx hy w').mono fun e w2 ⟨h1, h2⟩ => ⟨h1, same_new h2⟩⟩
theorem fn2_26 : Fn2 Tryz.prog (.func (.func 56) #[] #[]) [] (fun y => True) (fun x y => opF .add x y) :=
  ⟨56, #[], rfl, enters_of Tryz.func56 (by kernel_rfl) rfl, fun w' _ x y hx hy ho => (Add_any x y hx hy w').mono fun e w2 ⟨n, h1, h2⟩ => ⟨h1, drewN_new h2⟩⟩
theorem fn2_27 : Fn2 Tryz.prog (.func (.func 57) #[] #[]) [] (fun y => True) (fun x y => opF .sub x y) :=
  ⟨57, #[], rfl, enters_of Tryz.func57 (by kernel_rfl) rfl, fun w' _ x y hx hy ho => (Sub_any x y hx hy w').mono fun e w2 ⟨n, h1, h2⟩ => ⟨h1, drewN_new h2⟩⟩
theorem fn2_28 : Fn2 Tryz.prog (.func (.func 58) #[] #[]) [] (fun y => True) (fun x y => opF .mul x y) :=
  ⟨58, #[], rfl, enters_of Tryz.func58 (by kernel_rfl) rfl, fun w' _ x y hx hy ho => (Mul_any x y hx hy w').mono fun e w2 ⟨n, h1, h2⟩ => ⟨h1, drewN_new h2⟩⟩
theorem fn2_29 : Fn2 Tryz.prog (.func (.func 59) #[] #[]) [] (fun y => True) (fun x y => opF .quo x y) :=
  ⟨59, #[], rfl, enters_of Tryz.func59 (by kernel_rfl) rfl, fun w' _ x y hx hy ho => (Div_any x y hx hy w').mono fun e w2 ⟨n, h1, h2⟩ => ⟨h1, drewN_new h2⟩⟩
theorem fn2_16 (b : Nat) : Fn2 Tryz.prog (.func (.func 76) #[] #[.pointer (some ⟨b, 0, none⟩)]) [(1, .slice (some ⟨b, 0, none⟩) 1 1, [.func (.func 48) #[] #[]])] (fun y => True) (fun x y => bit (decide (x = y))) :=
  ⟨76, #[.pointer (some ⟨b, 0, none⟩)], rfl, enters_of Tryz.func76 (by kernel_rfl) rfl, fun w' hR x y hx hy ho => (ToldEq_any x y hx hy b w' (rd_cell (hR _ (List.mem_cons_self ..)))).mono fun e w2 ⟨h1, h2⟩ => ⟨h1, same_new h2⟩⟩
theorem fn2_17 (b : Nat) : Fn2 Tryz.prog (.func (.func 76) #[] #[.pointer (some ⟨b, 0, none⟩)]) [(1, .slice (some ⟨b, 0, none⟩) 1 1, [.func (.func 49) #[] #[]])] (fun y => True) (fun x y => bit (decide (x < y))) :=
  ⟨76, #[.pointer (some ⟨b, 0, none⟩)], rfl, enters_of Tryz.func76 (by kernel_rfl) rfl, fun w' hR x y hx hy ho => (ToldLess_any x y hx hy b w' (rd_cell (hR _ (List.mem_cons_self ..)))).mono fun e w2 ⟨h1, h2⟩ => ⟨h1, same_new h2⟩⟩
theorem fn2_18 (b : Nat) : Fn2 Tryz.prog (.func (.func 76) #[] #[.pointer (some ⟨b, 0, none⟩)]) [(1, .slice (some ⟨b, 0, none⟩) 1 1, [.func (.func 50) #[] #[]])] (fun y => True) (fun x y => bit (decide (wrap64 (x : Int) < wrap64 (y : Int)))) :=
  ⟨76, #[.pointer (some ⟨b, 0, none⟩)], rfl, enters_of Tryz.func76 (by kernel_rfl) rfl, fun w' hR x y hx hy ho => (ToldBelow_any x y hx hy b w' (rd_cell (hR _ (List.mem_cons_self ..)))).mono fun e w2 ⟨h1, h2⟩ => ⟨h1, same_new h2⟩⟩
theorem fn2_32 (b : Nat) : Fn2 Tryz.prog (.func (.func 76) #[] #[.pointer (some ⟨b, 0, none⟩)]) [(1, .slice (some ⟨b, 0, none⟩) 1 1, [.func (.func 62) #[] #[]])] (fun y => True) (fun x y => bit (ltF x y)) :=
  ⟨76, #[.pointer (some ⟨b, 0, none⟩)], rfl, enters_of Tryz.func76 (by kernel_rfl) rfl, fun w' hR x y hx hy ho => (ToldFLess_any x y hx hy b w' (rd_cell (hR _ (List.mem_cons_self ..)))).mono fun e w2 ⟨h1, h2⟩ => ⟨h1, same_new h2⟩⟩
theorem fn2_33 (b : Nat) : Fn2 Tryz.prog (.func (.func 76) #[] #[.pointer (some ⟨b, 0, none⟩)]) [(1, .slice (some ⟨b, 0, none⟩) 1 1, [.func (.func 63) #[] #[]])] (fun y => True) (fun x y => bit (eqF x y)) :=
  ⟨76, #[.pointer (some ⟨b, 0, none⟩)], rfl, enters_of Tryz.func76 (by kernel_rfl) rfl, fun w' hR x y hx hy ho => (ToldFEq_any x y hx hy b w' (rd_cell (hR _ (List.mem_cons_self ..)))).mono fun e w2 ⟨h1, h2⟩ => ⟨h1, same_new h2⟩⟩
theorem fn1_19 : Fn1 Tryz.prog (.func (.func 51) #[] #[]) (fun x => bit (decide (x = 0))) :=
  ⟨51, rfl, enters_of Tryz.func51 (by kernel_rfl) rfl, fun w' x hx => (SNot_any x w').mono fun e w2 ⟨h1, h2⟩ => ⟨h1, same_new h2⟩⟩
theorem fn1_34 : Fn1 Tryz.prog (.func (.func 53) #[] #[]) (fun x => negF x) :=
  ⟨53, rfl, enters_of Tryz.func53 (by kernel_rfl) rfl, fun w' x hx => (Neg_any x hx w').mono fun e w2 ⟨h1, h2⟩ => ⟨h1, same_new h2⟩⟩
theorem fn1_35 : Fn1 Tryz.prog (.func (.func 54) #[] #[]) (fun x => fromI (IntKind.i64.wrap (x : Int))) :=
  ⟨54, rfl, enters_of Tryz.func54 (by kernel_rfl) rfl, fun w' x hx => (FromInt_any x hx w').mono fun e w2 ⟨h1, h2⟩ => ⟨h1, same_new h2⟩⟩
theorem fn1_36 : Fn1 Tryz.prog (.func (.func 55) #[] #[]) (fun x => toW x) :=
  ⟨55, rfl, enters_of Tryz.func55 (by kernel_rfl) rfl, fun w' x hx => (ToInt_any x hx w').mono fun e w2 ⟨h1, h2⟩ => ⟨h1, same_new h2⟩⟩
end Go.Proofs.YthpodinbbmgfoaaGreat
