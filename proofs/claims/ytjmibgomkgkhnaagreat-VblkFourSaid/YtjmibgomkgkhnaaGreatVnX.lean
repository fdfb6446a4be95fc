import Derived.Test.YtjmibgomkgkhnaaGreatQuRV
import Derived.Test.YtjmibgomkgkhnaaGreatIdd
import Derived.Test.YtjmibgomkgkhnaaGreatVrMem
import Derived.Test.YtjmibgomkgkhnaaGreatBnp
import Derived.Test.YtjmibgomkgkhnaaGreatEq
set_option linter.unusedSimpArgs false
set_option linter.unusedVariables false
set_option maxRecDepth 100000
set_option maxHeartbeats 16000000
section
/-
 A card behind two rings (layer 10): which of its queues' halves may be.
-/
namespace Go.Proofs.Qu
open Go Go.RowKit Go.Proofs.Nm
end Go.Proofs.Qu
namespace Go.Proofs.YtjmibgomkgkhnaaGreat
open Go.Proofs.Qu Go.Proofs.Nm Go.RowKit Go.Proofs
theorem zero_bool (w : World) : (zeroValue 4).run Tryz.prog w = .ok (.bool false) w := by simp only [go_sem, Tryz.zeroValue4]
theorem wf_int {n : Int} (h : 0 ≤ n) (h2 : n ≤ 1000000) : (Lit.int .i64 n).wf = true := by
 simp only [Lit.wf, Bool.and_eq_true, decide_eq_true_eq]
 have h1 : IntKind.i64.min = -9223372036854775808 := by decide
 have h2 : IntKind.i64.max = 9223372036854775807 := by decide
 omega
end Go.Proofs.YtjmibgomkgkhnaaGreat
end

section
/-
 A card behind two rings (layer 10): a queue and its buffers may be.
-/
namespace Go
open Go.RowKit
section
variable {P : Program} {ops : Array Oper} {rest : List Oper} {a : Act} {w : World} {Q : Exit → Act → World → Prop}
variable {dst : Option Tmp} {ty T e : TypeId} {pos : String} {after : Array Edge} {g : Option (Nat × Bool)} {x y : Operand}
theorem at_aindex (h : wpList P ops Q (⟨dst, .index T x y, ty, pos, after, g⟩ :: rest) a w) : wpList P ops Q (⟨dst, .index T x y, ty, pos, after, g⟩ :: rest) a w := h
end
end Go
namespace Go.Proofs.Qu
open Go Go.RowKit Go.Proofs.Nm
theorem heads_sub : ∀ (chs : List Chn), (∀ c ∈ chs, c.ds[0]? = some c.h) → (chs.map (·.h)).Sublist (chs.flatMap (·.ds))
 | [], _ => .slnil
 | c :: r, h => by
   have h1 : [c.h].Sublist c.ds := by
     have h0 := h c (List.mem_cons_self ..)
     cases hd : c.ds with
     | nil => rw [hd] at h0; cases h0
     | cons x l => rw [hd] at h0; cases h0; exact List.Sublist.cons_cons _ (List.nil_sublist _)
   rw [List.map_cons, List.flatMap_cons]
   exact List.Sublist.append h1 (heads_sub r fun d hd => h d (List.mem_cons_of_mem _ hd))
theorem OkQ.heads {n : Nat} {free : List Nat} {chs : List Chn} (h : OkQ n free chs) : (chs.map (·.h)).Nodup := by
 have h1 := h.all.nodup_iff.2 List.nodup_range
 rw [List.nodup_append] at h1
 exact (heads_sub chs fun c hc => (h.hd c hc).1).nodup h1.2.1
end Go.Proofs.Qu
namespace Go.Proofs.YtjmibgomkgkhnaaGreat
open Go.Proofs.Qu Go.Proofs.Nm Go.RowKit Go.Proofs
end Go.Proofs.YtjmibgomkgkhnaaGreat
end
