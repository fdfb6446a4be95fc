/-
 The reference (layer 26): where the bounds hold, the numbers decide.
-/
import Derived.Test.YthenepdbgeafkaaGAV
set_option maxRecDepth 100000
set_option maxHeartbeats 8000000
set_option linter.unusedVariables false
set_option linter.unusedSimpArgs false
namespace Go.Proofs.Ythenepdbgeafkaa
open Go.Proofs.Wi Go.RowKit Go.Proofs Go.Proofs.Tp
inductive RNo (k una iss nx dn tm : Nat) (en : Bool) : Bool → Prop
 | z (hk : k = 0) (ht : tm ≠ 0) : RNo k una iss nx dn tm en false
 | c1 (hk : k = 1 ∨ k = 2) (hu : una ≠ iss) : RNo k una iss nx dn tm en false
 | c2 (hk : k = 1 ∨ k = 2) (hu : una = iss) (hi : nx ≠ Tp.u32 (iss + 1)) : RNo k una iss nx dn tm en false
 | c3 (hk : k = 1 ∨ k = 2) (hu : una = iss) (hi : nx = Tp.u32 (iss + 1)) (hd : dn ≠ 0) : RNo k una iss nx dn tm en false
 | c4 (hk : k = 1 ∨ k = 2) (hu : una = iss) (hi : nx = Tp.u32 (iss + 1)) (hd : dn = 0) : RNo k una iss nx dn tm en (!en)
inductive RYe (k una nx dn tm : Nat) (se : Bool) : Bool → Prop
 | y (hk : k = 0) (ht : tm = 0) : RYe k una nx dn tm se true
 | d1 (hk : k ≠ 0) (hk1 : k ≠ 1) (hk2 : k ≠ 2) (hw : ownN nx una se < 0) : RYe k una nx dn tm se false
 | d2 (hk : k ≠ 0) (hk1 : k ≠ 1) (hk2 : k ≠ 2) (hw : 0 ≤ ownN nx una se) (hw2 : ownN nx una se ≤ dn) : RYe k una nx dn tm se true
 | d3 (hk : k ≠ 0) (hk1 : k ≠ 1) (hk2 : k ≠ 2) (hw : 0 ≤ ownN nx una se) (hw2 : ¬ ownN nx una se ≤ dn) : RYe k una nx dn tm se false
end Go.Proofs.Ythenepdbgeafkaa
