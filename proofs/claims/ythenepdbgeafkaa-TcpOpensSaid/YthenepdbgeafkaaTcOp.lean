/-
 Connections, segments and parts that come in as arguments (layer 26).
-/
import Derived.Test.YthenepdbgeafkaaWiOpen
import Derived.Test.YthenepdbgeafkaaGAW
import Derived.Test.YthenepdbgeafkaaGAV
set_option linter.unusedVariables false
set_option linter.unusedSimpArgs false
namespace Go.Proofs.Tp
open Go Go.RowKit Go.Proofs.Wi
abbrev cellsTc (st lo ip po iss una nx : Int) (dv : Value) (wnd : Int) (en se : Bool) (inx : Int) (bv pv : Value) (ed : Bool) (tm rto tr er : Int) : List Value := [.int .i64 st, .int .i64 lo, .int .u32 ip, .int .i64 po, .int .u32 iss, .int .u32 una, .int .u32 nx, dv, .int .i64 wnd, .bool en, .bool se, .int .u32 inx, bv, pv, .bool ed, .int .u64 tm, .int .i64 rto, .int .i64 tr, .int .i64 er]
structure Pq where
 fr : Int
 ln : Int
 fl : Int
 ac : Nat
 wn : Int
 rd : Bool
 nw : Nat
structure RdTc (W : World) (v : Value) (st lo po wnd rto tr er : Int) (ip iss una nx inx tm : Nat) (en se ed : Bool) (dv bv pv : Value) (D bs : List Nat) (l : List PcV) : Prop where
 eq : v = .agg (cellsTc st lo ip po iss una nx dv wnd en se inx bv pv ed tm rto tr er).toArray
 u1 : ip < 4294967296 ∧ iss < 4294967296 ∧ una < 4294967296 ∧ nx < 4294967296 ∧ inx < 4294967296 ∧ tm < 18446744073709551616
 i1 : (-9223372036854775808 ≤ st ∧ st ≤ 9223372036854775807) ∧ (-9223372036854775808 ≤ wnd ∧ wnd ≤ 9223372036854775807)
 d : Rd W 1 dv (cellsB D) ∧ goodB D
 s : RdSt W inx bv pv bs l
end Go.Proofs.Tp
namespace Go.Proofs.Ythenepdbgeafkaa
open Go.Proofs.Wi Go.RowKit Go.ChangeShapes Go.WideShapes Go.Proofs.Tp
section
variable {H : Type} {enc : TypeId × Value → H} {w : World} {base : Nat} {spare : Nat → Bool} {held : Bool}
instance : Inhabited Pq := ⟨⟨0, 0, 0, 0, 0, false, 0⟩⟩
theorem open_boolsW {fuel : Nat} {cs : List Value} {x : DataW H × List MemPlace} (h : DataW.trod enc Try.prog w 0 spare held fuel 53 cs = some x) : ∃ v, cs = [v] ∧ ∃ l : List Bool, Rd w 1 v (l.map Value.bool) := by
 obtain ⟨v, h1, l, h2, _⟩ := open_rd (fun b : Bool => [Value.bool b]) (fun _ => True) 1 (by omega) Try.underlying53 wo_b (fun _ => rfl) (fun n cs' d hd => by
   obtain ⟨m, e, _⟩ := DataW.trod_bool Try.underlying4 hd
   exact ⟨m, e, trivial⟩) h
 refine ⟨v, h1, l, ?_⟩
 have e : ∀ l : List Bool, l.flatMap (fun b => [Value.bool b]) = l.map Value.bool := by
   intro l
   induction l with
   | nil => rfl
   | cons a l ih => rw [List.flatMap_cons, ih]; rfl
 rw [e] at h2
 exact h2
end
end Go.Proofs.Ythenepdbgeafkaa
