/-
  Add refuses a time that is past.
-/
import Derived.Test.YtfblognifnnadaaWhAddB
set_option linter.unusedVariables false
set_option linter.unusedSimpArgs false
namespace Go.Proofs.Ytfblognifnnadaa
open Go.Proofs.Wh Go.RowKit Go.Proofs
set_option maxRecDepth 100000 in
set_option maxHeartbeats 4000000 in
theorem Add_arg (now tm : Nat) (id : Int) (sv : List Value) (S : List (List Tm)) (hgd : ∀ l ∈ S, ∀ t ∈ l, (Lit.int .i64 t.2).wf = true) (hlen : ∀ l ∈ S, l.length ≤ 1000) (w : World) (R : List (Nat × Value × List Value)) (hr0 : ∀ x ∈ R, Rd w x.1 x.2.1 x.2.2) (hi : InW R sv S) (hc : chkW now S = true) (h1 : tm ≤ now) :
    Calls Try.prog 23 #[.agg (rowW now sv), .int .i64 id, .int .u64 (tm : Nat)] w fun e w' => e = .returned (.tuple #[.agg (rowW now sv), .int .i64 2]) ∧ New w w' := by
  have hv := Mem.all hr0
  have HR0 := Lib.hid hr0
  have HI := Lib.hid hi
  have HLE := Lib.hid hlen
  have HSZ : Hid ((rowW now sv).size = 9) := Lib.hid (by unfold rowW; simp only [List.size_toArray, List.length_cons]; rw [hi.1])
  have KC : Hid (∀ w1, Below w.heap.size w w1 → Calls Try.prog 13 #[.agg (rowW now sv)] w1 fun e w' => e = .returned (.bool true) ∧ New w1 w') := Lib.hid (fun w1 hb => by
    have := Check_any now sv S hgd hlen w1 R (fun x hx => (hr0 x hx).below hb) hi
    rw [hc] at this; exact this)
  have HONE : Hid ((rowW now sv).all (·.oneCell') = true) := Lib.hid (rowW_one hv hi)
  have HNW : Hid (((rowW now sv) : Array Value)[0]? = some (.int .u64 (now : Nat))) := Lib.hid rfl
  have y1 : decide ((tm : Int) ≤ (now : Int)) = true := decide_eq_true (by omega)
  have z1 : decide (tm ≤ now) = true := decide_eq_true (by omega)
  clear hi hr0 hc hlen hgd h1
  go_enter Try.func23, Try.ntmps23
  go_wp2_with (first
    | ((with_reducible refine at_box (T := 26) (dst := some 3) ?_); refine wl_newb rfl (rowW now sv) 26 (fun _ => rfl) ?_; intro b3 w2 hm2; replace hv := hv.madeAt hm2; clear hm2)
    | ((with_reducible refine at_box (T := 3) (dst := some 4) ?_); refine wl_newb rfl #[.int .i64 id] 3 (fun _ => rfl) ?_; intro b4 w2 hm2; replace hv := hv.madeAt hm2; clear hm2)
    | ((with_reducible refine at_alloc (T := 26) (dst := some 6) ?_); refine wl_newb rfl (rowW 0 (List.replicate 8 (.slice none 0 0))) 26 (fun _ => rfl) ?_; intro b6 w2 hm2; replace hv := hv.madeAt hm2; clear hm2)
    | ((with_reducible refine at_load (T := 26) ?_); refine wl_ldv rfl b3 rfl _ (hv.vars.row (by first | exact .head _ | exact .tail _ (.head _) | exact .tail _ (.tail _ (.head _)) | exact .tail _ (.tail _ (.tail _ (.head _))) | exact .tail _ (.tail _ (.tail _ (.tail _ (.head _)))) | exact .tail _ (.tail _ (.tail _ (.tail _ (.tail _ (.head _))))) | exact .tail _ (.tail _ (.tail _ (.tail _ (.tail _ (.tail _ (.head _)))))) | exact .tail _ (.tail _ (.tail _ (.tail _ (.tail _ (.tail _ (.tail _ (.head _))))))))) 9 _ Try.underlying26 rfl infoWh (by decide) HSZ.out ?_)
    | (go_at_call 13; (with_reducible refine (KC.out _ hv.below).mono ?_); rintro e w1 ⟨rfl, hn1⟩; replace hv := hv.new hn1; clear hn1)
    | ((with_reducible refine at_load (T := 22) ?_); refine wl_ldc rfl b3 0 rfl _ (hv.vars.row (by first | exact .head _ | exact .tail _ (.head _) | exact .tail _ (.tail _ (.head _)) | exact .tail _ (.tail _ (.tail _ (.head _))) | exact .tail _ (.tail _ (.tail _ (.tail _ (.head _)))) | exact .tail _ (.tail _ (.tail _ (.tail _ (.tail _ (.head _))))) | exact .tail _ (.tail _ (.tail _ (.tail _ (.tail _ (.tail _ (.head _)))))) | exact .tail _ (.tail _ (.tail _ (.tail _ (.tail _ (.tail _ (.tail _ (.head _))))))))) _ Try.underlying22 rfl (.int .u64 (now : Nat)) HNW.out ?_)
    | ((with_reducible refine at_store (T := 26) ?_); refine wl_stv rfl b6 rfl _ rfl _ (hv.vars.row (by first | exact .head _ | exact .tail _ (.head _) | exact .tail _ (.tail _ (.head _)) | exact .tail _ (.tail _ (.tail _ (.head _))) | exact .tail _ (.tail _ (.tail _ (.tail _ (.head _)))) | exact .tail _ (.tail _ (.tail _ (.tail _ (.tail _ (.head _))))) | exact .tail _ (.tail _ (.tail _ (.tail _ (.tail _ (.tail _ (.head _)))))) | exact .tail _ (.tail _ (.tail _ (.tail _ (.tail _ (.tail _ (.tail _ (.head _))))))))) (hv.vars.sft (by first | exact .head _ | exact .tail _ (.head _) | exact .tail _ (.tail _ (.head _)) | exact .tail _ (.tail _ (.tail _ (.head _))) | exact .tail _ (.tail _ (.tail _ (.tail _ (.head _)))) | exact .tail _ (.tail _ (.tail _ (.tail _ (.tail _ (.head _))))) | exact .tail _ (.tail _ (.tail _ (.tail _ (.tail _ (.tail _ (.head _)))))) | exact .tail _ (.tail _ (.tail _ (.tail _ (.tail _ (.tail _ (.tail _ (.head _))))))))) 9 infoWh HSZ.out rfl HONE.out ?_; intro w2 hw2; (first | (replace hv := hv.set 0 rfl hw2) | (replace hv := hv.set 1 rfl hw2) | (replace hv := hv.set 2 rfl hw2) | (replace hv := hv.set 3 rfl hw2)); clear hw2; simp only [List.set] at hv))
  try simp only [Exit.inBlock, Exit.then]
  exact ret_cell2 (v := .agg (rowW now sv)) (v1 := .int .i64 2) rfl rfl (read_row _ b6 26 _ (hv.vars.row (b := b6) (by first | exact .head _ | exact .tail _ (.head _) | exact .tail _ (.tail _ (.head _)) | exact .tail _ (.tail _ (.tail _ (.head _))) | exact .tail _ (.tail _ (.tail _ (.tail _ (.head _)))) | exact .tail _ (.tail _ (.tail _ (.tail _ (.tail _ (.head _))))) | exact .tail _ (.tail _ (.tail _ (.tail _ (.tail _ (.tail _ (.head _)))))) | exact .tail _ (.tail _ (.tail _ (.tail _ (.tail _ (.tail _ (.tail _ (.head _))))))))) 9 _ Try.underlying26 rfl infoWh (by decide) HSZ.out) rfl rfl ⟨rfl, hv.below⟩
end Go.Proofs.Ytfblognifnnadaa
