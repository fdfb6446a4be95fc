import Derived.Test.YtjmibgomkgkhnaaGreatQuSort
set_option linter.unusedSimpArgs false
set_option linter.unusedVariables false
set_option maxRecDepth 100000
set_option maxHeartbeats 16000000
section
/-
 Which queues may be: what Check leans on.
-/
namespace Go.Proofs.YtjmibgomkgkhnaaGreat
open Go.Proofs.Qu Go.Proofs.Nm Go.RowKit Go.Proofs
theorem IClone_isnil (a : Option Addr) (l c : Nat) (w : World) : (binOp .eql 22 (.slice a l c) (.slice none 0 0)).run Tryz.prog w = .ok (.bool a.isNone) w := by
 simp [binOp, Sem.run_bind, run_equal_slice_nil w 22 _ a l c Tryz.underlying22]
theorem IClone_M {w0 w : World} {L : List (Nat × Array Value)} {R : List (Nat × Value × List Value)} {ad : Addr} {n cap : Nat} {c : List Value} (hv0 : Mem w0 w L R) (hm : (1, .slice (some ad) n cap, c) ∈ R) (h1 : ∀ x ∈ c, x.oneCell' = true) (hn : n ≤ 1000000) :
   Calls Tryz.prog 70 #[.slice (some ad) n cap] w fun e w' => ∃ b c3 z, e = .returned (.slice (some ⟨b, 0, none⟩) n c3) ∧ AppRow (.slice (some ⟨b, 0, none⟩) n c3) 1 c (b, z) ∧ Mem w0 w' ((b, z) :: L) R := by
 have hv := hv0
 have hl : c.length = n * 1 := by
   obtain ⟨_, _, _, e, g, _⟩ := hv.rd hm
   cases e; exact g
 have HM := Lib.hid hm
 have H1 := Lib.hid h1
 have HA1 : Hid ((([] : List Value).length + c.length) / 1 ≤ maxLen) := Lib.hid (by rw [hl]; simp only [List.length_nil]; unfold maxLen; omega)
 have HA2 : Hid ((([] : List Value).length + c.length) / 1 * 8 ≤ 140737488355328) := Lib.hid (by rw [hl]; simp only [List.length_nil]; omega)
 have HL := Lib.hid hl
 have hnil := IClone_isnil
 clear hl h1 hn hm hv0
 go_enter Tryz.func70, Tryz.ntmps70
 go_wp2_with (first
   | ((with_reducible refine at_append (t := 22) ?_); replace hv := hv.madeAt ⟨rfl, made_alloc _ #[] 3⟩; refine wl_apph rfl rfl hv (Any.AppRow.zero _ 1) (.int .i64 0) 8 Tryz.underlying22 infoIz rfl (by decide) rfl (hv.rd HM.out) H1.out HA1.out HA2.out ?_; intro v3 w3 x3 hrow hv1; replace hv := hv1; clear hv1; rw [List.nil_append] at hrow; obtain ⟨x3b, x3z⟩ := x3; have hq := hrow; obtain ⟨n3, c3, rfl, g3, g4⟩ := hq; replace g3 := Lib.hid g3; clear g4; replace hrow := Lib.hid hrow))
 go_ret
 have hn3 : n3 = n := by have h9 := g3.out; rw [HL.out] at h9; omega
 subst hn3
 exact ⟨x3b, c3, rfl, x3z, hrow.out, hv⟩
theorem IClone_nil (w : World) : Calls Tryz.prog 70 #[.slice none 0 0] w fun e w' => e = .returned (.slice none 0 0) ∧ w = w' := by
 have hnil := IClone_isnil
 go_enter Tryz.func70, Tryz.ntmps70
 go_wp2
 go_ret
 exact ⟨rfl, rfl⟩
theorem Check1_ok (x y : Int) (h : -100000 ≤ x - y ∧ x - y ≤ 100000) (w : World) : Calls Tryz.prog 83 #[.int .i64 x, .int .i64 y] w fun e w' => e = .returned (.int .i64 (x - y)) ∧ New w w' := by
 have hv := Mem.nil w
 have q : IntKind.i64.wrap (x - y) = x - y := IntWalk.i64_in _ (by omega)
 clear h
 go_enter Tryz.func83, Tryz.ntmps83
 go_wp2
 go_ret
 exact ⟨rfl, hv.below⟩
theorem IsSorted_ok (u : Value) (l : List Nat) (hl : l.length ≤ 100) (hs : l.Pairwise (· ≤ ·)) (hm : ∀ x ∈ l, x ≤ 1000) (w : World) (hu : Rd w 1 u (intsI l)) : Calls Tryz.prog 82 #[u, .func (.func 83) #[] #[]] w fun e w' => e = .returned (.bool true) ∧ New w w' := by
 have hv := (Mem.nil w).old hu
 obtain ⟨ua, n, uc, rfl, g1, _⟩ := id hu
 rw [intsI_len, Nat.mul_one] at g1
 have HL := Lib.hid g1
 have HN : Hid (n ≤ 100) := Lib.hid (by omega)
 have HS := Lib.hid hs
 have HMX := Lib.hid hm
 have q1 : IntKind.i64.wrap ((n : Int) - 1) = (n : Int) - 1 := IntWalk.i64_in _ (by omega)
 clear hu g1 hl hs hm
 go_enter Tryz.func82, Tryz.ntmps82
 go_wp2
 go_loopw [5] (fun kv wr => ∃ k : Nat, k ≤ n ∧ kv = .int .i64 ((k : Int) - 1) ∧ Mem w wr [] [(1, .slice ua n uc, intsI l)]) (fun kv _ => (intOf kv + 1).toNat)
 case atStart => exact ⟨n, Nat.le_refl _, rfl, hv⟩
 case round =>
   clear hv
   obtain ⟨k2, hk0, rfl, hv⟩ := hrel
   by_cases hk : 2 ≤ k2
   · obtain ⟨k, rfl⟩ : ∃ k, k2 = k + 2 := ⟨k2 - 2, by omega⟩
     have hk1 : k + 1 < l.length := by rw [HL.out]; omega
     obtain ⟨x, hx⟩ : ∃ x, l[k + 1] = x := ⟨_, rfl⟩
     obtain ⟨y, hy⟩ : ∃ y, l[k] = y := ⟨_, rfl⟩
     have hle : y ≤ x := by rw [← hx, ← hy]; exact List.pairwise_iff_getElem.1 HS.out k (k + 1) (by omega) hk1 (by omega)
     have hx9 := HMX.out x (by rw [← hx]; exact List.getElem_mem _)
     have hy9 := HMX.out y (by rw [← hy]; exact List.getElem_mem _)
     have HX : Hid ((intsI l)[k + 1]? = some (.int .i64 x)) := Lib.hid (by unfold intsI; rw [List.getElem?_map, List.getElem?_eq_getElem hk1, hx]; rfl)
     have HY : Hid ((intsI l)[k]? = some (.int .i64 y)) := Lib.hid (by unfold intsI; rw [List.getElem?_map, List.getElem?_eq_getElem (by omega), hy]; rfl)
     have HCK : Hid (∀ w, Calls Tryz.prog 83 (#[.int .i64 x, .int .i64 y] ++ #[]) w fun e w' => e = .returned (.int .i64 ((x : Int) - (y : Int))) ∧ New w w') := Lib.hid (fun w => Check1_ok x y (by omega) w)
     obtain ⟨b, o, _, _, e, hq⟩ := (hv.rd Mem.z).some (by rw [intsI_len]; omega)
     clear hq
     cases e
     have HPA := Lib.hid (Any.rd_start hv Mem.z)
     have hkn : (k : Int) + 2 ≤ (n : Int) := by omega
     have hnb : (n : Int) ≤ 100 := by have := HN.out; omega
     have y0 : (0 : Int) < ((k + 2 : Nat) : Int) - 1 := by omega
     have e1 : ((k + 2 : Nat) : Int) - 1 = ((k + 1 : Nat) : Int) := by omega
     have e2 : ((k + 1 : Nat) : Int) - 1 = (k : Int) := by omega
     have q2 : IntKind.i64.wrap (((k + 1 : Nat) : Int) - 1) = (k : Int) := by rw [IntWalk.i64_in _ (by omega)]; omega
     have y2 : decide ((x : Int) - (y : Int) < 0) = false := decide_eq_false (by omega)
     have y3 : ¬ ((x : Int) - (y : Int) < 0) := by omega
     rw [e1]
     clear hx hy hk hk1 hle hx9 hy9 e1
     go_wp2
     refine Any.wp_region_walk [⟨[], none⟩, ⟨[], none⟩, ⟨[], none⟩, ⟨[], none⟩, ⟨[], none⟩, ⟨[], none⟩, ⟨[], none⟩, ⟨[], none⟩, ⟨[], none⟩, ⟨[], none⟩, ⟨[], none⟩, ⟨[], none⟩] [.val, .val, .val, .val, .val, .val, .val, .val, .val, .val, .val, .val] (by kernel_rfl) (by kernel_rfl) hv.vars ?_
     simp only [List.length_cons, List.length_nil, Nat.zero_add, Any.someVals]
     iterate 12 apply Exists.intro
     repeat (first
       | (refine Any.E_off rfl ?_; simp only [Act.put, sia, scs, scz])
       | (apply Any.E_pureq rfl rfl rfl
          case h => intro K hK; go_big_quiet_op; (refine hK _ ?_; rfl)
          case hr => exact fun _ => rfl
          simp only [Act.put, sia, scs, scz])
       | (apply Any.E_val rfl rfl rfl rfl
          case h =>
            intro E' hA K hK
            first
              | ((with_reducible refine Any.at_qload (T := 3) ?_); refine Any.q_rd HPA.out (k + 1) rfl _ Tryz.underlying3 rfl (.int .i64 x) HX.out ?_; refine hK _ ?_; rfl)
              | ((with_reducible refine Any.at_qload (T := 3) ?_); refine Any.q_rd HPA.out (k) rfl _ Tryz.underlying3 rfl (.int .i64 y) HY.out ?_; refine hK _ ?_; rfl)
              | ((with_reducible refine Any.at_qcall ?_); refine Any.q_callv (Go.Proofs.enters_of Tryz.func83 (by kernel_rfl) rfl) rfl [.int .i64 x, .int .i64 y] rfl (fun w1 hw1 => Any.calls_VE (HCK.out w1) hw1) ?_; refine hK _ ?_; rfl)
              | (go_big_quiet_op; first
                | (refine hK _ ?_; rfl)
                | (refine ⟨_, fun _ _ => rfl, ?_⟩; refine hK _ ?_; rfl)
                | (apply Exists.intro; refine ⟨fun w1 hw1 => ?_, ?_⟩; · (first
                    | fail)
                   refine hK _ ?_; rfl))
          case hD => rfl
          simp only [Act.put, sia, scs, scz])
       | ((with_reducible refine Any.at_ealloc ?_); refine Any.E_lay rfl rfl rfl (fun _ => rfl) ?_; intro B; simp only [Act.put, sia, scs, scz]))
     try any_goals exact undef
     refine Any.E_nil ?_
     intro w9 hE9
     replace hv : Mem w w9 [] _ := hE9.mem hv [] (by decide)
     clear hE9
     go_wp2
     go_roundw
     case rel => exact ⟨k + 1, by omega, by go_num, hv⟩
     case measure => simp [intOf]; omega
   · have y0 : ¬ (0 : Int) < (k2 : Int) - 1 := by omega
     clear hk
     go_wp2
     go_ret
     exact ⟨rfl, hv.below⟩
theorem chained_w (h rm db do_ dn dc : Nat) (ds : List Nat) (h0 : ds[0]? = some h) (hrm : rm ≤ 2147483647) (w : World) (hr : Rd w 1 (.slice (some ⟨db, do_, none⟩) dn dc) (intsI ds)) : Calls Tryz.prog 84 #[.agg #[.int .i64 h, .slice (some ⟨db, do_, none⟩) dn dc, .int .i64 rm]] w fun e w' => e = .returned (.bool true) ∧ New w w' := by
 have hv := (Mem.nil w).old hr
 have hdn : ds.length = dn := by
   obtain ⟨_, _, _, e, g, _⟩ := hr
   cases e
   rw [intsI_len] at g; omega
 have hd0 : 0 < dn := by rw [← hdn]; exact (List.getElem?_eq_some_iff.1 h0).1
 have HX : Hid ((intsI ds)[0]? = some (.int .i64 h)) := Lib.hid (by unfold intsI; rw [List.getElem?_map, h0]; rfl)
 have y1 : decide ((0 : Int) < (dn : Int)) = true := decide_eq_true (by omega)
 have z1 : decide (0 < dn) = true := decide_eq_true hd0
 have x1 : (0 : Int) < (dn : Int) := by omega
 have y2 : ((h : Int) == (h : Int)) = true := by simp
 have y3 : decide ((0 : Int) ≤ (rm : Int)) = true := decide_eq_true (by omega)
 have y4 : decide ((rm : Int) ≤ 2147483647) = true := decide_eq_true (by omega)
 have z4 : decide (rm ≤ 2147483647) = true := decide_eq_true hrm
 clear hr hdn h0 hrm
 go_enter Tryz.func84, Tryz.ntmps84
 go_wp2_with (first
   | ((with_reducible refine at_box (T := 124) (dst := some 1) ?_); refine wl_newb rfl #[.int .i64 h, .slice (some ⟨db, do_, none⟩) dn dc, .int .i64 rm] 124 (fun _ => rfl) ?_; intro b1 w2 hm2; replace hv := hv.madeAt hm2; clear hm2))
 have HPD := Lib.hid (Any.rd_start hv Mem.z)
 refine Any.wp_region_walk [⟨[], none⟩, ⟨[1000], none⟩, ⟨[], none⟩, ⟨[], none⟩, ⟨[], none⟩, ⟨[], none⟩, ⟨[1000], none⟩, ⟨[], none⟩, ⟨[1000], none⟩, ⟨[], none⟩, ⟨[], none⟩, ⟨[], none⟩, ⟨[], none⟩, ⟨[], none⟩, ⟨[], none⟩, ⟨[1000], none⟩, ⟨[], none⟩, ⟨[], none⟩, ⟨[], none⟩, ⟨[], none⟩, ⟨[1000], none⟩, ⟨[], none⟩, ⟨[], none⟩, ⟨[], none⟩] [.val, .val, .val, .val, .val, .val, .val, .val, .val, .val, .val, .val, .val, .val, .val, .val, .val, .val, .val, .val, .val, .val, .val, .val] (by kernel_rfl) (by kernel_rfl) hv.vars ?_
 simp only [List.length_cons, List.length_nil, Nat.zero_add, Any.someVals]
 iterate 24 apply Exists.intro
 repeat (first
   | (refine Any.E_off rfl ?_; simp only [Act.put, sia, scs, scz])
   | (apply Any.E_pureq rfl rfl rfl
      case h => intro K hK; go_big_quiet_op; (refine hK _ ?_; rfl)
      case hr => exact fun _ => rfl
      simp only [Act.put, sia, scs, scz])
   | (apply Any.E_val rfl rfl rfl rfl
      case h =>
        intro E' hA K hK
        first
          | ((with_reducible refine Any.at_qload (T := 22) ?_); refine Any.q_ldc 1000 hA (by decide) rfl rfl _ Tryz.underlying22 rfl (.slice (some ⟨db, do_, none⟩) dn dc) rfl ?_; refine hK _ ?_; rfl)
          | ((with_reducible refine Any.at_qload (T := 3) ?_); refine Any.q_rd HPD.out (0) rfl _ Tryz.underlying3 rfl (.int .i64 h) HX.out ?_; refine hK _ ?_; rfl)
          | ((with_reducible refine Any.at_qload (T := 3) ?_); refine Any.q_ldc 1000 hA (by decide) rfl rfl _ Tryz.underlying3 rfl (.int .i64 h) rfl ?_; refine hK _ ?_; rfl)
          | ((with_reducible refine Any.at_qload (T := 3) ?_); refine Any.q_ldc 1000 hA (by decide) rfl rfl _ Tryz.underlying3 rfl (.int .i64 rm) rfl ?_; refine hK _ ?_; rfl)
          | (go_big_quiet_op; first
            | (refine hK _ ?_; rfl)
            | (refine ⟨_, fun _ _ => rfl, ?_⟩; refine hK _ ?_; rfl)
            | (apply Exists.intro; refine ⟨fun w1 hw1 => ?_, ?_⟩; · (first
                | fail)
               refine hK _ ?_; rfl))
      case hD => rfl
      simp only [Act.put, sia, scs, scz])
   | ((with_reducible refine Any.at_ealloc ?_); refine Any.E_lay rfl rfl rfl (fun _ => rfl) ?_; intro B; simp only [Act.put, sia, scs, scz]))
 try any_goals exact undef
 refine Any.E_nil ?_
 intro w9 hE9
 replace hv : Mem w w9 [(b1, #[.int .i64 h, .slice (some ⟨db, do_, none⟩) dn dc, .int .i64 rm])] _ := hE9.mem hv [1000] (by decide)
 clear hE9
 go_wp2
 go_ret
 exact ⟨rfl, hv.below⟩
end Go.Proofs.YtjmibgomkgkhnaaGreat
end

section
/-
 A queue in memory; one that may be: Check.
-/
namespace Go.Proofs.Qu
open Go Go.RowKit Go.Proofs.Nm
structure Chn where
 h : Nat
 db : Nat
 d0 : Nat
 dn : Nat
 dc : Nat
 rm : Nat
 ds : List Nat
def Chn.v (c : Chn) : Value := .slice (some ⟨c.db, c.d0, none⟩) c.dn c.dc
def encC (c : Chn) : List Value := [.int .i64 (c.h : Nat), .slice (some ⟨c.db, c.d0, none⟩) c.dn c.dc, .int .i64 (c.rm : Nat)]
def cellsC (l : List Chn) : List Value := l.flatMap encC
theorem cellsC_len (l : List Chn) : (cellsC l).length = l.length * 3 := len_flat (en := encC) (fun _ => rfl) l
structure InQ (R : List (Nat × Value × List Value)) (fv cv : Value) (free : List Nat) (chs : List Chn) : Prop where
 fr : (1, fv, intsI free) ∈ R
 ch : (3, cv, cellsC chs) ∈ R
 ds : ∀ c ∈ chs, (1, Value.slice (some ⟨c.db, c.d0, none⟩) c.dn c.dc, intsI c.ds) ∈ R
theorem InQ.mono {R R' : List (Nat × Value × List Value)} {fv cv : Value} {free : List Nat} {chs : List Chn} (h : InQ R fv cv free chs) (hs : ∀ x ∈ R, x ∈ R') : InQ R' fv cv free chs := ⟨hs _ h.fr, hs _ h.ch, fun c hc => hs _ (h.ds c hc)⟩
structure OkQ (n : Nat) (free : List Nat) (chs : List Chn) : Prop where
 sz : okN n
 so : free.Pairwise (· ≤ ·)
 hd : ∀ c ∈ chs, c.ds[0]? = some c.h ∧ c.rm ≤ 2147483647
 all : (free ++ chs.flatMap (·.ds)).Perm (List.range n)
theorem sorted_eq : ∀ {l m : List Nat}, l.Pairwise (· ≤ ·) → m.Pairwise (· ≤ ·) → l.Perm m → l = m := by
 intro l
 induction l with
 | nil => intro m _ _ h; exact (List.nil_perm.1 h).symm ▸ rfl
 | cons x r ih =>
   intro m hl hm h
   cases m with
   | nil => exact absurd h.length_eq (by simp)
   | cons y s =>
     obtain ⟨a1, a2⟩ := List.pairwise_cons.1 hl
     obtain ⟨b1, b2⟩ := List.pairwise_cons.1 hm
     have e : x = y := by
       have h1 : x ≤ y := by
         rcases List.mem_cons.1 (h.mem_iff.2 (List.mem_cons_self (a := y) (l := s))) with e | e
         · omega
         · exact a1 y e
       have h2 : y ≤ x := by
         rcases List.mem_cons.1 (h.mem_iff.1 (List.mem_cons_self (a := x) (l := r))) with e | e
         · omega
         · exact b1 x e
       omega
     subst e
     rw [ih a2 b2 (List.Perm.cons_inv h)]
theorem OkQ.le {n : Nat} {free : List Nat} {chs : List Chn} (h : OkQ n free chs) : ∀ x ∈ free ++ chs.flatMap (·.ds), x < n := fun x hx => List.mem_range.1 (h.all.mem_iff.1 hx)
theorem OkQ.len {n : Nat} {free : List Nat} {chs : List Chn} (h : OkQ n free chs) : free.length + (chs.flatMap (·.ds)).length = n := by
 have := h.all.length_eq
 rw [List.length_append, List.length_range] at this
 exact this
end Go.Proofs.Qu
namespace Go.Proofs.YtjmibgomkgkhnaaGreat
open Go.Proofs.Qu Go.Proofs.Nm Go.RowKit Go.Proofs
theorem infoC3 : (Tryz.prog.info? 124).map (·.size) = some 3 := by kernel_rfl
theorem IClone_O {w0 w : World} {L : List (Nat × Array Value)} {R : List (Nat × Value × List Value)} {v : Value} {l : List Nat} (hv : Mem w0 w L R) (hm : (1, v, intsI l) ∈ R) (hl : l.length ≤ 1000) :
   Calls Tryz.prog 70 #[v] w fun e w' => ∃ a n c, e = .returned (.slice a n c) ∧ ∃ O, OwnL 1 (.slice a n c) (intsI l) O ∧ Mem w0 w' (O ++ L) R := by
 obtain ⟨a, n, c, rfl, g1, _, _, g4, _⟩ := id (hv.rd hm)
 rw [intsI_len, Nat.mul_one] at g1
 cases a with
 | none =>
   obtain ⟨rfl, rfl⟩ := g4 rfl
   obtain rfl : l = [] := List.length_eq_zero_iff.1 g1
   refine (IClone_nil w).mono ?_
   rintro e w' ⟨rfl, rfl⟩
   exact ⟨none, 0, 0, rfl, [], OwnL.nil 1, hv⟩
 | some ad =>
   refine (IClone_M hv hm (intsI_one _) (by omega)).mono ?_
   rintro e w' ⟨b, c3, z, rfl, hrow, hv1⟩
   exact ⟨some ⟨b, 0, none⟩, n, c3, rfl, [(b, z)], OwnL.row hrow, hv1⟩
end Go.Proofs.YtjmibgomkgkhnaaGreat
end

section
/-
 Check says yes to a queue that may be.
-/
namespace Go.Proofs.Qu
open Go Go.RowKit Go.Proofs.Nm
theorem mem2o {w0 w : World} {a b : Nat × Array Value} {O : List (Nat × Array Value)} {R : List (Nat × Value × List Value)} (h : Mem w0 w (a :: b :: O) R) : Mem w0 w ([a, b] ++ O ++ []) R := by simpa using h
theorem mem2o' {w0 w : World} {a b : Nat × Array Value} {O : List (Nat × Array Value)} {R : List (Nat × Value × List Value)} (h : Mem w0 w ([a, b] ++ O ++ []) R) : Mem w0 w (a :: b :: O) R := by simpa using h
theorem ptr0 {v : Value} {b i : Nat} (h : v = .pointer (some ⟨b, i, none⟩)) : v = .pointer (some ⟨b, 0 + i, none⟩) := by rw [h, Nat.zero_add]
theorem chs_len : ∀ {chs : List Chn}, (∀ c ∈ chs, c.ds[0]? = some c.h) → chs.length ≤ (chs.flatMap (·.ds)).length := by
 intro chs
 induction chs with
 | nil => intro _; exact Nat.le_refl _
 | cons c r ih =>
   intro h
   have h1 := (List.getElem?_eq_some_iff.1 (h c (List.mem_cons_self ..))).1
   have h2 := ih fun x hx => h x (List.mem_cons_of_mem _ hx)
   rw [List.flatMap_cons, List.length_append, List.length_cons]
   omega
def allD (free : List Nat) (chs : List Chn) (k : Nat) : List Nat := free ++ (chs.take k).flatMap (·.ds)
end Go.Proofs.Qu
namespace Go.Proofs.YtjmibgomkgkhnaaGreat
open Go.Proofs.Qu Go.Proofs.Nm Go.RowKit Go.Proofs
theorem QCheck_ok {w0 w : World} {L : List (Nat × Array Value)} {R : List (Nat × Value × List Value)} {base n av la : Nat} {fv cv : Value} {free : List Nat} {chs : List Chn} (hv0 : Mem w0 w L R) (hq : InQ R fv cv free chs) (hok : OkQ n free chs) :
   Calls Tryz.prog 50 #[.agg #[.int .i64 base, .int .i64 n, fv, .int .u16 av, .int .u16 la, cv]] w fun e w' => e = .returned (.bool true) ∧ New w w' := by
 have hv : Mem w w [] R := ⟨Vars.nil w, fun x hx => ⟨(hv0.rds x hx).1, fun _ _ _ _ _ _ p hp => (List.not_mem_nil hp).elim⟩⟩
 obtain ⟨fa, fn, fc, rfl, gf, _⟩ := id (hv.rd hq.fr)
 obtain ⟨ca, cn, cc, rfl, gc, _⟩ := id (hv.rd hq.ch)
 rw [intsI_len, Nat.mul_one] at gf
 rw [cellsC_len] at gc
 have hle := hok.sz.le
 have hlen := hok.len
 have hlt := hok.le
 have HQ := Lib.hid hq
 have HOK := Lib.hid hok
 have HCN : Hid (chs.length = cn) := Lib.hid (by omega)
 have HF1 : Hid (free.length ≤ 100) := Lib.hid (by omega)
 have HF2 := Lib.hid hok.so
 have HF3 : Hid (∀ x ∈ free, x ≤ 1000) := Lib.hid (fun x hx => by have := hlt x (List.mem_append_left _ hx); omega)
 have HF4 : Hid (free.length ≤ 1000) := Lib.hid (by omega)
 obtain ⟨sz, hs⟩ : ∃ sz, sizeN n = sz := ⟨_, rfl⟩
 have HSI : Hid (∀ w, Calls Tryz.prog 54 #[.int .i64 n] w fun e w' => e = .returned (.int .i64 sz) ∧ New w w') := Lib.hid (fun w => by have := Size_ok n hok.sz w; rw [hs] at this; exact this)
 have y1 : ((sz : Int) == 0) = false := by rw [beq_eq_false_iff_ne]; rw [← hs]; unfold sizeN backN; omega
 have y2 : decide ((base : Int) < 0) = false := decide_eq_false (by omega)
 clear hv0 hq hok gf gc hle hlen hlt hs
 go_enter Tryz.func50, Tryz.ntmps50
 go_wp2_with (first
   | ((with_reducible refine at_box (T := 30) (dst := some 1) ?_); refine wl_newb rfl #[.int .i64 base, .int .i64 n, .slice fa fn fc, .int .u16 av, .int .u16 la, .slice ca cn cc] 30 (fun _ => rfl) ?_; intro b1 w2 hm2; replace hv := hv.madeAt hm2; clear hm2)
   | ((with_reducible refine at_load (T := 3) ?_); refine wl_ldc rfl b1 1 rfl _ hv.vars.ro _ Tryz.underlying3 rfl (.int .i64 n) rfl ?_)
   | ((with_reducible refine at_load (T := 3) ?_); refine wl_ldc rfl b1 0 rfl _ hv.vars.ro _ Tryz.underlying3 rfl (.int .i64 base) rfl ?_)
   | ((with_reducible refine at_load (T := 22) ?_); refine wl_ldc rfl b1 2 rfl _ hv.vars.ro _ Tryz.underlying22 rfl (.slice fa fn fc) rfl ?_)
   | ((with_reducible refine at_load (T := 28) ?_); refine wl_ldc rfl b1 5 rfl _ hv.vars.ro _ Tryz.underlying28 rfl (.slice ca cn cc) rfl ?_)
   | (go_at_call 54; (with_reducible refine (HSI.out _).mono ?_); rintro e w1 ⟨rfl, hn1⟩; replace hv := hv.new hn1; clear hn1)
   | (go_at_call 82; (with_reducible refine (IsSorted_ok _ free HF1.out HF2.out HF3.out _ (hv.rd HQ.out.fr)).mono ?_); rintro e w1 ⟨rfl, hn1⟩; replace hv := hv.new hn1; clear hn1)
   | (go_at_call 70; (with_reducible refine (IClone_O hv HQ.out.fr HF4.out).mono ?_); rintro e w1 ⟨oa, on, oc, rfl, O, hO, hv1⟩; replace hv := hv1.perm List.perm_append_comm; clear hv1; replace hO := Lib.hid hO; simp only [List.cons_append, List.nil_append] at hv))
 go_loopw [3, 29] (fun ov kv wr => ∃ (k : Nat) (O : List (Nat × Array Value)), k ≤ cn ∧ kv = .int .i64 k ∧ Mem w wr ((b1, #[.int .i64 base, .int .i64 n, .slice fa fn fc, .int .u16 av, .int .u16 la, .slice ca cn cc]) :: O) R ∧ Hid (OwnL 1 ov (intsI (allD free chs k)) O)) (fun _ kv _ => cn - (intOf kv).toNat)
 case atStart => exact ⟨0, O, Nat.zero_le _, rfl, hv, Lib.hid (by unfold allD; rw [List.take_zero, List.flatMap_nil, List.append_nil]; exact hO.out)⟩
 case round =>
   clear hv hO
   obtain ⟨k, O, hk0, rfl, hv, HO⟩ := hrel
   obtain ⟨oa, on, oc, rfl, hq⟩ := id HO.out.slice
   clear hq
   by_cases hk : k < cn
   · have hki : (k : Int) < (cn : Int) := by omega
     have hkl : k < chs.length := by rw [HCN.out]; exact hk
     obtain ⟨⟨c_h, c_b, c_0, c_n, c_c, c_r, c_ds⟩, hc⟩ : ∃ c, chs[k] = c := ⟨_, rfl⟩
     have hmem : (⟨c_h, c_b, c_0, c_n, c_c, c_r, c_ds⟩ : Chn) ∈ chs := by rw [← hc]; exact List.getElem_mem _
     have HKC : Hid (((cellsC chs).drop (k * 3)).take 3 = [.int .i64 c_h, .slice (some ⟨c_b, c_0, none⟩) c_n c_c, .int .i64 c_r]) := Lib.hid (by
       have := part_flat (k := 3) (en := encC) (fun _ => rfl) chs k hkl
       rw [hc] at this; exact this)
     have HD := Lib.hid (HQ.out.ds _ hmem)
     have HH0 := Lib.hid (HOK.out.hd _ hmem).1
     have HRM := Lib.hid (HOK.out.hd _ hmem).2
     have HNE : Hid (intsI (allD free chs (k + 1)) = intsI (allD free chs k) ++ intsI c_ds) := Lib.hid (by
       unfold allD
       rw [List.take_succ_eq_append_getElem hkl, hc, List.flatMap_append, ← List.append_assoc]
       unfold intsI
       rw [List.map_append]
       simp)
     have hsub : (allD free chs (k + 1)).length ≤ 16 := by
       have h1 := HOK.out.len
       have h2 := HOK.out.sz.le
       have h3 : ((chs.take (k + 1)).flatMap (·.ds)).length ≤ (chs.flatMap (·.ds)).length := by
         conv => rhs; rw [← List.take_append_drop (k + 1) chs, List.flatMap_append, List.length_append]
         omega
       unfold allD
       rw [List.length_append]; omega
     have hcat : (intsI (allD free chs k)).length + (intsI c_ds).length ≤ 16 := by
       have := congrArg List.length HNE.out
       rw [List.length_append, intsI_len] at this
       omega
     have HP1 : Hid (((intsI (allD free chs k)).length + (intsI c_ds).length) / 1 ≤ maxLen) := Lib.hid (by rw [Nat.div_one]; unfold maxLen; omega)
     have HP2 : Hid (((intsI (allD free chs k)).length + (intsI c_ds).length) / 1 * 8 ≤ 140737488355328) := Lib.hid (by rw [Nat.div_one]; omega)
     obtain ⟨xb, xo, _, _, e, hq⟩ := (hv.rd HQ.out.ch).some (by rw [cellsC_len]; omega)
     clear hq
     cases e
     have HKN := Lib.hid hk
     have hkb : (k : Int) ≤ 10000 := by
       have h1 := HOK.out.len
       have h2 := HOK.out.sz.le
       have h3 := chs_len (fun c hc => (HOK.out.hd c hc).1)
       omega
     clear hkl hc hmem hsub hcat hk0 hk
     go_wp2_with (first
       | ((with_reducible refine at_load (T := 124) ?_); refine wl_rdv rfl (hv.rd HQ.out.ch) (k * 3) rfl 3 _ Tryz.underlying124 rfl infoC3 (by decide) #[.int .i64 c_h, .slice (some ⟨c_b, c_0, none⟩) c_n c_c, .int .i64 c_r] HKC.out rfl ?_)
       | ((with_reducible refine at_alloc (T := 124) (dst := some 5) ?_); refine wl_newb rfl #[.int .i64 0, .slice none 0 0, .int .i64 0] 124 (fun _ => rfl) ?_; intro b5 w2 hm2; replace hv := hv.madeAt hm2; clear hm2)
       | ((with_reducible refine at_store (T := 124) ?_); refine wl_stv rfl b5 rfl _ rfl _ hv.vars.ro hv.vars.so 3 infoC3 rfl rfl (by simp [Value.oneCell']) ?_; intro w2 hw2; replace hv := hv.sets (by repeat first | exact .z | apply SetM.s) hw2; clear hw2)
       | ((with_reducible refine at_load (T := 124) ?_); refine wl_ldv rfl b5 rfl _ hv.vars.ro 3 _ Tryz.underlying124 rfl infoC3 (by decide) rfl ?_)
       | (go_at_call 84; (with_reducible refine (chained_w c_h c_r c_b c_0 c_n c_c c_ds HH0.out HRM.out _ (hv.rd HD.out)).mono ?_); rintro e w1 ⟨rfl, hn1⟩; replace hv := hv.new hn1; clear hn1)
       | ((with_reducible refine at_load (T := 22) ?_); refine wl_ldc rfl b5 1 rfl _ hv.vars.ro _ Tryz.underlying22 rfl (.slice (some ⟨c_b, c_0, none⟩) c_n c_c) rfl ?_)
       | ((with_reducible refine at_append (t := 22) ?_); have hvA := mem2o hv; refine wl_appO (A := [_, _]) (B := []) rfl rfl HO.out hvA (.int .i64 0) 8 Tryz.underlying22 infoIz rfl (by decide) rfl (hv.rd HD.out) (intsI_one _) HP1.out HP2.out ?_; intro v2 w7 O2 hO2 hv1; replace hv := mem2o' hv1; clear hvA hv1; rw [← HNE.out] at hO2; have hq2 := hO2.slice; obtain ⟨ua, un, uc, rfl, hq3⟩ := hq2; clear hq3; replace hO2 := Lib.hid hO2))
     have hkn := HKN.out
     go_roundw
     case rel => exact ⟨k + 1, O2, by omega, by go_num, hv.drop, hO2⟩
     case measure => simp [intOf]; omega
   · have hki : ¬ (k : Int) < (cn : Int) := by omega
     have hal : allD free chs k = free ++ chs.flatMap (·.ds) := by unfold allD; rw [List.take_of_length_le (by rw [HCN.out]; omega)]
     have hln : (allD free chs k).length = n := by rw [hal, List.length_append]; exact HOK.out.len
     have h2 := HOK.out.sz.le
     rcases HO.out with ⟨_, e2, _⟩ | ⟨⟨xb, xz⟩, hrow, e3⟩
     · have := congrArg List.length e2
       rw [intsI_len, hln] at this
       simp at this
       omega
     · subst e3
       have hq := hrow
       obtain ⟨n9, c9, e9, g9, _⟩ := hq
       cases e9
       rw [intsI_len, hln, Nat.mul_one] at g9
       obtain rfl := g9
       have HROW := Lib.hid hrow
       have HLL : Hid ((allD free chs k).length ≤ 100000) := Lib.hid (by omega)
       have HPA : Hid ((allD free chs k).Perm (List.range n)) := Lib.hid (by rw [hal]; exact HOK.out.all)
       have hnb : (n : Int) ≤ 16 := by omega
       clear hrow hal hln h2 hk hk0
       go_wp2_with (first
         | (go_at_call 85; (with_reducible refine (SortI_M (hv.perm (List.Perm.swap _ _ _)) HROW.out HLL.out).mono ?_); rintro e w1 ⟨rfl, l9, z9, hp9, hs9, hr9, hv1⟩; have hv2 := Mem.yield (L1 := []) hv1 hr9; replace hv := hv2; clear hv1 hv2 hr9; simp only [List.nil_append] at hv))
       obtain rfl : l9 = List.range n := sorted_eq hs9 (by
         have := List.pairwise_lt_range (n := n)
         exact this.imp fun h => Nat.le_of_lt h) (hp9.trans HPA.out)
       clear hp9 hs9
       go_loopw [45] (fun kv wr => ∃ i : Nat, i ≤ n ∧ kv = .int .i64 i ∧ Mem w wr [(b1, #[.int .i64 base, .int .i64 n, .slice fa fn fc, .int .u16 av, .int .u16 la, .slice ca cn cc])] ((1, .slice (some ⟨xb, 0, none⟩) n oc, intsI (List.range n)) :: R)) (fun kv _ => n - (intOf kv).toNat)
       case atStart => exact ⟨0, Nat.zero_le _, rfl, hv⟩
       case round =>
         clear hv
         obtain ⟨i, hi0, rfl, hv⟩ := hrel
         by_cases hi : i < n
         · have hii : (i : Int) < (n : Int) := by omega
           have HX : Hid ((intsI (List.range n))[i]? = some (.int .i64 i)) := Lib.hid (by unfold intsI; rw [List.getElem?_map, List.getElem?_range hi]; rfl)
           have yi : ((i : Int) != (i : Int)) = false := by simp
           have HIN := Lib.hid hi
           clear hi0 hi
           go_wp2_with (first
             | ((with_reducible refine at_load (T := 3) ?_); refine wl_rd rfl (c := intsI (List.range n)) (hv.rd Mem.z) i (ptr0 rfl) _ Tryz.underlying3 rfl (.int .i64 i) HX.out ?_))
           have hin := HIN.out
           go_roundw
           case rel => exact ⟨i + 1, by omega, by go_num, hv⟩
           case measure => simp [intOf]; omega
         · have hii : ¬ (i : Int) < (n : Int) := by omega
           have yn : ((n : Int) == (n : Int)) = true := by simp
           clear hi hi0
           go_wp2_with (first
             | ((with_reducible refine at_load (T := 3) ?_); refine wl_ldc rfl b1 1 rfl _ hv.vars.ro _ Tryz.underlying3 rfl (.int .i64 n) rfl ?_))
           go_ret
           exact ⟨rfl, hv.below⟩
end Go.Proofs.YtjmibgomkgkhnaaGreat
end
