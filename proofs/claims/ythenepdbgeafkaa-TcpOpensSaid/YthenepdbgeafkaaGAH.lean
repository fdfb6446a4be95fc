import Derived.Test.YthenepdbgeafkaaAnyA
import Derived.Test.YthenepdbgeafkaaGAG
import Derived.Laws.Tables
import Derived.Shelf.Abstract
set_option linter.unusedSimpArgs false
set_option linter.unusedVariables false
section
/-
 More rules: a box and a build in a region that draws its order; a call of a function value. No program in sight.
-/
namespace Go
open Go.Proofs (Enters enters_of)
section
variable {P : Program} {ops : Array Oper} {rest : List Oper} {a : Act} {w : World} {Q : Exit → Act → World → Prop}
variable {dst : Option Tmp} {ty : TypeId} {pos : String} {after : Array Edge} {g : Option (Nat × Bool)} {x : Operand} {xs : Array Operand} {ts : Array TypeId}
theorem run_callv {f : FuncId} {cap : Array Value} (hf : Enters P f) (hx : a.eval x = .func (.func f) #[] cap) (vs : List Value) (hv : xs.toList.map a.eval = vs) (w : World) :
   (execOp a.eval (⟨dst, .call { callee := .value x, args := xs, argTypes := ts }, ty, pos, after, g⟩ : Oper)).run P w = .ok (.enter f (vs.toArray ++ cap)) w := by
 have e : xs.map a.eval = vs.toArray := by
   apply Array.toList_inj.1
   rw [Array.toList_map, hv]
 unfold execOp
 simp only [resolve, hx, Deferred.ofValue, Sem.run_bind, Sem.run_pure, Result.andThen_ok, invoke]
 have := hf (vs.toArray ++ cap) w
 rw [e]
 have e2 : (#[] : Array Value) ++ vs.toArray = vs.toArray := by simp
 rw [e2]
 exact this
theorem at_call (h : wpList P ops Q (⟨dst, .call { callee := .value x, args := xs, argTypes := ts }, ty, pos, after, g⟩ :: rest) a w) : wpList P ops Q (⟨dst, .call { callee := .value x, args := xs, argTypes := ts }, ty, pos, after, g⟩ :: rest) a w := h
theorem wl_callv {f : FuncId} {cap : Array Value} {R : Ending → World → Prop} (hgd : Region.wanted (⟨dst, .call { callee := .value x, args := xs, argTypes := ts }, ty, pos, after, g⟩ : Oper) (yielded ops a.tmps) = true)
   (hf : Enters P f) (hx : a.eval x = .func (.func f) #[] cap) (vs : List Value) (hv : xs.toList.map a.eval = vs) (hc : Calls P f (vs.toArray ++ cap) w R)
   (h : ∀ e w', R e w' → ∃ v, e = .returned v ∧ wpList P ops Q rest (a.put dst v) w') : wpList P ops Q (⟨dst, .call { callee := .value x, args := xs, argTypes := ts }, ty, pos, after, g⟩ :: rest) a w := by
 refine wpList_want hgd fun K hK => ?_
 refine Any.wp_of_res (R := fun v w' => wpList P ops Q rest (a.put dst v) w') ?_ (fun v w' h => hK _ _ h)
 unfold Any.res
 rw [run_callv hf hx vs hv w]
 exact hc.mono fun e w' hr => by
   obtain ⟨v, h1, h2⟩ := h e w' hr
   exact ⟨v, h1, h2⟩
end
/-! A function value held against nil. -/
section
variable {P : Program} (w : World) (t : TypeId) (ps rs : Array TypeId) (v : Bool) (f : Fn) (a b : Array Value) (h : P.underlying t = some (.func ps rs v))
include h
end
namespace Any
section
variable {P : Program} {ops : Array Oper} {β : Base} {S : Nat → Stat} {D : Nat → Kind} {Q : Act → Env → Prop} {k : Nat} {rest : List Oper} {a : Act} {E : Env}
variable {dst : Option Tmp} {ty : TypeId} {pos : String} {after : Array Edge} {g : Option (Nat × Bool)} {x : Operand} {xs : Array Operand} {ts : Array TypeId}
theorem at_ecall (h : wpE P ops β S D Q k (⟨dst, .call { callee := .value x, args := xs, argTypes := ts }, ty, pos, after, g⟩ :: rest) a E) : wpE P ops β S D Q k (⟨dst, .call { callee := .value x, args := xs, argTypes := ts }, ty, pos, after, g⟩ :: rest) a E := h
end
end Any
namespace Any
open Go.RowKit
section
variable {P : Program} {ops : Array Oper} {β : Base} {S : Nat → Stat} {D : Nat → Kind} {Q : Act → Env → Prop} {k : Nat} {rest : List Oper} {a : Act} {E : Env}
variable {dst : Option Tmp} {ty T : TypeId} {pos : String} {after : Array Edge} {g : Option (Nat × Bool)} {x y : Operand}
theorem at_qbuild {C : World → Prop} {K : Act → Prop} {ps : Array (Nat × Operand)} (h : Oper.quiet P ⟨dst, .build T ps, ty, pos, after, g⟩ a C K) : Oper.quiet P ⟨dst, .build T ps, ty, pos, after, g⟩ a C K := h
theorem q_build {C : World → Prop} {K : Act → Prop} {ps : Array (Nat × Operand)} (vs : List (Nat × Value)) (hp : ps.toList.map (fun p => (p.1, a.eval p.2)) = vs) {cells : Array Value} (h : P.built T vs = some cells) (hk : K (a.put dst (.agg cells))) : Oper.quiet P ⟨dst, .build T ps, ty, pos, after, g⟩ a C K := by
 refine ⟨_, fun w hw => ?_, hk⟩
 have h' := run_build (P := P) w T (ps.map fun (i, x) => (i, a.eval x)) cells (by rw [Array.toList_map, ← h, ← hp])
 unfold Oper.quietAt execOp
 simp only [Sem.run_bind, h', Result.andThen_ok, Sem.run_pure]
 exact ⟨rfl, rfl⟩
end
end Any
section
open Go.RowKit
variable {P : Program} {ops : Array Oper} {rest : List Oper} {a : Act} {w : World} {Q : Exit → Act → World → Prop}
variable {dst : Option Tmp} {ty T : TypeId} {pos : String} {after : Array Edge} {g : Option (Nat × Bool)}
theorem at_build {ps : Array (Nat × Operand)} (h : wpList P ops Q (⟨dst, .build T ps, ty, pos, after, g⟩ :: rest) a w) : wpList P ops Q (⟨dst, .build T ps, ty, pos, after, g⟩ :: rest) a w := h
end
end Go
namespace Go
open Go.RowKit
section
variable {P : Program} {w : World} {k : Nat}
end
namespace Any
theorem VE.rdold {β : Base} {E : Env} {w : World} {k : Nat} {v : Value} {c : List Value} (h : VE β E w) (hr : Rd β.W k v c) (ha : c ≠ [] → ∀ b o n cap, v = .slice (some ⟨b, o, none⟩) n cap → b ∉ β.X) : Rd w k v c := by
 obtain ⟨ao, n, cap, rfl, h1, h2, h3, h4, h5⟩ := hr
 refine ⟨ao, n, cap, rfl, h1, h2, h3, h4, fun i hi => ?_⟩
 obtain ⟨b', o, e, hb, hc⟩ := h5 i hi
 have hne : b' ∉ β.X := ha (fun e => by rw [e] at hi; simp at hi) b' o n cap (by rw [e])
 exact ⟨b', o, e, Nat.lt_of_lt_of_le hb h.size, by rw [← hc]; exact World.cell?_of_block (w := β.W) (h.frame b' hb hne)⟩
theorem rd_start {w0 w : World} {L : LV} {R : LR} {k : Nat} {v : Value} {c : List Value} (h : Mem w0 w L R) (hm : (k, v, c) ∈ R) : Rd (Base.mk w0 (w.drewN 1) (L.map (·.1))).W k v c ∧ (c ≠ [] → ∀ b o n cap, v = .slice (some ⟨b, o, none⟩) n cap → b ∉ (Base.mk w0 (w.drewN 1) (L.map (·.1))).X) :=
 ⟨(h.rd hm).new ⟨rfl, rfl, rfl, Nat.le_refl _, fun _ _ => rfl⟩, fun hc b o n cap e hX => by
   obtain ⟨p, hp, he⟩ := List.mem_map.1 hX
   exact (h.rds _ hm).2 hc b o n cap e p hp he⟩
section
variable {P : Program} {ops : Array Oper} {β : Base} {S : Nat → Stat} {D : Nat → Kind} {Q : Act → Env → Prop} {k : Nat} {rest : List Oper} {a : Act} {E : Env}
variable {dst : Option Tmp} {ty t : TypeId} {pos : String} {after : Array Edge} {g : Option (Nat × Bool)} {x y : Operand}
end
section
variable {P : Program} {β : Base} {E' : Env} {a : Act} {K : Act → Prop} {dst : Option Tmp} {ty T : TypeId} {pos : String} {after : Array Edge} {g : Option (Nat × Bool)} {x : Operand}
end
theorem VE.mem {w0 w w9 : World} {L : LV} {R : LR} {E : Env} (h : VE ⟨w0, w.drewN 1, L.map (·.1)⟩ E w9) (hm : Mem w0 w L R) (ks : List Nat) (hn : ks.Nodup) : Mem w0 w9 (ks.filterMap E) R :=
 ⟨h.vars ks hn, fun x hx => by
   obtain ⟨h1, h2⟩ := rd_start (k := x.1) (v := x.2.1) (c := x.2.2) hm hx
   refine ⟨h.rdold h1 h2, fun hc b o n cap e p hp hpb => ?_⟩
   obtain ⟨i, _, hi⟩ := List.mem_filterMap.1 hp
   rcases h.inX i p.1 p.2 hi with g | g
   · exact h2 hc b o n cap e (by rw [← hpb]; exact g)
   · rw [e] at h1
     have := h1.lt hc
     simp only at g this
     omega⟩
theorem VE.memr {w0 w w9 : World} {L1 L : LV} {R : LR} {E : Env} (h : VE ⟨w0, w.drewN 1, L1.map (·.1)⟩ E w9) (hm : Mem w0 w (L1 ++ L) R) (ks : List Nat) (hn : ks.Nodup) : Mem w0 w9 (ks.filterMap E ++ L) R := by
 have hm1 : Mem w0 w L1 R := hm.keep (List.sublist_append_left _ _)
 have h1 := h.mem hm1 ks hn
 have ha := hm.vars.apart
 rw [List.map_append, List.nodup_append] at ha
 have old : ∀ p ∈ L, p.1 < w.heap.size ∧ p.1 ∉ L1.map (·.1) := fun p hp =>
   ⟨soft_lt (hm.vars.rows p (List.mem_append_right _ hp)).2.1, fun hX => ha.2.2 p.1 hX p.1 (List.mem_map_of_mem hp) rfl⟩
 refine ⟨⟨h1.vars.below, fun p hp => ?_, ?_⟩, fun x hx => ⟨(h1.rds x hx).1, fun hc b o n cap e p hp => ?_⟩⟩
 · rcases List.mem_append.1 hp with hp | hp
   · exact h1.vars.rows p hp
   · obtain ⟨g1, g2, g3⟩ := hm.vars.rows p (List.mem_append_right _ hp)
     obtain ⟨o1, o2⟩ := old p hp
     have hf := h.frame p.1 o1 o2
     exact ⟨(rowD_congr hf).trans g1, (soft_congr hf).trans g2, g3⟩
 · rw [List.map_append, List.nodup_append]
   refine ⟨h1.vars.apart, ha.2.1, fun a ha' c hc e => ?_⟩
   subst e
   obtain ⟨p, hp, rfl⟩ := List.mem_map.1 ha'
   obtain ⟨p', hp', e'⟩ := List.mem_map.1 hc
   obtain ⟨i, _, hi⟩ := List.mem_filterMap.1 hp
   obtain ⟨o1, o2⟩ := old p' hp'
   rcases h.inX i p.1 p.2 hi with g | g
   · exact o2 (by rw [e']; exact g)
   · simp only at g
     have : w.heap.size ≤ p.1 := g
     omega
 · rcases List.mem_append.1 hp with hp | hp
   · exact (h1.rds x hx).2 hc b o n cap e p hp
   · exact (hm.rds x hx).2 hc b o n cap e p (List.mem_append_right _ hp)
end Any
theorem AppRow.fr {w0 w : World} {L : LV} {v : Value} {k : Nat} {c : List Value} {x : Nat × Array Value} (h : AppRow v k c x) (hv : Vars w0 w L) (hm : x ∈ L) : FR w0 w k v c := by
 have h0 := hv.rows x hm
 refine ⟨h.rd h0.1 h0.2.1, fun _ => ?_⟩
 obtain ⟨n, cap, rfl, _⟩ := h
 exact ⟨x.1, 0, n, cap, rfl, h0.2.2⟩
theorem Mem.yield {w0 w : World} {L1 L2 : LV} {R : LR} {v : Value} {k : Nat} {c : List Value} {x : Nat × Array Value} (h : Mem w0 w (L1 ++ x :: L2) R) (hx : AppRow v k c x) : Mem w0 w (L1 ++ L2) ((k, v, c) :: R) := by
 have hm : x ∈ L1 ++ x :: L2 := by simp
 have h0 := h.vars.rows x hm
 refine (h.keep (List.Sublist.append_left (List.sublist_cons_self x L2) L1)).add (hx.rd h0.1 h0.2.1) fun hc b o n cap e p hp hpb => ?_
 obtain ⟨n', cap', e', _⟩ := hx
 rw [e] at e'
 cases e'
 have ha := h.vars.apart
 rw [List.map_append, List.map_cons, List.nodup_append] at ha
 obtain ⟨a1, a2, a3⟩ := ha
 rw [List.nodup_cons] at a2
 rcases List.mem_append.1 hp with hp | hp
 · exact a3 p.1 (List.mem_map_of_mem hp) x.1 (List.mem_cons_self ..) hpb
 · exact a2.1 (by rw [← hpb]; exact List.mem_map_of_mem hp)
theorem Mem.swap {w0 w : World} {x y : Nat × Array Value} {L : LV} {R : LR} (h : Mem w0 w (x :: y :: L) R) : Mem w0 w (y :: x :: L) R :=
 ⟨h.vars.swap, fun z hz => ⟨(h.rds z hz).1, fun hc b o n cap e p hp => (h.rds z hz).2 hc b o n cap e p (by simp only [List.mem_cons] at hp ⊢; rcases hp with h | h | h <;> simp [h])⟩⟩
theorem Mem.drop {w0 w : World} {x : Nat × Array Value} {L : LV} {R : LR} (h : Mem w0 w (x :: L) R) : Mem w0 w L R := h.keep (List.sublist_cons_self _ _)
theorem Mem.dropR {w0 w : World} {x : Nat × Value × List Value} {L : LV} {R : LR} (h : Mem w0 w L (x :: R)) : Mem w0 w L R := h.keepR fun _ hy => Mem.s hy
section
variable {P : Program} {ops : Array Oper} {rest : List Oper} {a : Act} {w w0 : World} {Q : Exit → Act → World → Prop} {L : LV} {R : LR}
variable {dst : Option Tmp} {ty T : TypeId} {pos : String} {after : Array Edge} {g : Option (Nat × Bool)} {x : Operand}
theorem wl_rd (hgd : Region.wanted (⟨dst, .load T x, ty, pos, after, g⟩ : Oper) (yielded ops a.tmps) = true) {k b o n cap : Nat} {c : List Value} (hr : Rd w k (.slice (some ⟨b, o, none⟩) n cap) c) (i : Nat) (hx : a.eval x = .pointer (some ⟨b, o + i, none⟩)) (d : TypeDesc)
   (hu : P.underlying T = some d) (hd : d.isRow = false) (v : Value) (hv : c[i]? = some v) (h : wpList P ops Q rest (a.put dst v) w) : wpList P ops Q (⟨dst, .load T x, ty, pos, after, g⟩ :: rest) a w := by
 have hlt := (List.getElem?_eq_some_iff.1 hv).1
 obtain ⟨_, _, _, _, e, _, _, _, _, hc⟩ := hr.some (by omega)
 cases e
 have := hc i hlt
 rw [hv, cell_rowD] at this
 exact wl_ldc hgd b (o + i) hx (w.rowD b) rfl d hu hd v this h
end
end Go

/-! Regions that draw, in short: sparse tables of what is read and written, the end over Mem, operations by lemmas whose small parts are found by themselves. -/
namespace Go
namespace Any
open Go.RowKit
def stF (l : List (Nat × List Nat × Option Nat)) (i : Nat) : Stat := match l.find? (·.1 == i) with
 | some p => ⟨p.2.1, p.2.2⟩
 | none => ⟨[], none⟩
def mkF (l : List (Nat × Mark)) (i : Nat) : Mark := match l.find? (·.1 == i) with
 | some p => p.2
 | none => .val
def kindF (ms : List (Nat × Mark)) (vs : List Value) (i : Nat) : Kind := match mkF ms i with
 | .val => .val (vs.getD i undef)
 | .put => .put
 | .pure => .pure
 | .own W => .own W
 | .laidBy mk => .laidBy mk
 | .env j W => .env j W
 | .rel V => .rel V
section
variable {P : Program} {id : Nat} {Q : Exit → Act → World → Prop} {a : Act} {w0 w : World} {L L' : LV} {R : LR} {l : List Oper} {x0 x1 x2 x3 x4 x5 x6 x7 : Nat × Array Value}
theorem wrM (L1 : LV) (n : Nat) (st : List (Nat × List Nat × Option Nat)) (mk : List (Nat × Mark)) (hv : Mem w0 w (L1 ++ L) R)
   (h : someVals n fun vs => wpE P l.toArray ⟨w0, w.drewN 1, L1.map (·.1)⟩ (stF st) (kindF mk vs) (fun a' E' => ∀ w', VE ⟨w0, w.drewN 1, L1.map (·.1)⟩ E' w' → Q .normal a' w') 0 l a (Env.of L1))
   (hn : l.length = n) (hm : P.follows .mixedOrders = true) (hB : lexFB .any l.toArray (stF st) = true) : (Code.region id l.toArray true).wp P Q a w := by
 subst hn
 exact of_someVals _ (fun vs h => wp_region (stF st) (kindF mk vs) hm hB (hv.vars.keep (List.sublist_append_left L1 L)) h) h
theorem wr1 (n : Nat) (st : List (Nat × List Nat × Option Nat)) (mk : List (Nat × Mark)) (hv : Mem w0 w (x0 :: L) R)
   (h : someVals n fun vs => wpE P l.toArray ⟨w0, w.drewN 1, [x0].map (·.1)⟩ (stF st) (kindF mk vs) (fun a' E' => ∀ w', VE ⟨w0, w.drewN 1, [x0].map (·.1)⟩ E' w' → Q .normal a' w') 0 l a (Env.of [x0]))
   (hn : l.length = n := by exact rfl) (hm : P.follows .mixedOrders = true := by kernel_rfl) (hB : lexFB .any l.toArray (stF st) = true := by kernel_rfl) : (Code.region id l.toArray true).wp P Q a w := wrM [x0] n st mk hv h hn hm hB
theorem wr2 (n : Nat) (st : List (Nat × List Nat × Option Nat)) (mk : List (Nat × Mark)) (hv : Mem w0 w (x0 :: x1 :: L) R)
   (h : someVals n fun vs => wpE P l.toArray ⟨w0, w.drewN 1, [x0, x1].map (·.1)⟩ (stF st) (kindF mk vs) (fun a' E' => ∀ w', VE ⟨w0, w.drewN 1, [x0, x1].map (·.1)⟩ E' w' → Q .normal a' w') 0 l a (Env.of [x0, x1]))
   (hn : l.length = n := by exact rfl) (hm : P.follows .mixedOrders = true := by kernel_rfl) (hB : lexFB .any l.toArray (stF st) = true := by kernel_rfl) : (Code.region id l.toArray true).wp P Q a w := wrM [x0, x1] n st mk hv h hn hm hB
theorem wr3 (n : Nat) (st : List (Nat × List Nat × Option Nat)) (mk : List (Nat × Mark)) (hv : Mem w0 w (x0 :: x1 :: x2 :: L) R)
   (h : someVals n fun vs => wpE P l.toArray ⟨w0, w.drewN 1, [x0, x1, x2].map (·.1)⟩ (stF st) (kindF mk vs) (fun a' E' => ∀ w', VE ⟨w0, w.drewN 1, [x0, x1, x2].map (·.1)⟩ E' w' → Q .normal a' w') 0 l a (Env.of [x0, x1, x2]))
   (hn : l.length = n := by exact rfl) (hm : P.follows .mixedOrders = true := by kernel_rfl) (hB : lexFB .any l.toArray (stF st) = true := by kernel_rfl) : (Code.region id l.toArray true).wp P Q a w := wrM [x0, x1, x2] n st mk hv h hn hm hB
theorem wr4 (n : Nat) (st : List (Nat × List Nat × Option Nat)) (mk : List (Nat × Mark)) (hv : Mem w0 w (x0 :: x1 :: x2 :: x3 :: L) R)
   (h : someVals n fun vs => wpE P l.toArray ⟨w0, w.drewN 1, [x0, x1, x2, x3].map (·.1)⟩ (stF st) (kindF mk vs) (fun a' E' => ∀ w', VE ⟨w0, w.drewN 1, [x0, x1, x2, x3].map (·.1)⟩ E' w' → Q .normal a' w') 0 l a (Env.of [x0, x1, x2, x3]))
   (hn : l.length = n := by exact rfl) (hm : P.follows .mixedOrders = true := by kernel_rfl) (hB : lexFB .any l.toArray (stF st) = true := by kernel_rfl) : (Code.region id l.toArray true).wp P Q a w := wrM [x0, x1, x2, x3] n st mk hv h hn hm hB
inductive Gets (E : Env) (L : LV) : List Nat → LV → Prop
 | nil : Gets E L [] L
 | cons {k : Nat} {ks : List Nat} {y : Nat × Array Value} {L' : LV} (h : E k = some y) (hr : Gets E L ks L') : Gets E L (k :: ks) (y :: L')
theorem Gets.eq {E : Env} {L L' : LV} {ks : List Nat} (h : Gets E L ks L') : ks.filterMap E ++ L = L' := by
 induction h with
 | nil => rfl
 | cons h _ ih => rw [List.filterMap_cons_some h, List.cons_append, ih]
variable {ops : Array Oper} {β : Base} {S : Nat → Stat} {D : Nat → Kind} {k : Nat} {E : Env} {Q2 : Act → World → Prop}
theorem finM (L1 : LV) (hv : Mem w0 w (L1 ++ L) R) (ks : List Nat) (h : ∀ w', Mem w0 w' L' R → Q2 a w') (hg : Gets E L ks L') (hn : ks.Nodup) :
   wpE P ops ⟨w0, w.drewN 1, L1.map (·.1)⟩ S D (fun a' E' => ∀ w', VE ⟨w0, w.drewN 1, L1.map (·.1)⟩ E' w' → Q2 a' w') k [] a E :=
 E_nil fun w' hE => h w' (by rw [← hg.eq]; exact hE.memr hv ks hn)
theorem fin1 (hv : Mem w0 w (x0 :: L) R) (ks : List Nat) (h : ∀ w', Mem w0 w' L' R → Q2 a w') (hg : Gets E L ks L' := by repeat first | exact .nil | (apply Any.Gets.cons; · exact rfl)) (hn : ks.Nodup := by decide) :
   wpE P ops ⟨w0, w.drewN 1, [x0].map (·.1)⟩ S D (fun a' E' => ∀ w', VE ⟨w0, w.drewN 1, [x0].map (·.1)⟩ E' w' → Q2 a' w') k [] a E := finM [x0] hv ks h hg hn
theorem fin2 (hv : Mem w0 w (x0 :: x1 :: L) R) (ks : List Nat) (h : ∀ w', Mem w0 w' L' R → Q2 a w') (hg : Gets E L ks L' := by repeat first | exact .nil | (apply Any.Gets.cons; · exact rfl)) (hn : ks.Nodup := by decide) :
   wpE P ops ⟨w0, w.drewN 1, [x0, x1].map (·.1)⟩ S D (fun a' E' => ∀ w', VE ⟨w0, w.drewN 1, [x0, x1].map (·.1)⟩ E' w' → Q2 a' w') k [] a E := finM [x0, x1] hv ks h hg hn
theorem fin3 (hv : Mem w0 w (x0 :: x1 :: x2 :: L) R) (ks : List Nat) (h : ∀ w', Mem w0 w' L' R → Q2 a w') (hg : Gets E L ks L' := by repeat first | exact .nil | (apply Any.Gets.cons; · exact rfl)) (hn : ks.Nodup := by decide) :
   wpE P ops ⟨w0, w.drewN 1, [x0, x1, x2].map (·.1)⟩ S D (fun a' E' => ∀ w', VE ⟨w0, w.drewN 1, [x0, x1, x2].map (·.1)⟩ E' w' → Q2 a' w') k [] a E := finM [x0, x1, x2] hv ks h hg hn
theorem fin4 (hv : Mem w0 w (x0 :: x1 :: x2 :: x3 :: L) R) (ks : List Nat) (h : ∀ w', Mem w0 w' L' R → Q2 a w') (hg : Gets E L ks L' := by repeat first | exact .nil | (apply Any.Gets.cons; · exact rfl)) (hn : ks.Nodup := by decide) :
   wpE P ops ⟨w0, w.drewN 1, [x0, x1, x2, x3].map (·.1)⟩ S D (fun a' E' => ∀ w', VE ⟨w0, w.drewN 1, [x0, x1, x2, x3].map (·.1)⟩ E' w' → Q2 a' w') k [] a E := finM [x0, x1, x2, x3] hv ks h hg hn
end
section
variable {P : Program} {ops : Array Oper} {β : Base} {S : Nat → Stat} {D : Nat → Kind} {Q : Act → Env → Prop} {k : Nat} {o : Oper} {rest : List Oper} {a : Act} {E : Env}
theorem ePq {v : Value} (hk : wpE P ops β S D Q (k + 1) rest (a.put o.dst v) E) (hw : Region.wanted o (yielded ops a.tmps) = true := by exact rfl) (hD : D k = .pure := by exact rfl) (hS : (S k).write = none := by exact rfl)
   (h : ∀ K : Act → Prop, (∀ a', a' = a.put o.dst v → K a') → o.quiet P a (fun _ => True) K := by intro K hK; go_big_quiet_op; (refine hK _ ?_; rfl)) (hr : ∀ w, (execOp a.eval o).run P w = .ok (.value v) w := by exact fun _ => rfl) : wpE P ops β S D Q k (o :: rest) a E := E_pure hw hD hS hr hk
theorem eV {d : Tmp} {v : Value} (hk : wpE P ops β S D Q (k + 1) rest (a.put o.dst v) E) (hd : o.dst = some d := by exact rfl) (hsz : decide (d < a.tmps.size) = true := by exact rfl) (hw : Region.wanted o (yielded ops a.tmps) = true := by exact rfl) (hS : (S k).write = none := by exact rfl)
   (h : ∀ E', agree (S k).keys E E' → ∀ K : Act → Prop, (∀ a', a' = a.put o.dst v → K a') → o.quiet P a (VE β E') K := by intro E' hA K hK; go_big_quiet_op; first | (refine hK _ ?_; rfl) | (refine ⟨_, fun _ _ => rfl, ?_⟩; refine hK _ ?_; rfl)) (hD : D k = .val v := by exact rfl) : wpE P ops β S D Q k (o :: rest) a E := E_val hd hsz hw hS h hD hk
variable {d : Tmp} {ty : TypeId} {pos : String} {after : Array Edge} {g : Option (Nat × Bool)} {x y : Operand}
theorem gE (T : TypeId) (h : wpE P ops β S D Q k (⟨some d, .load T x, ty, pos, after, g⟩ :: rest) a E) : wpE P ops β S D Q k (⟨some d, .load T x, ty, pos, after, g⟩ :: rest) a E := h
theorem eC {T : TypeId} (i : Nat) (v : Value) {de : TypeDesc} (hu : P.underlying T = some de) (hk : wpE P ops β S D Q (k + 1) rest (a.put (some d) v) E) {B off : Nat} {c : Array Value}
   (hw : Region.wanted (⟨some d, .load T x, ty, pos, after, g⟩ : Oper) (yielded ops a.tmps) = true := by exact rfl) (hS : (S k).write = none := by exact rfl) (hx : a.eval x = .pointer (some ⟨B, off, none⟩) := by exact rfl) (hm : i ∈ (S k).keys := by decide) (hE : E i = some (B, c) := by exact rfl)
   (hd : de.isRow = false := by exact rfl) (hc : c[off]? = some v := by exact rfl) (hsz : decide (d < a.tmps.size) = true := by exact rfl) (hD : D k = .val v := by exact rfl) : wpE P ops β S D Q k (⟨some d, .load T x, ty, pos, after, g⟩ :: rest) a E :=
 E_val rfl hsz hw hS (fun E' hA K hK => q_ldc i hA hm hx hE de hu hd v hc (hK _ rfl)) hD hk
theorem eW {T : TypeId} (i n : Nat) {de : TypeDesc} (hu : P.underlying T = some de) (hi : (P.info? T).map (·.size) = some n) {B : Nat} {c : Array Value} (hk : wpE P ops β S D Q (k + 1) rest (a.put (some d) (.agg c)) E)
   (hw : Region.wanted (⟨some d, .load T x, ty, pos, after, g⟩ : Oper) (yielded ops a.tmps) = true := by exact rfl) (hS : (S k).write = none := by exact rfl) (hx : a.eval x = .pointer (some ⟨B, 0, none⟩) := by exact rfl) (hm : i ∈ (S k).keys := by decide) (hE : E i = some (B, c) := by exact rfl)
   (hd : de.isRow = true := by exact rfl) (hn : 0 < n := by decide) (hs : c.size = n := by exact rfl) (hsz : decide (d < a.tmps.size) = true := by exact rfl) (hD : D k = .val (.agg c) := by exact rfl) : wpE P ops β S D Q k (⟨some d, .load T x, ty, pos, after, g⟩ :: rest) a E :=
 E_val rfl hsz hw hS (fun E' hA K hK => q_ldv i hA hm hx hE n de hu hd hi hn hs (hK _ rfl)) hD hk
end
end Any
end Go
end

section
/-
 append to a row, in a region that draws: what is appended was there when the region began. No program in sight.
-/
namespace Go
namespace Any
open Go.RowKit
section
variable {P : Program} {ops : Array Oper} {β : Base} {S : Nat → Stat} {D : Nat → Kind} {Q : Act → Env → Prop} {k : Nat} {rest : List Oper} {a : Act} {E : Env}
variable {dst : Option Tmp} {ty t : TypeId} {pos : String} {after : Array Edge} {g : Option (Nat × Bool)} {x y : Operand}
theorem AppRow.zero (B kk : Nat) : AppRow (.slice (Option.some ⟨B, 0, none⟩) 0 0) kk [] (B, #[]) :=
 ⟨0, 0, rfl, by simp, Nat.le_refl _, Nat.zero_le _, by simp, by simp⟩
end
end Any
section
open Go.RowKit
variable {P : Program} {ops : Array Oper} {rest : List Oper} {a : Act} {w0 w : World} {Q : Exit → Act → World → Prop} {L : LV} {R : LR}
variable {dst : Option Tmp} {ty t e : TypeId} {pos : String} {after : Array Edge} {g : Option (Nat × Bool)} {x y : Operand} {k : Nat}
theorem wl_apph (hgd : Region.wanted (⟨dst, .call { callee := .builtin .append, args := #[x, y], argTypes := #[t, t] }, ty, pos, after, g⟩ : Oper) (yielded ops a.tmps) = true) {v : Value} {c : List Value} {x0 : Nat × Array Value} (hx : a.eval x = v) (hv : Mem w0 w (x0 :: L) R) (hrow : AppRow v k c x0) (z : Value) (bytes : Nat) (ht : P.underlying t = some (.slice e))
   (hi : (P.info? e).map (fun i => (i.zero, i.size, i.bytes)) = some (some z, k, bytes)) (hzs : z.cells.size = k) (hk : 0 < k) {u : Value} (hy : a.eval y = u) {news : List Value} (hu : Rd w k u news) (h1 : ∀ x ∈ news, x.oneCell' = true)
   (h63 : (c.length + news.length) / k ≤ maxLen) (hbytes : (c.length + news.length) / k * bytes ≤ 140737488355328)
   (hn : ∀ v' w' x', AppRow v' k (c ++ news) x' → Mem w0 w' (x' :: L) R → wpList P ops Q rest (a.put dst v') w') : wpList P ops Q (⟨dst, .call { callee := .builtin .append, args := #[x, y], argTypes := #[t, t] }, ty, pos, after, g⟩ :: rest) a w := by
 obtain ⟨i, hi1, hz, hsz, hb⟩ := info_parts hi
 obtain ⟨q1, q2, q3⟩ := hv.vars.rows x0 (List.mem_cons_self ..)
 obtain ⟨v', w', x', r1, r2, r3⟩ := run_app_row (P := P) (w := w) t ty i z bytes ht hi1 hz hsz hb hzs hk hrow q1 q2 hu h1 h63 hbytes
 refine wpList_want hgd fun K hK => ?_
 unfold Oper.wp execOp
 simp only [resolve, invoke, builtin, Sem.run_bind, Sem.run_pure, Result.andThen_ok, List.map_toArray, List.map_cons, List.map_nil, hx, hy, r1]
 refine hK _ _ (hn v' w' x' r2 ?_)
 rcases r3 with ⟨e1, hwr⟩ | ⟨e1, hnw, hr, hs⟩
 · have := hv.set 0 rfl hwr
   have e2 : x' = (x0.1, x'.2) := by rw [← e1]
   rw [e2]; exact this
 · have hm : MadeAt w w' w.heap.size x'.2 := ⟨rfl, ⟨hnw, by rw [← e1]; exact hr, by rw [← e1]; exact hs⟩⟩
   have := (hv.madeAt hm).keep (L' := (w.heap.size, x'.2) :: L) ((List.sublist_cons_self x0 L).cons_cons _)
   have e2 : x' = (w.heap.size, x'.2) := by rw [← e1]
   rw [e2]; exact this
end
end Go
end
