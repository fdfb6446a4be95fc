/-
  What has been drawn never grows less: of every step of every machine. No program in sight.
-/
import Derived.Calls
import Derived.RunT
import Derived.Lone
set_option linter.unusedVariables false
set_option linter.unusedSimpArgs false
namespace Go
namespace Dr
def wd {α : Type} : Result α → Nat
  | .ok _ w => w.drawn
  | .halt _ w => w.drawn
theorem ask_d {α : Type} : ∀ (q : Ask α) (w : World), w.drawn ≤ (w.ask q).2.drawn := by
  intro q
  induction q with
  | done a => intro w; exact Nat.le_refl _
  | ask what range k ih =>
    intro w
    unfold World.ask
    simp only []
    split
    · exact ih _ w
    · exact Nat.le_trans (Nat.le_succ _) (ih _ { w with drawn := w.drawn + 1 })
theorem sys_d (w : World) (c : Sys) : w.drawn ≤ (w.sys c).2.drawn := by
  have h := ask_d (Kernel.perform c w.os) w
  unfold World.sys
  split
  · exact Nat.le_refl _
  · rename_i r os w2 _ e
    rw [e] at h; exact h
theorem freeze_d (w : World) (a : Addr) (n : Nat) : (w.freeze a n).drawn = w.drawn := by unfold World.freeze; split <;> rfl
theorem farStore_d {p : Program} {w w' : World} {a : Addr} {v : Value} {b : Bool} {l : List Addr} (h : w.farStore p a v b = .ok (w', l)) : w'.drawn = w.drawn := by
  unfold World.farStore at h
  split at h
  · split at h
    · rename_i r e
      simp only [Except.ok.injEq] at h
      subst h
      unfold World.viewStore at e
      simp only [bind, Except.bind, pure, Except.pure, throw, throwThe, MonadExceptOf.throw] at e
      repeat' first
        | (simp at e; done)
        | (simp only [Except.ok.injEq, Prod.mk.injEq] at e; obtain ⟨rfl, _⟩ := e; rfl)
        | split at e
    · cases h
  · cases h
theorem run_d {α : Type} (p : Program) : ∀ (m : Sem α) (w : World), w.drawn ≤ wd (m.run p w) := by
  intro m
  induction m with
  | pure a => intro w; exact Nat.le_refl _
  | load m a k ih =>
    intro w; unfold Sem.run
    split
    · exact ih _ w
    · split
      · exact ih _ w
      · exact Nat.le_refl _
  | store m a v k ih =>
    intro w
    have key : w.drawn ≤ wd (match w.cell? a with
      | some _ => if w.frozen? a then Result.halt (.unsupported (.unsafePointer "a write to bytes that a string shares")) w else k.run p (w.setCell a v)
      | none => match w.farStore p a v (m == .atomic) with
        | .ok (w, _) => k.run p w
        | .error h => .halt h w) := by
      split
      · split
        · exact Nat.le_refl _
        · exact ih (w.setCell _ _)
      · split
        · rename_i e; have := farStore_d e; rw [← this]; exact ih _
        · exact Nat.le_refl _
    cases v <;> first | exact key | exact Nat.le_refl _
  | new o k ih => intro w; unfold Sem.run; exact ih w.heap.size { w with heap := w.heap.push o }
  | shape r k ih => intro w; unfold Sem.run; exact ih _ w
  | freeze a n k ih => intro w; unfold Sem.run; rw [← freeze_d w a n]; exact ih _
  | frozen a k ih => intro w; unfold Sem.run; exact ih _ w
  | getObj r k ih =>
    intro w; unfold Sem.run
    split
    · exact Nat.le_refl _
    · exact ih _ w
    · exact Nat.le_refl _
  | setObj r o k ih =>
    intro w; unfold Sem.run
    split
    · exact Nat.le_refl _
    · exact ih { w with heap := w.heap.setIfInBounds r o }
    · exact Nat.le_refl _
  | choose q k ih =>
    intro w; unfold Sem.run
    split
    · exact ih _ w
    · exact Nat.le_trans (Nat.le_succ _) (ih _ { w with drawn := w.drawn + 1 })
  | sys c k ih => intro w; unfold Sem.run; exact Nat.le_trans (sys_d w c) (ih _ _)
  | program k ih => intro w; unfold Sem.run; exact ih _ w
  | mark m k ih => intro w; unfold Sem.run; exact ih w
  | halt h => intro w; exact Nat.le_refl _
section
variable {α : Type} {p : Program} {m : Sem α} {w w' : World} {a : α} {h : Halt} {es es' : Array Event}
theorem rok (e : m.run p w = .ok a w') : w.drawn ≤ w'.drawn := by have := run_d p m w; rw [e] at this; exact this
theorem rhalt (e : m.run p w = .halt h w') : w.drawn ≤ w'.drawn := by have := run_d p m w; rw [e] at this; exact this
theorem tok (e : m.runT p w es = (.ok a w', es')) : w.drawn ≤ w'.drawn := rok (m := m) (p := p) (a := a) (by rw [← Sem.runT_fst p m w es, e])
theorem thalt (e : m.runT p w es = (.halt h w', es')) : w.drawn ≤ w'.drawn := rhalt (m := m) (p := p) (h := h) (by rw [← Sem.runT_fst p m w es, e])
theorem ok1 (e : (m.runT p w es).1 = .ok a w') : w.drawn ≤ w'.drawn := rok (m := m) (p := p) (a := a) (by rw [← Sem.runT_fst p m w es, e])
theorem halt1 (e : (m.runT p w es).1 = .halt h w') : w.drawn ≤ w'.drawn := rhalt (m := m) (p := p) (h := h) (by rw [← Sem.runT_fst p m w es, e])
end
/-- The drawn of a goroutine's step. -/
def gd : GStep → Nat
  | .go _ w _ => w.drawn
  | .comm _ _ _ _ w _ => w.drawn
  | .spawn _ _ w _ => w.drawn
  | .count _ w _ => w.drawn
  | .timer _ _ w _ => w.drawn
  | .alone _ _ w _ => w.drawn
  | .newcoro _ _ _ w _ => w.drawn
  | .coroswitch _ _ _ w _ => w.drawn
  | .collect _ w _ => w.drawn
  | .watch _ w _ => w.drawn
  | .ended _ w _ => w.drawn
theorem gd_after (es : Array Event) (s : GStep) : gd (GStep.after es s) = gd s := by cases s <;> rfl
theorem elim_d {α : Type} {d : Nat} {o : Option α} {a : GStep} {f : α → GStep} (h1 : d ≤ gd a) (h2 : ∀ x, d ≤ gd (f x)) : d ≤ gd (o.elim a f) := by cases o <;> simp only [Option.elim] <;> first | exact h1 | exact h2 _
theorem dieOf_d (fr : Frame) (l : List ByteArray) (m : String) (b : Bool) (w : World) : w.drawn ≤ gd (dieOf fr l m b w) := Nat.le_refl _
theorem endThrow_d (fr : Frame) (m : String) (w : World) : w.drawn ≤ gd (endThrow fr m w) := Nat.le_refl _
theorem endWith_d (w : World) (fd : Nat) (t : ByteArray) (o : Outcome) : w.drawn ≤ gd (endWith w fd t o) := by
  have h := sys_d w (.write fd t)
  unfold endWith
  simp only []
  split
  · rename_i e; rw [e] at h
    split <;> exact h
  · rename_i e; rw [e] at h; exact h
  · rename_i e; rw [e] at h; exact h
theorem endPrinting_d (p : Program) (fr : Frame) (v : Value) (w : World) : w.drawn ≤ gd (endPrinting p fr v w) := by
  unfold endPrinting
  simp only []
  split <;> exact Nat.le_refl _
theorem endFatal_d (p : Program) (fr : Frame) (cs : List Frame) (d : Option Dying) (m : String) (w : World) : w.drawn ≤ gd (endFatal p fr cs d m w) := by
  unfold endFatal
  simp only []
  split
  · exact rok (by assumption)
  · exact rhalt (by assumption)
  · exact rhalt (by assumption)
theorem writeOn_d (p : Program) (fr : Frame) (d : Dying) (f : Fatal) (w : World) : w.drawn ≤ gd (writeOn p fr d f w) := by
  unfold writeOn
  simp only []
  split
  · exact Nat.le_refl _
  · split
    · exact tok (by assumption)
    · exact thalt (by assumption)
    · exact thalt (by assumption)
    · exact thalt (by assumption)
theorem doReturn_d (p : Program) (b : Bool) (fr : Frame) (cs : List Frame) (d : Option Dying) (v : Value) (w : World) : w.drawn ≤ gd (doReturn p b fr cs d v w) := by
  unfold doReturn
  simp only []
  repeat' first
    | exact Nat.le_refl _
    | split
theorem die_d (p : Program) (fr : Frame) (d : Dying) (w : World) : w.drawn ≤ gd (die p fr d w) := by
  unfold die
  simp only []
  repeat' first
    | exact Nat.le_refl _
    | exact ok1 (by assumption)
    | (simp only [gd]; exact rok (by assumption))
    | exact halt1 (by assumption)
    | exact rok (by assumption)
    | exact rhalt (by assumption)
    | exact writeOn_d _ _ _ _ _
    | exact endWith_d _ _ _ _
    | exact endPrinting_d _ _ _ _
    | exact Nat.le_trans (ok1 (by assumption)) (endPrinting_d _ _ _ _)
    | exact Nat.le_trans (halt1 (by assumption)) (endPrinting_d _ _ _ _)
    | exact Nat.le_trans (rok (by assumption)) (endPrinting_d _ _ _ _)
    | exact Nat.le_trans (rhalt (by assumption)) (endPrinting_d _ _ _ _)
    | rw [gd_after]
    | split

theorem callDeferred_d (p : Program) (fr : Frame) (cs : List Frame) (dy : Option Dying) (d : Deferred) (w : World) : w.drawn ≤ gd (callDeferred p fr cs dy d w) := by
  unfold callDeferred
  simp only []
  repeat' first
    | exact Nat.le_refl _
    | exact ok1 (by assumption)
    | (simp only [gd]; exact rok (by assumption))
    | exact halt1 (by assumption)
    | exact rok (by assumption)
    | exact rhalt (by assumption)
    | exact endFatal_d _ _ _ _ _ _
    | exact Nat.le_trans (ok1 (by assumption)) (endFatal_d _ _ _ _ _ _)
    | exact Nat.le_trans (halt1 (by assumption)) (endFatal_d _ _ _ _ _ _)
    | exact Nat.le_trans (rok (by assumption)) (endFatal_d _ _ _ _ _ _)
    | exact Nat.le_trans (rhalt (by assumption)) (endFatal_d _ _ _ _ _ _)
    | exact endThrow_d _ _ _
    | exact Nat.le_trans (ok1 (by assumption)) (endThrow_d _ _ _)
    | exact Nat.le_trans (halt1 (by assumption)) (endThrow_d _ _ _)
    | exact Nat.le_trans (rok (by assumption)) (endThrow_d _ _ _)
    | exact Nat.le_trans (rhalt (by assumption)) (endThrow_d _ _ _)
    | rw [gd_after]
    | split

theorem unwind_d (p : Program) (b : Bool) (fr : Frame) (cs : List Frame) (dy : Option Dying) (w : World) : w.drawn ≤ gd (unwind p b fr cs dy w) := by
  unfold unwind
  simp only []
  repeat' first
    | exact Nat.le_refl _
    | exact ok1 (by assumption)
    | (simp only [gd]; exact rok (by assumption))
    | exact halt1 (by assumption)
    | exact rok (by assumption)
    | exact rhalt (by assumption)
    | exact callDeferred_d _ _ _ _ _ _
    | exact endPrinting_d _ _ _ _
    | exact Nat.le_trans (ok1 (by assumption)) (endPrinting_d _ _ _ _)
    | exact Nat.le_trans (halt1 (by assumption)) (endPrinting_d _ _ _ _)
    | exact Nat.le_trans (rok (by assumption)) (endPrinting_d _ _ _ _)
    | exact Nat.le_trans (rhalt (by assumption)) (endPrinting_d _ _ _ _)
    | exact doReturn_d _ _ _ _ _ _ _
    | exact Nat.le_trans (ok1 (by assumption)) (doReturn_d _ _ _ _ _ _ _)
    | exact Nat.le_trans (halt1 (by assumption)) (doReturn_d _ _ _ _ _ _ _)
    | exact Nat.le_trans (rok (by assumption)) (doReturn_d _ _ _ _ _ _ _)
    | exact Nat.le_trans (rhalt (by assumption)) (doReturn_d _ _ _ _ _ _ _)
    | rw [gd_after]
    | split

theorem early_d (p : Program) (fr : Frame) (cs : List Frame) (dy : Option Dying) (g : Nat) (w : World) : w.drawn ≤ gd (early p fr cs dy g w) := by
  unfold early
  simp only []
  repeat' first
    | exact Nat.le_refl _
    | exact ok1 (by assumption)
    | (simp only [gd]; exact rok (by assumption))
    | exact halt1 (by assumption)
    | exact rok (by assumption)
    | exact rhalt (by assumption)
    | rw [gd_after]
    | split

theorem apply_d (p : Program) (listen : Bool) (fr : Frame) (cs : List Frame) (dy : Option Dying) (m : Sem Next) (w : World) : w.drawn ≤ gd (stepG.apply p listen fr cs dy m w) := by
  unfold stepG.apply
  simp only []
  have hr : (if listen = true then m.runT p w #[] else (m.run p w, #[])).1 = m.run p w := by
    split
    · exact Sem.runT_fst p m w #[]
    · rfl
  generalize (if listen = true then m.runT p w #[] else (m.run p w, #[])) = re at hr ⊢
  obtain ⟨r, es⟩ := re
  simp only at hr
  subst hr
  rw [gd_after]
  split
  repeat' first
    | exact Nat.le_refl _
    | exact ok1 (by assumption)
    | exact halt1 (by assumption)
    | exact rok (by assumption)
    | exact rhalt (by assumption)
    | (simp only [gd]; exact rok (by assumption))
    | exact endFatal_d _ _ _ _ _ _
    | exact Nat.le_trans (ok1 (by assumption)) (endFatal_d _ _ _ _ _ _)
    | exact Nat.le_trans (halt1 (by assumption)) (endFatal_d _ _ _ _ _ _)
    | exact Nat.le_trans (rok (by assumption)) (endFatal_d _ _ _ _ _ _)
    | exact Nat.le_trans (rhalt (by assumption)) (endFatal_d _ _ _ _ _ _)
    | exact endThrow_d _ _ _
    | exact Nat.le_trans (ok1 (by assumption)) (endThrow_d _ _ _)
    | exact Nat.le_trans (halt1 (by assumption)) (endThrow_d _ _ _)
    | exact Nat.le_trans (rok (by assumption)) (endThrow_d _ _ _)
    | exact Nat.le_trans (rhalt (by assumption)) (endThrow_d _ _ _)
    | exact early_d _ _ _ _ _ _
    | exact Nat.le_trans (ok1 (by assumption)) (early_d _ _ _ _ _ _)
    | exact Nat.le_trans (halt1 (by assumption)) (early_d _ _ _ _ _ _)
    | exact Nat.le_trans (rok (by assumption)) (early_d _ _ _ _ _ _)
    | exact Nat.le_trans (rhalt (by assumption)) (early_d _ _ _ _ _ _)
    | rw [gd_after]
    | split

theorem oper_d (p : Program) (listen : Bool) (fr : Frame) (cs : List Frame) (dy : Option Dying) (w : World) : w.drawn ≤ gd (stepG.oper p listen fr cs dy w) := by
  unfold stepG.oper
  repeat' first
    | exact Nat.le_refl _
    | exact ok1 (by assumption)
    | exact halt1 (by assumption)
    | exact rok (by assumption)
    | exact rhalt (by assumption)
    | (simp only [gd]; exact rok (by assumption))
    | exact apply_d _ _ _ _ _ _ _
    | rw [gd_after]
    | split

set_option maxHeartbeats 4000000 in
theorem exec_d (p : Program) (main listen : Bool) (fr : Frame) (cs : List Frame) (dy : Option Dying) (w : World) : w.drawn ≤ gd (stepG.exec p main listen fr cs dy w) := by
  unfold stepG.exec
  simp only []
  split
  repeat' first
    | exact Nat.le_refl _
    | exact ok1 (by assumption)
    | exact halt1 (by assumption)
    | exact rok (by assumption)
    | exact rhalt (by assumption)
    | (simp only [gd]; exact rok (by assumption))
    | exact oper_d _ _ _ _ _ _
    | exact apply_d _ _ _ _ _ _ _
    | exact Nat.le_trans (ok1 (by assumption)) (apply_d _ _ _ _ _ _ _)
    | exact Nat.le_trans (halt1 (by assumption)) (apply_d _ _ _ _ _ _ _)
    | exact Nat.le_trans (rok (by assumption)) (apply_d _ _ _ _ _ _ _)
    | exact Nat.le_trans (rhalt (by assumption)) (apply_d _ _ _ _ _ _ _)
    | exact doReturn_d _ _ _ _ _ _ _
    | exact Nat.le_trans (ok1 (by assumption)) (doReturn_d _ _ _ _ _ _ _)
    | exact Nat.le_trans (halt1 (by assumption)) (doReturn_d _ _ _ _ _ _ _)
    | exact Nat.le_trans (rok (by assumption)) (doReturn_d _ _ _ _ _ _ _)
    | exact Nat.le_trans (rhalt (by assumption)) (doReturn_d _ _ _ _ _ _ _)
    | refine elim_d ?_ (fun _ => ?_)
    | rw [gd_after]
    | split

theorem stepG_d (p : Program) (main listen : Bool) (g : Goroutine) (w : World) : w.drawn ≤ gd (stepG p main g w listen) := by
  unfold stepG
  simp only []
  split
  · exact die_d _ _ _ _
  · exact exec_d _ _ _ _ _ _ _
  · exact unwind_d _ _ _ _ _ _
theorem waitingAt_d {rest : Rest} {cases : Array CommCase} {w w' : World} (h : waitingAt rest cases w = some w') : w.drawn ≤ w'.drawn := by
  unfold waitingAt at h
  repeat' first
    | (simp at h; done)
    | (simp only [Option.some.injEq] at h; subst h; exact Nat.le_refl _)
    | split at h
theorem communicate_d (p : Program) (rest : Rest) (gs : Array Goroutine) (i : Nat) (g : Goroutine) (cases : Array CommCase) (blocking : Bool)
    (shape : CommShape) (w : World) (m' : Machine) (h : (communicate p rest gs i g cases blocking shape w).1 = .next m') : w.drawn ≤ m'.world.drawn := by
  unfold communicate at h
  simp only [] at h
  repeat' first
    | (simp at h; done)
    | (simp only [Stepped.next.injEq] at h; subst h; simp only []; first | exact Nat.le_refl _ | exact waitingAt_d (by assumption) | exact rok (by assumption) | exact Nat.le_trans (rok (by assumption)) (rhalt (by assumption)) | exact Nat.le_trans (rok (by assumption)) (rok (by assumption)))
    | split at h
theorem look_d (p : Program) (gs : Array Goroutine) (rest : Rest) (w : World) (m' : Machine) (h : look p gs rest w = .next m') : w.drawn ≤ m'.world.drawn := by
  unfold look at h
  simp only [] at h
  repeat' first
    | (simp at h; done)
    | (simp only [Stepped.next.injEq] at h; subst h; simp only []; first | exact Nat.le_refl _ | exact rok (by assumption) | exact Nat.le_trans (rok (by assumption)) (rok (by assumption)))
    | split at h
theorem retime_d (m : Machine) (k : Nat) (t : Timer) (when period : Nat) : (retime m k t when period).2.world.drawn = m.world.drawn := by
  unfold retime
  cases t.chan with
  | none => rfl
  | some c =>
    simp only []
    unfold drain
    split <;> rfl
theorem opened_d {m m' : Machine} {var : Addr} (h : timerOp.opened m var = some m') : m'.world.drawn = m.world.drawn := by
  unfold timerOp.opened at h
  repeat' first
    | (simp at h; done)
    | (simp only [Option.some.injEq] at h; subst h; rfl)
    | split at h
theorem timerOp_d (m m' : Machine) (op : TimerOp) (v : Value) (h : timerOp m op = .ok (v, m')) : m'.world.drawn = m.world.drawn := by
  unfold timerOp timerOp.named at h
  simp only [] at h
  repeat' first
    | (simp at h; done)
    | (simp only [Except.ok.injEq, Prod.mk.injEq] at h; obtain ⟨_, rfl⟩ := h; rfl)
    | (simp only [Except.ok.injEq] at h; have e := congrArg (fun x => x.2.world.drawn) h; simp only [] at e; rw [← e]; first | exact retime_d _ _ _ _ _ | exact (retime_d _ _ _ _ _).trans (opened_d (by assumption)))
    | split at h
theorem serve_d (p : Program) (m m' : Machine) (k : Nat) (h : serve p m k = .next m') : m.world.drawn ≤ m'.world.drawn := by
  unfold serve at h
  simp only [] at h
  repeat' first
    | (simp at h; done)
    | (simp only [Stepped.next.injEq] at h; subst h; exact Nat.le_refl _)
    | split at h
def mvd : Move → Option Nat
  | .goroutine m _ => some m.world.drawn
  | .machine (.next m) _ => some m.world.drawn
  | .machine (.ended ..) _ => none
theorem serve_mvd {p : Program} {m : Machine} {k d : Nat} {ops : Array MemOp} (h : mvd (.machine (serve p m k) ops) = some d) : m.world.drawn ≤ d := by
  cases e : serve p m k with
  | next m' => rw [e] at h; simp only [mvd, Option.some.injEq] at h; subst h; exact serve_d p m m' k e
  | ended o w => rw [e] at h; simp [mvd] at h
theorem askOn_d (p : Program) (m : Machine) (d : Nat) (h : mvd (askOn p m) = some d) : m.world.drawn ≤ d := by
  unfold askOn at h
  simp only [] at h
  repeat' first
    | (simp [mvd] at h; done)
    | (simp only [mvd, Option.some.injEq] at h; subst h; (try simp only [Machine.advanceTo]); first | exact Nat.le_refl _ | exact rok (by assumption) | exact Nat.le_trans (rok (by assumption)) (rok (by assumption)) | exact Nat.le_trans (rok (by assumption)) (Nat.le_trans (rok (by assumption)) (rok (by assumption))) | exact Nat.le_trans (rok (by assumption)) (Nat.le_trans (rok (by assumption)) (Nat.le_trans (rok (by assumption)) (rok (by assumption)))))
    | exact Nat.le_trans (rok (by assumption)) (serve_mvd h)
    | (simp only [mvd, Option.some.injEq] at h
       subst h
       have e1 := rok ‹Sem.run p (ite _ _ _) _ = .ok _ _›
       have e2 := rok ‹Sem.run p (choose (.extern "clock.wait" _)) _ = .ok _ _›
       have e3 := rok ‹Sem.run p (choose (.sched _)) _ = .ok _ _›
       simp only [Machine.advanceTo] at e1 e2 e3 ⊢
       first
         | exact Nat.le_trans e1 (Nat.le_trans e2 e3)
         | (have e4 := rok ‹Sem.run p (choose (.extern "sched.slice" _)) _ = .ok _ _›; exact Nat.le_trans e1 (Nat.le_trans e2 (Nat.le_trans e3 e4))))
    | split at h

theorem ask_d2 (p : Program) (m : Machine) (d : Nat) (h : mvd (ask p m) = some d) : m.world.drawn ≤ d := by
  unfold ask at h
  split at h
  · split at h
    · simp [mvd] at h
    · split at h
      · rename_i e2
        exact Nat.le_trans (rok (by assumption)) (Nat.le_trans (look_d _ _ _ _ _ e2) (askOn_d p _ d h))
      · rename_i e2
        cases hl : look p m.gs m.rest _ with
        | next m' => exact (e2 m' hl).elim
        | ended o w => rw [hl] at h; simp [mvd] at h
    · exact Nat.le_trans (rok (by assumption)) (askOn_d p _ d h)
  · exact askOn_d p m d h
theorem move_d (p : Program) (m : Machine) (d : Nat) (h : mvd (move p m) = some d) : m.world.drawn ≤ d := by
  unfold move at h
  repeat' first
    | (simp [mvd] at h; done)
    | (have := ask_d2 p _ d h; exact this)
    | (simp only [mvd, Option.some.injEq] at h; subst h; exact Nat.le_refl _)
    | split at h
theorem mrunT_d (p : Program) (m m' : Machine) (i : Nat) (b : Bool) (h : (runT p m i b).1 = .next m') : m.world.drawn ≤ m'.world.drawn := by
  simp only [runT] at h
  have hs := fun g => stepG_d p (i == 0) b g m.world
  revert h hs
  generalize m.gs.swapAt! _ _ = gg
  intro h hs
  replace hs := hs gg.1
  revert h hs
  generalize stepG p _ gg.1 m.world b = s
  intro h hs
  cases s <;> simp only [gd] at h hs
  all_goals first
    | (simp at h; done)
    | exact Nat.le_trans hs (communicate_d _ _ _ _ _ _ _ _ _ _ h)
    | exact Nat.le_trans hs (look_d _ _ _ _ _ h)
    | (simp only [Stepped.next.injEq] at h; subst h; exact hs)
    | (repeat' first
        | (simp at h; done)
        | (simp only [Stepped.next.injEq] at h; subst h; first | exact hs | (have e := congrArg gd ‹endThrow _ _ _ = _›; exact Nat.le_trans hs (Nat.le_of_eq e)) | exact Nat.le_trans hs (Nat.le_of_eq (timerOp_d _ _ _ _ (by assumption)).symm))
        | split at h)
theorem stepT_d (p : Program) (m m' : Machine) (b : Bool) (h : (stepT p m b).1 = .next m') : m.world.drawn ≤ m'.world.drawn := by
  simp only [stepT] at h
  split at h
  next m₁ i hm => exact Nat.le_trans (move_d p m _ (by rw [hm]; rfl)) (mrunT_d p m₁ m' i b h)
  next s ops hm =>
    simp only [] at h
    subst h
    exact move_d p m _ (by rw [hm]; rfl)
theorem runN_d (p : Program) : ∀ (n : Nat) (m m' : Machine), runN p n m = .next m' → m.world.drawn ≤ m'.world.drawn := by
  intro n
  induction n with
  | zero => intro m m' h; simp only [runN, Stepped.next.injEq] at h; subst h; exact Nat.le_refl _
  | succ n ih =>
    intro m m' h
    simp only [runN] at h
    cases hs : step p m with
    | next m1 => rw [hs] at h; exact Nat.le_trans (stepT_d p m m1 true hs) (ih m1 m' h)
    | ended o w => rw [hs] at h; simp at h
theorem steps_d {p : Program} {m m' : Machine} (h : Steps p m m') : m.world.drawn ≤ m'.world.drawn := by
  obtain ⟨n, hn⟩ := h
  exact runN_d p n m m' hn
end Dr
/-- A call that comes to its end has drawn no less. -/
theorem Calls.drawn {P : Program} {f : FuncId} {args : Array Value} {w : World} {R : Ending → World → Prop} (h : Calls P f args w R) (hR : ∀ w', ¬ R .outgrown w') : Calls P f args w fun e w' => R e w' ∧ w.drawn ≤ w'.drawn := by
  intro cs
  obtain ⟨e, w', fr, hr, hc, hf, hl⟩ := h cs
  refine ⟨e, w', fr, ⟨hr, ?_⟩, hc, hf, hl⟩
  cases e with
  | outgrown => exact (hR w' hr).elim
  | returned v => exact Dr.steps_d hc
  | panicked c => exact Dr.steps_d hc
end Go
