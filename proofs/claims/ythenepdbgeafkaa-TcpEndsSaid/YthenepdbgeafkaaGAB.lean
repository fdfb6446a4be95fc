import Derived.Test.YthenepdbgeafkaaGAA
set_option linter.unusedSimpArgs false
set_option linter.unusedVariables false
section
/-
 Nothing is sent beyond the peer's window (layer 26), in plain words. No program in sight.
-/
namespace Go.Proofs.Tp
open Go.Proofs.Wi
theorem chkT_facts {t : T} (h : chkT t = true) : t.st ≤ 9 ∧ 1 ≤ t.lo ∧ t.lo ≤ 65535 ∧ 1 ≤ t.po ∧ t.po ≤ 65535 ∧ t.data.length ≤ 256 ∧ t.wnd ≤ 65535 ∧ (t.se = true → t.en = true) ∧ t.tm ≤ 1099511627776 ∧ 1 ≤ t.rto ∧ t.rto ≤ 64 ∧ t.tr ≤ 12 ∧ t.er ≤ 1000 ∧ chk t.inn = true ∧ numbers t = true := by
 unfold chkT at h
 simp only [Bool.and_eq_true, decide_eq_true_eq] at h
 obtain ⟨⟨⟨h1, h2, h3, h4, h5, h6, h7, h8, h9, ha, hb, hc, hd⟩, he⟩, hf⟩ := h
 exact ⟨h1, h2, h3, h4, h5, h6, h7, h8, h9, ha, hb, hc, hd, he, hf⟩
theorem dif_add {a b n : Nat} (h : 0 ≤ dif a b) (hn : dif a b + n < 2147483648) : dif (u32 (a + n)) b = dif a b + n := by
 unfold dif u32 at *
 split at h <;> split at hn <;> split <;> omega
/-- One more segment. -/
theorem segs_succ (k : Nat) (c : C) : segs (k + 1) c = if room1 c.t ≤ 0 then c else segs k { t := { c.t with nx := u32 (c.t.nx + (room1 c.t).toNat) }, out := c.out ++ [Tp.seg c.t 24 c.t.nx ((c.t.data.drop (own c.t).toNat).take (room1 c.t).toNat)] } := rfl
/-- What stands all along while segments go: nothing was ended, the numbers fit the bytes. -/
structure Mid (t0 : T) (m : Int) (c : C) : Prop where
 se : c.t.se = false
 lo : 0 ≤ flight c.t
 hi : flight c.t ≤ c.t.data.length
 top : flight c.t ≤ max m c.t.wnd
 len : c.t.data.length ≤ 256
 wnd : c.t.wnd ≤ 65535
 same : c.t = { t0 with nx := c.t.nx }
 out : ∀ g ∈ c.out, 0 < g.data.length ∧ g.data.length ≤ 64
theorem own_noSe {t : T} (h : t.se = false) : own t = flight t := by
 unfold own
 rw [if_neg (by rw [h]; simp)]
end Go.Proofs.Tp
end

section
/-
 A connection stays one that may be (layer 26), in plain words. No program in sight.
-/
namespace Go.Proofs.Tp
open Go.Proofs.Wi
variable {t : T}
/-- Bounds, without the numbers. -/
structure Rng (t : T) : Prop where
 st : t.st ≤ 9
 lo : 1 ≤ t.lo ∧ t.lo ≤ 65535
 po : 1 ≤ t.po ∧ t.po ≤ 65535
 dl : t.data.length ≤ 256
 wnd : t.wnd ≤ 65535
 se : t.se = true → t.en = true
 tm : t.tm ≤ 1099511627776
 rto : 1 ≤ t.rto ∧ t.rto ≤ 64
 tr : t.tr ≤ 12
 er : t.er ≤ 1000
 inn : chk t.inn = true
theorem chkT_iff : chkT t = true ↔ Rng t ∧ numbers t = true := by
 constructor
 · intro h
   obtain ⟨h1, h2, h3, h4, h5, h6, h7, h8, h9, ha, hb, hc, hd, he, hf⟩ := chkT_facts h
   exact ⟨⟨h1, ⟨h2, h3⟩, ⟨h4, h5⟩, h6, h7, h8, h9, ⟨ha, hb⟩, hc, hd, he⟩, hf⟩
 · rintro ⟨h, hn⟩
   unfold chkT
   rw [hn, h.inn, Bool.and_true, Bool.and_true, decide_eq_true_eq]
   exact ⟨h.st, h.lo.1, h.lo.2, h.po.1, h.po.2, h.dl, h.wnd, h.se, h.tm, h.rto.1, h.rto.2, h.tr, h.er⟩
/-- The numbers of a connection with two ends. -/
def Nm (t : T) : Prop := 0 ≤ own t ∧ own t ≤ t.data.length
theorem numbers_nm (h : 3 ≤ t.st) : numbers t = true ↔ Nm t := by
 unfold numbers Nm
 rw [if_neg (by omega), if_neg (by omega), decide_eq_true_eq]
/-- A connection at work with two ends that may be; what it sent may be, and is from its port to its peer's. -/
structure Ok (lo po : Nat) (c : C) : Prop where
 rng : Rng c.t
 elo : c.t.lo = lo
 epo : c.t.po = po
 out : ∀ g ∈ c.out, chkG g = true ∧ g.src = lo ∧ g.dst = po
theorem room_le (s : St) : 0 ≤ room s ∧ room s ≤ 256 := by
 unfold room
 split
 · rename_i h
   obtain ⟨_, _, _, h4⟩ := chk_spans h
   omega
 · omega
theorem later_le (now n : Nat) : later now n ≤ 1099511627776 := Nat.min_le_right _ _
theorem seg_ok (h : Rng t) {fl seq : Nat} {data : List Nat} (hf : fl ≤ 31) (hd : data.length ≤ 64) : chkG (Tp.seg t fl seq data) = true ∧ (Tp.seg t fl seq data).src = t.lo ∧ (Tp.seg t fl seq data).dst = t.po := by
 refine ⟨?_, rfl, rfl⟩
 unfold chkG
 rw [decide_eq_true_eq]
 have := room_le t.inn
 exact ⟨h.lo.1, h.lo.2, h.po.1, h.po.2, hf, by show (room t.inn).toNat ≤ 65535; omega, hd⟩
theorem Ok.send {lo po : Nat} {c : C} (h : Ok lo po c) {fl seq : Nat} {data : List Nat} (hf : fl ≤ 31) (hd : data.length ≤ 64) : Ok lo po (Tp.send fl seq data c) :=
 ⟨h.rng, h.elo, h.epo, fun g hg => by
   rcases List.mem_append.1 hg with hg | hg
   · exact h.out g hg
   · rw [List.mem_singleton.1 hg]
     have := seg_ok h.rng (fl := fl) (seq := seq) (data := data) hf hd
     exact ⟨this.1, this.2.1.trans h.elo, this.2.2.trans h.epo⟩⟩
theorem Ok.ack {lo po : Nat} {c : C} (h : Ok lo po c) : Ok lo po (ackC c) := h.send (by decide) (Nat.zero_le _)
/-- Other numbers, the same bounds. -/
theorem Ok.turn {lo po : Nat} {c : C} (h : Ok lo po c) (hr : Rng t) (hl : t.lo = c.t.lo) (hp : t.po = c.t.po) : Ok lo po { c with t := t } := ⟨hr, hl.trans h.elo, hp.trans h.epo, h.out⟩
theorem Ok.wait {lo po : Nat} {c : C} (h : Ok lo po c) (now n : Nat) : Ok lo po (Tp.wait now n c) :=
 h.turn { h.rng with tm := later_le now n } rfl rfl
theorem Ok.fresh {lo po : Nat} {c : C} (h : Ok lo po c) : Ok lo po (Tp.fresh c) :=
 h.turn { h.rng with tm := Nat.zero_le _, rto := ⟨by show 1 ≤ 4; decide, by show 4 ≤ 64; decide⟩, tr := Nat.zero_le _ } rfl rfl
theorem Ok.over {lo po : Nat} {c : C} (h : Ok lo po c) {e : Nat} (he : e ≤ 1000) : Ok lo po (Tp.over e c) :=
 h.turn { h.rng with tm := Nat.zero_le _, st := Nat.zero_le _, er := he } rfl rfl
theorem Ok.rest {lo po : Nat} {c : C} (h : Ok lo po c) (now : Nat) : Ok lo po (Tp.rest now c) :=
 h.turn { h.rng with tm := later_le now 32, st := by show 9 ≤ 9; decide } rfl rfl
theorem over_num (e : Nat) (c : C) : numbers (Tp.over e c).t = true := by
 unfold numbers Tp.over
 simp
theorem Nm.keep {t t' : T} (h : Nm t) (h1 : t'.nx = t.nx) (h2 : t'.una = t.una) (h3 : t'.se = t.se) (h4 : t'.data = t.data) : Nm t' := by
 unfold Nm own flight at *
 rw [h1, h2, h3, h4]
 exact h
/-- Segments, one after the other. -/
theorem segs_ok {lo po : Nat} : ∀ (k : Nat) {c : C}, Ok lo po c → Nm c.t → Ok lo po (segs k c) ∧ Nm (segs k c).t ∧ (segs k c).t = { c.t with nx := (segs k c).t.nx } := by
 intro k
 induction k with
 | zero => intro c h hn; exact ⟨h, hn, rfl⟩
 | succ k ih =>
   intro c h hn
   rw [segs_succ]
   by_cases hr : room1 c.t ≤ 0
   · rw [if_pos hr]; exact ⟨h, hn, rfl⟩
   · rw [if_neg hr]
     have hr1 : room1 c.t ≤ 64 ∧ room1 c.t ≤ c.t.data.length - own c.t ∧ room1 c.t ≤ c.t.wnd - flight c.t := by
       unfold room1; omega
     have hdl := h.rng.dl
     obtain ⟨n1, n2⟩ := hn
     have hfl : 0 ≤ flight c.t ∧ flight c.t ≤ 257 := by
       have e1 : own c.t ≤ flight c.t ∧ flight c.t ≤ own c.t + 1 := by unfold own; split <;> omega
       omega
     have hf : flight { c.t with nx := u32 (c.t.nx + (room1 c.t).toNat) } = flight c.t + (room1 c.t).toNat := by
       have h4 := dif_add (a := c.t.nx) (b := c.t.una) (n := (room1 c.t).toNat) hfl.1 (by unfold flight at *; omega)
       exact h4
     have hnm : Nm { c.t with nx := u32 (c.t.nx + (room1 c.t).toNat) } := by
       unfold Nm own at *
       rw [hf]
       show 0 ≤ (if c.t.se = true ∧ _ then _ else _) ∧ (if c.t.se = true ∧ _ then _ else _) ≤ ((c.t.data.length : Nat) : Int)
       by_cases hs : c.t.se = true
       · rw [if_pos ⟨hs, by omega⟩]
         by_cases h0 : 0 < flight c.t
         · rw [if_pos ⟨hs, h0⟩] at n1 n2 hr1
           omega
         · rw [if_neg (fun h => h0 h.2)] at n1 n2 hr1
           omega
       · rw [if_neg (fun h => hs h.1)]
         rw [if_neg (fun h => hs h.1)] at n1 n2 hr1
         omega
     have hok : Ok lo po { t := { c.t with nx := u32 (c.t.nx + (room1 c.t).toNat) }, out := c.out ++ [Tp.seg c.t 24 c.t.nx ((c.t.data.drop (own c.t).toNat).take (room1 c.t).toNat)] } := by
       have h9 := h.send (fl := 24) (seq := c.t.nx) (data := (c.t.data.drop (own c.t).toNat).take (room1 c.t).toNat) (by decide) (by rw [List.length_take]; omega)
       exact ⟨{ h.rng with }, h.elo, h.epo, h9.out⟩
     obtain ⟨k1, k2, k3⟩ := ih hok hnm
     exact ⟨k1, k2, by rw [k3]⟩
theorem Nm.fl (h : Nm t) (hd : t.data.length ≤ 256) : own t ≤ flight t ∧ flight t ≤ own t + 1 ∧ -1 ≤ flight t ∧ flight t ≤ 257 := by
 obtain ⟨h1, h2⟩ := h
 have e1 : own t ≤ flight t ∧ flight t ≤ own t + 1 := by unfold own; split <;> omega
 omega
/-- The end goes, where all bytes went. -/
theorem fin_ok {lo po : Nat} {c : C} (h : Ok lo po c) (hn : Nm c.t) : Ok lo po (fin1 c) ∧ Nm (fin1 c).t ∧ (fin1 c).t.st = c.t.st := by
 unfold fin1
 split
 · rename_i hq
   obtain ⟨q1, q2, q3⟩ := hq
   have hf := hn.fl h.rng.dl
   have hdl := h.rng.dl
   have ho : own c.t = flight c.t := own_noSe q3
   obtain ⟨n1, n2⟩ := hn
   have h4 := dif_add (a := c.t.nx) (b := c.t.una) (n := 1) (by have := n1; rw [ho] at this; exact this) (by unfold flight at *; omega)
   have h9 := h.send (fl := 17) (seq := c.t.nx) (data := []) (by decide) (Nat.zero_le _)
   refine ⟨⟨{ h.rng with se := fun _ => q2 }, h.elo, h.epo, h9.out⟩, ?_, rfl⟩
   unfold Nm own
   show 0 ≤ (if true = true ∧ 0 < dif (u32 (c.t.nx + 1)) c.t.una then dif (u32 (c.t.nx + 1)) c.t.una - 1 else dif (u32 (c.t.nx + 1)) c.t.una) ∧ (if true = true ∧ 0 < dif (u32 (c.t.nx + 1)) c.t.una then dif (u32 (c.t.nx + 1)) c.t.una - 1 else dif (u32 (c.t.nx + 1)) c.t.una) ≤ ((c.t.data.length : Nat) : Int)
   rw [h4]
   rw [ho] at n1 n2
   unfold flight at n1 n2
   rw [if_pos ⟨rfl, by omega⟩]
   omega
 · exact ⟨h, hn, rfl⟩
theorem flushT_ok {lo po : Nat} {c : C} (h : Ok lo po c) (hn : Nm c.t) (now : Nat) (left : Bool) : Ok lo po (flushT now left c) ∧ Nm (flushT now left c).t ∧ (flushT now left c).t.st = c.t.st := by
 unfold flushT
 split
 · exact ⟨h.wait _ _, hn.keep rfl rfl rfl rfl, rfl⟩
 · exact ⟨h, hn, rfl⟩
theorem flush_ok {lo po : Nat} {c : C} (h : Ok lo po c) (hn : Nm c.t) (now : Nat) : Ok lo po (flush now c) ∧ Nm (flush now c).t ∧ (flush now c).t.st = c.t.st := by
 unfold flush
 split
 · exact ⟨h, hn, rfl⟩
 · obtain ⟨k1, k2, k3⟩ := segs_ok 257 h hn
   obtain ⟨f1, f2, f3⟩ := fin_ok k1 k2
   obtain ⟨g1, g2, g3⟩ := flushT_ok f1 f2 now (decide (own (segs 257 c).t < (segs 257 c).t.data.length))
   exact ⟨g1, g2, g3.trans (f3.trans (by rw [k3]))⟩
/-- What a call leaves: a connection that may be, segments that may be. -/
def Kept (lo po : Nat) (c : C) : Prop := Ok lo po c ∧ numbers c.t = true
theorem kept_of {lo po : Nat} {c : C} (h : Ok lo po c) (hn : Nm c.t) (hs : 3 ≤ c.t.st) : Kept lo po c := ⟨h, (numbers_nm hs).2 hn⟩
theorem start (h : chkT t = true) : Kept t.lo t.po ⟨t, []⟩ := by
 obtain ⟨h1, h2⟩ := chkT_iff.1 h
 exact ⟨⟨h1, rfl, rfl, fun g hg => (List.not_mem_nil hg).elim⟩, h2⟩
theorem Kept.chk {lo po : Nat} {c : C} (h : Kept lo po c) : chkT c.t = true := chkT_iff.2 ⟨h.1.rng, h.2⟩
theorem begun_num (h : numbers t = true) (hs : t.st = 1 ∨ t.st = 2) : t.una = t.iss ∧ t.nx = u32 (t.iss + 1) ∧ t.data = [] ∧ t.en = false := by
 unfold numbers at h
 rw [if_neg (by omega), if_pos hs] at h
 simp only [Bool.and_eq_true, beq_iff_eq, List.isEmpty_iff, Bool.not_eq_true'] at h
 exact ⟨h.1.1.1, h.1.1.2, h.1.2, h.2⟩
theorem begun_numbers (hs : t.st = 1 ∨ t.st = 2) (h1 : t.una = t.iss) (h2 : t.nx = u32 (t.iss + 1)) (h3 : t.data = []) (h4 : t.en = false) : numbers t = true := by
 unfold numbers
 rw [if_neg (by omega), if_pos hs, h1, h2, h3, h4]
 simp
end Go.Proofs.Tp
end

section
/-
 A connection stays one that may be, whatever comes (layer 26), in plain words. No program in sight.
-/
namespace Go.Proofs.Tp
open Go.Proofs.Wi
variable {t : T} {g : G}
theorem chk_empty (n : Nat) (b : List Nat) (h : b.length ≤ 256) : chk ⟨n, b, []⟩ = true := by
 unfold chk
 rw [if_neg (by show ¬ 256 < b.length; omega)]
 rfl
theorem dif_self (a : Nat) : dif a a = 0 := by
 unfold dif
 rw [Int.sub_self]
 simp
theorem answered_kept (h : chkT t = true) (hs : t.st = 1) (now : Nat) (hg : chkG g = true) : Kept t.lo t.po (answered now g ⟨t, []⟩) := by
 obtain ⟨ho, hn⟩ := start h
 have hgw : g.wnd ≤ 65535 := by
   unfold chkG at hg
   rw [decide_eq_true_eq] at hg
   exact hg.2.2.2.2.2.1
 obtain ⟨b1, b2, b3, b4⟩ := begun_num (t := t) hn (.inl hs)
 unfold answered
 split
 · split
   · exact ⟨ho, hn⟩
   · exact ⟨ho.send (by decide) (Nat.zero_le _), hn⟩
 · rename_i q1
   split
   · split
     · exact ⟨ho.over (by decide), over_num _ _⟩
     · exact ⟨ho, hn⟩
   · split
     · exact ⟨ho, hn⟩
     · have hr : Rng { t with inn := ⟨u32 (g.seq + 1), [], []⟩, wnd := g.wnd } := { ho.rng with wnd := hgw, inn := chk_empty _ _ (Nat.zero_le _) }
       have ho1 : Ok t.lo t.po ⟨{ t with inn := ⟨u32 (g.seq + 1), [], []⟩, wnd := g.wnd }, []⟩ := ho.turn hr rfl rfl
       show Kept _ _ (if has g.fl 16 = false then _ else _)
       split
       · refine ⟨((ho1.turn (t := { t with inn := ⟨u32 (g.seq + 1), [], []⟩, wnd := g.wnd, st := 2 }) { hr with st := by show 2 ≤ 9; decide } rfl rfl).wait now t.rto).send (fl := 18) (seq := t.una) (data := []) (by decide) (Nat.zero_le _), ?_⟩
         exact begun_numbers (.inr rfl) b1 b2 b3 b4
       · rename_i q4
         have hack : g.ack = t.nx := by
           by_cases e : g.ack = t.nx
           · exact e
           · exact absurd ⟨by simpa using q4, e⟩ q1
         refine ⟨(ho1.turn (t := { t with inn := ⟨u32 (g.seq + 1), [], []⟩, wnd := g.wnd, una := g.ack, st := 3 }) { hr with st := by show 3 ≤ 9; decide } rfl rfl).fresh.ack, ?_⟩
         refine (numbers_nm (by show 3 ≤ 3; decide)).2 ?_
         unfold Nm own flight
         show 0 ≤ (if t.se = true ∧ 0 < dif t.nx g.ack then dif t.nx g.ack - 1 else dif t.nx g.ack) ∧ (if t.se = true ∧ 0 < dif t.nx g.ack then dif t.nx g.ack - 1 else dif t.nx g.ack) ≤ ((t.data.length : Nat) : Int)
         rw [hack, dif_self, if_neg (by intro h; omega)]
         omega
theorem joined_kept {lo po : Nat} {c : C} (h : Kept lo po c) (hs : c.t.st = 2) (hg : chkG g = true) : Kept lo po (joined g c).1 ∧ ((joined g c).2 = true → 3 ≤ (joined g c).1.t.st) := by
 obtain ⟨ho, hn⟩ := h
 have hgw : g.wnd ≤ 65535 := by
   unfold chkG at hg
   rw [decide_eq_true_eq] at hg
   exact hg.2.2.2.2.2.1
 unfold joined
 split
 · exact ⟨⟨ho.send (by decide) (Nat.zero_le _), hn⟩, fun h => by cases h⟩
 · rename_i e
   have e : g.ack = c.t.nx := Classical.not_not.1 e
   refine ⟨⟨(ho.turn (t := { c.t with st := 3, una := g.ack, wnd := g.wnd }) { ho.rng with st := by show 3 ≤ 9; decide, wnd := hgw } rfl rfl).fresh, ?_⟩, fun _ => Nat.le_refl 3⟩
   refine (numbers_nm (by show 3 ≤ 3; decide)).2 ?_
   unfold Nm own flight
   show 0 ≤ (if c.t.se = true ∧ 0 < dif c.t.nx g.ack then dif c.t.nx g.ack - 1 else dif c.t.nx g.ack) ∧ (if c.t.se = true ∧ 0 < dif c.t.nx g.ack then dif c.t.nx g.ack - 1 else dif c.t.nx g.ack) ≤ ((c.t.data.length : Nat) : Int)
   rw [e, dif_self, if_neg (by intro h; omega)]
   omega
theorem dif_sub {a b n : Nat} (h : (n : Int) ≤ dif a b) : dif a (u32 (b + n)) = dif a b - n := by
 unfold dif u32 at *
 split at h <;> split <;> omega
theorem goneEnd_kept {lo po : Nat} {c : C} (h : Ok lo po c) (hs : 3 ≤ c.t.st) (hf : flight c.t = 0) (h0 : c.t.tm = 0) (now : Nat) : Kept lo po (goneEnd now c).1 ∧ ((goneEnd now c).2 = true → 3 ≤ (goneEnd now c).1.t.st) := by
 have hNm : Nm c.t := by
   unfold Nm own
   rw [hf, if_neg (by intro h; omega)]
   omega
 unfold goneEnd
 split
 · exact ⟨kept_of (h.turn { h.rng with st := by show 5 ≤ 9; decide } rfl rfl) (hNm.keep rfl rfl rfl rfl) (by show 3 ≤ 5; decide), fun _ => by show 3 ≤ 5; decide⟩
 · split
   · exact ⟨kept_of (h.rest now) (hNm.keep rfl rfl rfl rfl) (by show 3 ≤ 9; decide), fun _ => by show 3 ≤ 9; decide⟩
   · split
     · refine ⟨⟨h.turn { h.rng with st := Nat.zero_le _ } rfl rfl, ?_⟩, fun h => by cases h⟩
       unfold numbers
       rw [if_pos rfl]
       show (c.t.tm == 0) = true
       rw [h0]; rfl
     · exact ⟨kept_of h hNm hs, fun _ => hs⟩
theorem gone_kept {lo po : Nat} {c : C} (h : Kept lo po c) (hs : 3 ≤ c.t.st) {n : Nat} (hn0 : 0 < n) (hnf : (n : Int) ≤ flight c.t) (now : Nat) : Kept lo po (gone now n c).1 ∧ ((gone now n c).2 = true → 3 ≤ (gone now n c).1.t.st) := by
 obtain ⟨ho, hn⟩ := h
 obtain ⟨n1, n2⟩ := (numbers_nm hs).1 hn
 have hdl := ho.rng.dl
 have ho1 : Ok lo po (gone1 n c) := (ho.turn (t := { c.t with una := u32 (c.t.una + goneM n c), data := c.t.data.drop (goneM n c) }) { ho.rng with dl := by show (c.t.data.drop _).length ≤ 256; rw [List.length_drop]; omega } rfl rfl).fresh
 unfold gone
 by_cases he : goneE n c = true
 · rw [if_neg (by rw [he]; simp)]
   have he2 := he
   unfold goneE at he2
   simp only [Bool.and_eq_true, beq_iff_eq] at he2
   obtain ⟨hse, hfl⟩ := he2
   have hm : goneM n c = n - 1 := by unfold goneM; rw [he]; rfl
   refine goneEnd_kept (ho1.turn (t := { (gone1 n c).t with una := u32 ((gone1 n c).t.una + 1) }) { ho1.rng with } rfl rfl) hs ?_ rfl now
   show dif c.t.nx (u32 (u32 (c.t.una + goneM n c) + 1)) = 0
   have e1 : u32 (u32 (c.t.una + goneM n c) + 1) = u32 (c.t.una + n) := by rw [hm]; unfold u32; omega
   rw [e1, dif_sub (by unfold flight at hnf; exact hnf)]
   unfold flight at hfl; omega
 · have he' : goneE n c = false := by simpa using he
   rw [if_pos he']
   have hm : goneM n c = n := by unfold goneM; rw [he']; rfl
   refine ⟨kept_of ho1 ?_ hs, fun _ => hs⟩
   have hz : dif c.t.nx (u32 (c.t.una + n)) = flight c.t - n := dif_sub hnf
   unfold Nm own flight
   show 0 ≤ (if c.t.se = true ∧ 0 < dif c.t.nx (u32 (c.t.una + goneM n c)) then dif c.t.nx (u32 (c.t.una + goneM n c)) - 1 else dif c.t.nx (u32 (c.t.una + goneM n c))) ∧ (if c.t.se = true ∧ 0 < dif c.t.nx (u32 (c.t.una + goneM n c)) then dif c.t.nx (u32 (c.t.una + goneM n c)) - 1 else dif c.t.nx (u32 (c.t.una + goneM n c))) ≤ (((c.t.data.drop (goneM n c)).length : Nat) : Int)
   rw [hm, hz, List.length_drop]
   unfold own at n1 n2
   by_cases hse : c.t.se = true
   · have hne : (n : Int) ≠ flight c.t := by
       intro e
       unfold goneE at he'
       rw [hse, Bool.true_and] at he'
       exact absurd e (by simpa using he')
     rw [if_pos ⟨hse, by omega⟩] at n1 n2
     rw [if_pos ⟨hse, by omega⟩]
     omega
   · rw [if_neg (fun h => hse h.1)] at n1 n2
     rw [if_neg (fun h => hse h.1)]
     omega
theorem acked_kept {lo po : Nat} {c : C} (h : Kept lo po c) (hs : 2 ≤ c.t.st) (hg : chkG g = true) (now : Nat) : Kept lo po (acked now g c).1 ∧ ((acked now g c).2 = true → 3 ≤ (acked now g c).1.t.st) := by
 unfold acked
 by_cases s2 : c.t.st = 2
 · rw [if_pos s2]; exact joined_kept h s2 hg
 · rw [if_neg s2]
   have h3 : 3 ≤ c.t.st := by omega
   have hgw : g.wnd ≤ 65535 := by
     unfold chkG at hg
     rw [decide_eq_true_eq] at hg
     exact hg.2.2.2.2.2.1
   obtain ⟨ho, hn⟩ := h
   split
   · exact ⟨⟨ho.ack, hn⟩, fun h => by cases h⟩
   · rename_i q1
     split
     · exact ⟨⟨ho, hn⟩, fun _ => h3⟩
     · rename_i q2
       have hm := (numbers_nm h3).1 hn
       have ho1 : Ok lo po { c with t := { c.t with wnd := g.wnd } } := ho.turn { ho.rng with wnd := hgw } rfl rfl
       have hk1 : Kept lo po { c with t := { c.t with wnd := g.wnd } } := kept_of ho1 (hm.keep rfl rfl rfl rfl) h3
       show Kept lo po (if 0 < dif g.ack c.t.una then _ else _ : C × Bool).1 ∧ ((if 0 < dif g.ack c.t.una then _ else _ : C × Bool).2 = true → 3 ≤ (if 0 < dif g.ack c.t.una then _ else _ : C × Bool).1.t.st)
       split
       · exact gone_kept hk1 h3 (by omega) (by show (((dif g.ack c.t.una).toNat : Nat) : Int) ≤ flight c.t; omega) now
       · split
         · exact ⟨kept_of (ho1.turn (t := { c.t with wnd := g.wnd, tr := 0 }) { ho1.rng with tr := Nat.zero_le _ } rfl rfl) (hm.keep rfl rfl rfl rfl) h3, fun _ => h3⟩
         · exact ⟨hk1, fun _ => h3⟩
theorem took_chk {s s' : St} {seq : Nat} {data : List Nat} (h : Took1 s seq data s') (hc : chk s = true) : chk s' = true := by
 obtain ⟨b, r, ht, rfl⟩ := h
 exact (out_ok hc ht).1
theorem ended_kept {lo po : Nat} {c : C} (h : Ok lo po c) (hm : Nm c.t) (hs : 3 ≤ c.t.st) (now : Nat) : Ok lo po (ended now c) ∧ Nm (ended now c).t ∧ 3 ≤ (ended now c).t.st := by
 have hb := (room_nn h.rng.inn).2.2
 have ho1 : Ok lo po { c with t := { c.t with inn := ⟨u32 (c.t.inn.next + 1), c.t.inn.bytes, []⟩, ed := true } } := h.turn { h.rng with inn := chk_empty _ _ hb } rfl rfl
 have hm1 : ∀ st tm, Nm { c.t with inn := ⟨u32 (c.t.inn.next + 1), c.t.inn.bytes, []⟩, ed := true, st := st, tm := tm } := fun _ _ => hm.keep rfl rfl rfl rfl
 unfold ended
 show Ok lo po (if c.t.st = 3 then _ else _) ∧ Nm (if c.t.st = 3 then _ else _ : C).t ∧ 3 ≤ (if c.t.st = 3 then _ else _ : C).t.st
 split
 · exact ⟨ho1.turn (t := { c.t with inn := ⟨u32 (c.t.inn.next + 1), c.t.inn.bytes, []⟩, ed := true, st := 6 }) { ho1.rng with st := by show 6 ≤ 9; decide } rfl rfl, hm1 6 c.t.tm, by show 3 ≤ 6; decide⟩
 · show Ok lo po (if c.t.st = 4 then _ else _) ∧ Nm (if c.t.st = 4 then _ else _ : C).t ∧ 3 ≤ (if c.t.st = 4 then _ else _ : C).t.st
   split
   · exact ⟨ho1.turn (t := { c.t with inn := ⟨u32 (c.t.inn.next + 1), c.t.inn.bytes, []⟩, ed := true, st := 7 }) { ho1.rng with st := by show 7 ≤ 9; decide } rfl rfl, hm1 7 c.t.tm, by show 3 ≤ 7; decide⟩
   · show Ok lo po (if c.t.st = 5 then _ else _) ∧ Nm (if c.t.st = 5 then _ else _ : C).t ∧ 3 ≤ (if c.t.st = 5 then _ else _ : C).t.st
     split
     · exact ⟨ho1.rest now, hm1 9 _, by show 3 ≤ 9; decide⟩
     · exact ⟨ho1, hm1 c.t.st c.t.tm, hs⟩
theorem carried_kept {lo po : Nat} {c c' : C} (h : Ok lo po c) (hm : Nm c.t) (hs : 3 ≤ c.t.st) {now : Nat} (hc : Carried now g c c') : Ok lo po c' ∧ Nm c'.t ∧ 3 ≤ c'.t.st := by
 obtain ⟨s', h1, rfl⟩ := hc
 have hck : chk s' = true := by
   split at h1
   · exact took_chk h1 h.rng.inn
   · rw [h1]; exact h.rng.inn
 have ho1 : Ok lo po { c with t := { c.t with inn := s' } } := h.turn { h.rng with inn := hck } rfl rfl
 have hm1 : Nm { c.t with inn := s' } := hm.keep rfl rfl rfl rfl
 show Ok lo po (if has g.fl 1 = false then _ else _) ∧ Nm (if has g.fl 1 = false then _ else _ : C).t ∧ 3 ≤ (if has g.fl 1 = false then _ else _ : C).t.st
 split
 · exact ⟨ho1, hm1, hs⟩
 · split
   · exact ⟨ho1.wait _ _, hm1.keep rfl rfl rfl rfl, hs⟩
   · split
     · exact ended_kept ho1 hm1 hs now
     · exact ⟨ho1, hm1, hs⟩
theorem taken_kept {lo po : Nat} {c c' : C} (h : Kept lo po c) (hs : 2 ≤ c.t.st) {now : Nat} (hg : chkG g = true) (ht : Taken now g c c') : Kept lo po c' := by
 obtain ⟨ho, hn⟩ := h
 unfold Taken at ht
 split at ht
 · subst ht; exact ⟨ho.send (by decide) (Nat.zero_le _), hn⟩
 · split at ht
   · subst ht
     split
     · exact ⟨ho, hn⟩
     · split
       · rename_i q
         have h3 : 3 ≤ c.t.st := by have := q.1; omega
         exact ⟨(ho.wait _ _).ack, (numbers_nm (t := (Tp.wait now 32 c).t) h3).2 (((numbers_nm h3).1 hn).keep rfl rfl rfl rfl)⟩
       · exact ⟨ho.ack, hn⟩
   · split at ht
     · subst ht; exact ⟨ho.over (by decide), over_num _ _⟩
     · split at ht
       · subst ht; exact ⟨ho.ack, hn⟩
       · split at ht
         · subst ht; exact ⟨ho, hn⟩
         · obtain ⟨ka, kb⟩ := acked_kept ⟨ho, hn⟩ hs hg now
           split at ht
           · subst ht; exact ka
           · rename_i q
             obtain ⟨c1, hc1, rfl⟩ := ht
             have h3 := kb (by simpa using q)
             obtain ⟨o1, m1, s1⟩ := carried_kept ka.1 ((numbers_nm h3).1 ka.2) h3 hc1
             obtain ⟨f1, f2, f3⟩ := flush_ok o1 m1 now
             unfold lastAck
             split
             · exact kept_of f1.ack f2 (by show 3 ≤ (flush now c1).t.st; rw [f3]; exact s1)
             · exact kept_of f1 f2 (by rw [f3]; exact s1)
/-- Whatever comes. -/
theorem take_kept (h : chkT t = true) {now : Nat} {c' : C} (ht : Take now g t c') : Kept t.lo t.po c' := by
 unfold Take at ht
 split at ht
 · subst ht; exact start h
 · rename_i q
   simp only [not_or] at q
   have hg : chkG g = true := by simpa using q.1
   split at ht
   · rename_i s1
     subst ht; exact answered_kept h s1 now hg
   · rename_i s1
     exact taken_kept (start h) (by have := q.2.2.2; show 2 ≤ t.st; omega) hg ht
theorem read_kept (h : chkT t = true) (n : Int) : Kept t.lo t.po (read n t).1 := by
 obtain ⟨ho, hn⟩ := start h
 have hck : chk ⟨t.inn.next, t.inn.bytes.drop (clampT n t.inn.bytes.length), t.inn.ps⟩ = true := by
   have hc : chk t.inn = true := ho.rng.inn
   obtain ⟨s1, s2, s3, s4⟩ := chk_spans hc
   unfold chk
   simp only [List.length_drop]
   rw [if_neg (by omega)]
   refine (chkL_sep (Int.le_refl 0)).2 ⟨s1, fun x hx => ?_⟩
   have := s2 x hx
   omega
 have ho1 : Ok t.lo t.po ⟨{ t with inn := ⟨t.inn.next, t.inn.bytes.drop (clampT n t.inn.bytes.length), t.inn.ps⟩ }, []⟩ := ho.turn { ho.rng with inn := hck } rfl rfl
 have hn1 : numbers { t with inn := ⟨t.inn.next, t.inn.bytes.drop (clampT n t.inn.bytes.length), t.inn.ps⟩ } = true := hn
 unfold read
 show Kept t.lo t.po (if _ then _ else _)
 split
 · exact ⟨ho1.ack, hn1⟩
 · exact ⟨ho1, hn1⟩
end Go.Proofs.Tp
end

section
/-
 What is read is a beginning of the stream (layer 26), in plain words. No program in sight.
-/
namespace Go.Proofs.Tp
open Go.Proofs.Wi
theorem segs_t : ∀ (k : Nat) (c : C), (segs k c).t = { c.t with nx := (segs k c).t.nx } := by
 intro k
 induction k with
 | zero => intro c; rfl
 | succ k ih =>
   intro c
   rw [segs_succ]
   split
   · rfl
   · rw [ih]
theorem fin_inn (c : C) : (fin1 c).t.inn = c.t.inn ∧ (fin1 c).t.st = c.t.st := by
 unfold fin1
 split <;> exact ⟨rfl, rfl⟩
theorem flushT_inn (now : Nat) (l : Bool) (c : C) : (flushT now l c).t.inn = c.t.inn ∧ (flushT now l c).t.st = c.t.st := by
 unfold flushT
 split <;> exact ⟨rfl, rfl⟩
theorem flush_inn (now : Nat) (c : C) : (flush now c).t.inn = c.t.inn ∧ (flush now c).t.st = c.t.st := by
 unfold flush
 split
 · exact ⟨rfl, rfl⟩
 · have h1 := flushT_inn now (decide (own (segs 257 c).t < (segs 257 c).t.data.length)) (fin1 (segs 257 c))
   have h2 := fin_inn (segs 257 c)
   have h3 := segs_t 257 c
   exact ⟨h1.1.trans (h2.1.trans (by rw [h3])), h1.2.trans (h2.2.trans (by rw [h3]))⟩
theorem goneEnd_inn (now : Nat) (c : C) : (goneEnd now c).1.t.inn = c.t.inn ∧ (openS (goneEnd now c).1.t = true → openS c.t = true) := by
 unfold goneEnd
 split
 · rename_i h; exact ⟨rfl, fun _ => by unfold openS; rw [h]; rfl⟩
 · split
   · exact ⟨rfl, fun h => by cases h⟩
   · split
     · exact ⟨rfl, fun h => by cases h⟩
     · exact ⟨rfl, fun h => h⟩
theorem gone_inn (now n : Nat) (c : C) : (gone now n c).1.t.inn = c.t.inn ∧ (openS (gone now n c).1.t = true → openS c.t = true) := by
 unfold gone
 split
 · exact ⟨rfl, fun h => h⟩
 · exact goneEnd_inn now (gone2 n c)
theorem acked_inn (now : Nat) (g : G) {c : C} (hs : c.t.st ≠ 2) : (acked now g c).1.t.inn = c.t.inn ∧ (openS (acked now g c).1.t = true → openS c.t = true) := by
 unfold acked
 rw [if_neg hs]
 split
 · exact ⟨rfl, fun h => h⟩
 · split
   · exact ⟨rfl, fun h => h⟩
   · show (if 0 < dif g.ack c.t.una then _ else _ : C × Bool).1.t.inn = _ ∧ (openS (if 0 < dif g.ack c.t.una then _ else _ : C × Bool).1.t = true → _)
     split
     · exact gone_inn now _ { c with t := { c.t with wnd := g.wnd } }
     · split <;> exact ⟨rfl, fun h => h⟩
/-- What came out so far is a beginning of the stream; while bytes may come, the rest agrees with it. -/
structure Pre (all : List Nat) (next : Nat) (t : T) (out : List Nat) : Prop where
 ck : chkT t = true
 st : t.st = 0 ∨ 3 ≤ t.st
 got : ∃ p, p ≤ all.length ∧ out ++ t.inn.bytes = all.take p ∧ (openS t = true → Agr all next t.inn p)
theorem Pre.read {all out : List Nat} {next : Nat} {t : T} (h : Pre all next t out) (n : Int) : Pre all next (Tp.read n t).1.t (out ++ (Tp.read n t).2) := by
 have hk := (read_kept h.ck n).chk
 have ht : (Tp.read n t).1.t = { t with inn := ⟨t.inn.next, t.inn.bytes.drop (clampT n t.inn.bytes.length), t.inn.ps⟩ } := by
   unfold Tp.read
   show (if _ then _ else _ : C).t = _
   split <;> rfl
 refine ⟨hk, by rw [ht]; exact h.st, ?_⟩
 obtain ⟨p, hp, hg, ha⟩ := h.got
 refine ⟨p, hp, ?_, ?_⟩
 · rw [ht]
   show out ++ t.inn.bytes.take _ ++ t.inn.bytes.drop _ = _
   rw [List.append_assoc, List.take_append_drop]; exact hg
 · rw [ht]
   intro ho
   exact (ha ho).read _
theorem take_app {all : List Nat} {p m : Nat} : all.take p ++ (all.drop p).take m = all.take (p + m) := by
 rw [List.take_add]
theorem Pre.carried {all out : List Nat} {next : Nat} {c c' : C} (hall : all.length ≤ 1000) {p : Nat} (hp : p ≤ all.length) (hg : out ++ c.t.inn.bytes = all.take p) (ha : openS c.t = true → Agr all next c.t.inn p) {now : Nat} {g : G} {fr n : Nat} (hf : fr + n ≤ all.length) (hseq : g.seq = (next + fr) % 4294967296) (hd : g.data = (all.drop fr).take n) (hc : Carried now g c c') :
   ∃ p', p' ≤ all.length ∧ out ++ c'.t.inn.bytes = all.take p' ∧ (openS c'.t = true → Agr all next c'.t.inn p') := by
 obtain ⟨s', h1, rfl⟩ := hc
 -- the stream behind the bytes
 have hs : ∃ p', p' ≤ all.length ∧ out ++ s'.bytes = all.take p' ∧ (openS c.t = true → Agr all next s' p') := by
   split at h1
   · rename_i ho
     obtain ⟨b, r, ht, rfl⟩ := h1
     rw [hseq, hd] at ht
     obtain ⟨k1, k2, _, _⟩ := (ha ho.1).take hall hf ht
     refine ⟨p + b.length, k1.pos, ?_, fun _ => k1⟩
     show out ++ (c.t.inn.bytes ++ b) = _
     rw [← List.append_assoc, hg]
     conv => lhs; rw [k2]
     exact take_app
   · rw [h1]; exact ⟨p, hp, hg, ha⟩
 obtain ⟨p', g1, g2, g3⟩ := hs
 refine ⟨p', g1, ?_⟩
 show out ++ (if has g.fl 1 = false then _ else _ : C).t.inn.bytes = _ ∧ (openS (if has g.fl 1 = false then _ else _ : C).t = true → Agr all next (if has g.fl 1 = false then _ else _ : C).t.inn p')
 split
 · exact ⟨g2, g3⟩
 · split
   · exact ⟨g2, g3⟩
   · split
     · rename_i q
       unfold ended
       show out ++ (if c.t.st = 3 then _ else _ : C).t.inn.bytes = _ ∧ (openS (if c.t.st = 3 then _ else _ : C).t = true → Agr all next (if c.t.st = 3 then _ else _ : C).t.inn p')
       split
       · exact ⟨g2, fun h => by cases h⟩
       · rename_i s3
         show out ++ (if c.t.st = 4 then _ else _ : C).t.inn.bytes = _ ∧ (openS (if c.t.st = 4 then _ else _ : C).t = true → Agr all next (if c.t.st = 4 then _ else _ : C).t.inn p')
         split
         · exact ⟨g2, fun h => by cases h⟩
         · rename_i s4
           show out ++ (if c.t.st = 5 then _ else _ : C).t.inn.bytes = _ ∧ (openS (if c.t.st = 5 then _ else _ : C).t = true → Agr all next (if c.t.st = 5 then _ else _ : C).t.inn p')
           split
           · exact ⟨g2, fun h => by cases h⟩
           · rename_i s5
             refine ⟨g2, fun h => ?_⟩
             have : openS c.t = true := h
             unfold openS at this
             simp only [Bool.or_eq_true, beq_iff_eq] at this
             omega
     · exact ⟨g2, g3⟩
theorem Pre.take {all out : List Nat} {next : Nat} {t : T} (h : Pre all next t out) (hall : all.length ≤ 1000) {now : Nat} {g : G} {fr n : Nat} (hf : fr + n ≤ all.length) (hseq : g.seq = (next + fr) % 4294967296) (hd : g.data = (all.drop fr).take n) {c' : C} (ht : Take now g t c') : Pre all next c'.t out := by
 have hk := (take_kept h.ck ht).chk
 obtain ⟨p, hp, hg, ha⟩ := h.got
 have same : Pre all next t out := h
 unfold Take at ht
 split at ht
 · subst ht; exact same
 · rename_i q
   simp only [not_or] at q
   have h3 : 3 ≤ t.st := by have := h.st; have := q.2.2.2; omega
   rw [if_neg (by omega)] at ht
   have hst : c'.t.st = 0 ∨ 3 ≤ c'.t.st := by
     obtain ⟨_, hn⟩ := chkT_iff.1 hk
     have hgc : chkG g = true := by simpa using q.1
     clear hk hn
     unfold Taken at ht
     split at ht
     · subst ht; exact .inr h3
     · split at ht
       · subst ht
         split
         · exact .inr h3
         · split <;> exact .inr h3
       · split at ht
         · subst ht; exact .inl rfl
         · split at ht
           · subst ht; exact .inr h3
           · split at ht
             · subst ht; exact .inr h3
             · obtain ⟨ka, kb⟩ := acked_kept (start h.ck) (show 2 ≤ t.st by omega) hgc now
               split at ht
               · subst ht
                 -- not all goes on: the same, or closed
                 unfold acked
                 rw [if_neg (show ¬ t.st = 2 by omega)]
                 split
                 · exact .inr h3
                 · split
                   · exact .inr h3
                   · show (if 0 < dif g.ack t.una then _ else _ : C × Bool).1.t.st = 0 ∨ 3 ≤ (if 0 < dif g.ack t.una then _ else _ : C × Bool).1.t.st
                     split
                     · unfold gone
                       split
                       · exact .inr h3
                       · unfold goneEnd
                         split
                         · exact .inr (by show 3 ≤ 5; decide)
                         · split
                           · exact .inr (by show 3 ≤ 9; decide)
                           · split
                             · exact .inl rfl
                             · exact .inr h3
                     · split <;> exact .inr h3
               · rename_i qa
                 obtain ⟨c1, hc1, rfl⟩ := ht
                 have k3 := kb (by simpa using qa)
                 obtain ⟨_, _, s1⟩ := carried_kept ka.1 ((numbers_nm k3).1 ka.2) k3 hc1
                 have hfi := flush_inn now c1
                 unfold lastAck
                 split
                 · exact .inr (by show 3 ≤ (flush now c1).t.st; rw [hfi.2]; exact s1)
                 · exact .inr (by rw [hfi.2]; exact s1)
   refine ⟨hk, hst, ?_⟩
   clear hst
   unfold Taken at ht
   split at ht
   · subst ht; exact ⟨p, hp, hg, ha⟩
   · split at ht
     · subst ht
       split
       · exact ⟨p, hp, hg, ha⟩
       · split
         · exact ⟨p, hp, hg, ha⟩
         · exact ⟨p, hp, hg, ha⟩
     · split at ht
       · subst ht; exact ⟨p, hp, hg, fun h => by cases h⟩
       · split at ht
         · subst ht; exact ⟨p, hp, hg, ha⟩
         · split at ht
           · subst ht; exact ⟨p, hp, hg, ha⟩
           · have hai := acked_inn now g (c := ⟨t, []⟩) (show t.st ≠ 2 by omega)
             split at ht
             · subst ht
               refine ⟨p, hp, by rw [hai.1]; exact hg, fun ho => by rw [hai.1]; exact ha (hai.2 ho)⟩
             · obtain ⟨c1, hc1, rfl⟩ := ht
               obtain ⟨p', e1, e2, e3⟩ := Pre.carried hall hp (by rw [hai.1]; exact hg) (fun ho => by rw [hai.1]; exact ha (hai.2 ho)) hf hseq hd hc1
               have hfi := flush_inn now c1
               have hop : openS (flush now c1).t = openS c1.t := by unfold openS; rw [hfi.2]
               unfold lastAck
               split
               · exact ⟨p', e1, by show out ++ (flush now c1).t.inn.bytes = _; rw [hfi.1]; exact e2, fun ho => by
                   show Agr all next (flush now c1).t.inn p'
                   rw [hfi.1]; exact e3 (by rw [← hop]; exact ho)⟩
               · exact ⟨p', e1, by rw [hfi.1]; exact e2, fun ho => by rw [hfi.1]; exact e3 (by rw [← hop]; exact ho)⟩
end Go.Proofs.Tp
end

section
/-
 What is written comes, and is acknowledged, whatever is lost (layer 26), in plain words. No program in sight.
-/
namespace Go.Proofs.Tp
open Go.Proofs.Wi
/-- How long one waits behind so many tries. -/
def Rk (k : Nat) : Nat := min (4 * 2 ^ k) 64
def Bk : Nat → Nat
 | 0 => 0
 | k + 1 => Bk k + Rk k
theorem Rk_next (k : Nat) : min (2 * Rk k) 64 = Rk (k + 1) := by
 unfold Rk
 rw [Nat.pow_succ]
 omega
theorem Rk_rng (k : Nat) : 1 ≤ Rk k ∧ Rk k ≤ 64 := by
 unfold Rk
 have := Nat.pow_pos (n := k) (show 0 < 2 by decide)
 omega
theorem Bk_top {k : Nat} (h : k ≤ 9) : Bk k ≤ 380 := by
 match k, h with
 | 0, _ => decide
 | 1, _ => decide
 | 2, _ => decide
 | 3, _ => decide
 | 4, _ => decide
 | 5, _ => decide
 | 6, _ => decide
 | 7, _ => decide
 | 8, _ => decide
 | 9, _ => decide
 | k + 10, h => omega
/-- The one that wrote: u bytes of it are acknowledged. -/
def aT (iss irs : Nat) (data : List Nat) (u wnd now tr : Nat) : T := ⟨3, 7, 0, 80, iss, u32 (iss + 1 + u), u32 (iss + 1 + data.length), data.drop u, wnd, false, false, ⟨u32 (irs + 1), [], []⟩, false, if u < data.length then now + Rk tr else 0, Rk tr, tr, 0⟩
/-- The one that takes. -/
def bT (irs : Nat) (s : St) : T := ⟨3, 80, 0, 7, irs, u32 (irs + 1), u32 (irs + 1), [], 256, false, false, s, false, 0, 4, 0, 0⟩
def gA (iss irs : Nat) (data : List Nat) (off len : Nat) : G := ⟨7, 80, u32 (iss + 1 + off), u32 (irs + 1), 24, 256, (data.drop off).take len⟩
def gB (iss irs v w : Nat) : G := ⟨80, 7, u32 (irs + 1), u32 (iss + 1 + v), 16, w, []⟩
theorem dif_u (x a b : Nat) (ha : a ≤ 100000) (hb : b ≤ 100000) : dif (u32 (x + a)) (u32 (x + b)) = (a : Int) - b := by
 unfold dif u32
 split <;> omega
theorem dif_uu (x : Nat) : dif (u32 x) (u32 x) = 0 := dif_self _
theorem aT_flight {iss irs u wnd now tr : Nat} {data : List Nat} (hn : data.length ≤ 200) (hu : u ≤ data.length) : flight (aT iss irs data u wnd now tr) = (data.length : Int) - u := by
 show dif (u32 (iss + 1 + data.length)) (u32 (iss + 1 + u)) = _
 rw [dif_u _ _ _ (by omega) (by omega)]
theorem aT_own {iss irs u wnd now tr : Nat} {data : List Nat} (hn : data.length ≤ 200) (hu : u ≤ data.length) : own (aT iss irs data u wnd now tr) = (data.length : Int) - u := by
 rw [own_noSe rfl, aT_flight hn hu]
theorem aT_chk {iss irs u wnd now tr : Nat} {data : List Nat} (hn : data.length ≤ 200) (hu : u ≤ data.length) (hw : wnd ≤ 65535) (ht : tr ≤ 12) (hnow : now ≤ 1000000) : chkT (aT iss irs data u wnd now tr) = true := by
 refine chkT_iff.2 ⟨⟨by show 3 ≤ 9; decide, ⟨by show 1 ≤ 7; decide, by show 7 ≤ 65535; decide⟩, ⟨by show 1 ≤ 80; decide, by show 80 ≤ 65535; decide⟩, ?_, hw, (fun h => nomatch h), ?_, Rk_rng tr, ht, Nat.zero_le _, chk_empty _ _ (Nat.zero_le _)⟩, ?_⟩
 · show (data.drop u).length ≤ 256
   rw [List.length_drop]; omega
 · show (if u < data.length then now + Rk tr else 0) ≤ 1099511627776
   have := Rk_rng tr
   split <;> omega
 · refine (numbers_nm (by show 3 ≤ 3; decide)).2 ?_
   unfold Nm
   rw [aT_own hn hu]
   show 0 ≤ (data.length : Int) - u ∧ (data.length : Int) - u ≤ ((data.drop u).length : Nat)
   rw [List.length_drop]; omega
theorem bT_chk {irs : Nat} {s : St} (h : chk s = true) : chkT (bT irs s) = true := by
 refine chkT_iff.2 ⟨⟨by show 3 ≤ 9; decide, ⟨by show 1 ≤ 80; decide, by show 80 ≤ 65535; decide⟩, ⟨by show 1 ≤ 7; decide, by show 7 ≤ 65535; decide⟩, by show 0 ≤ 256; decide, by show 256 ≤ 65535; decide, (fun h => nomatch h), by show 0 ≤ 1099511627776; decide, ⟨by show 1 ≤ 4; decide, by show 4 ≤ 64; decide⟩, by show 0 ≤ 12; decide, Nat.zero_le _, h⟩, ?_⟩
 refine (numbers_nm (by show 3 ≤ 3; decide)).2 ?_
 unfold Nm
 rw [own_noSe rfl]
 show 0 ≤ dif (u32 (irs + 1)) (u32 (irs + 1)) ∧ dif (u32 (irs + 1)) (u32 (irs + 1)) ≤ 0
 rw [dif_uu]; decide
theorem later_small {now n : Nat} (h : now + n ≤ 1000000) : later now n = now + n := by
 unfold later; omega
/-- A timer comes. -/
theorem a_tick {iss irs u wnd now tr : Nat} {data : List Nat} (hall : data.length ≤ 200) (hu : u < data.length) (ht : tr < 12) (hn : now ≤ 900000) (hn0 : 1 ≤ now) :
   tick (now + Rk tr) ⟨aT iss irs data u wnd now tr, []⟩ = ⟨aT iss irs data u wnd (now + Rk tr) (tr + 1), [gA iss irs data u (min (data.length - u) 64)]⟩ := by
 have hR := Rk_rng tr
 have hR2 := Rk_rng (tr + 1)
 have etm : (aT iss irs data u wnd now tr).tm = now + Rk tr := by unfold aT; rw [if_pos hu]
 unfold tick
 show (if (aT iss irs data u wnd now tr).tm = 0 ∨ now + Rk tr < (aT iss irs data u wnd now tr).tm then _ else _) = _
 rw [etm, if_neg (by omega), if_neg (by show ¬ 3 = 9; decide), if_neg (by show ¬ tr = 12; omega)]
 show again ⟨⟨3, 7, 0, 80, iss, u32 (iss + 1 + u), u32 (iss + 1 + data.length), data.drop u, wnd, false, false, ⟨u32 (irs + 1), [], []⟩, false, later (now + Rk tr) (min (2 * Rk tr) 64), min (2 * Rk tr) 64, tr + 1, 0⟩, []⟩ = _
 rw [Rk_next, later_small (by omega)]
 have e0 : (⟨3, 7, 0, 80, iss, u32 (iss + 1 + u), u32 (iss + 1 + data.length), data.drop u, wnd, false, false, ⟨u32 (irs + 1), [], []⟩, false, now + Rk tr + Rk (tr + 1), Rk (tr + 1), tr + 1, 0⟩ : T) = aT iss irs data u wnd (now + Rk tr) (tr + 1) := by
   unfold aT; rw [if_pos hu]
 rw [e0]
 have e1 := aT_own (iss := iss) (irs := irs) (wnd := wnd) (now := now + Rk tr) (tr := tr + 1) hall (Nat.le_of_lt hu)
 unfold again
 rw [if_neg (by show ¬ 3 = 1; decide), if_neg (by show ¬ 3 = 2; decide)]
 show (if 0 < own (aT iss irs data u wnd (now + Rk tr) (tr + 1)) then send 24 (u32 (iss + 1 + u)) ((data.drop u).take (min (own (aT iss irs data u wnd (now + Rk tr) (tr + 1))).toNat 64)) _ else _) = _
 rw [e1, if_pos (by omega)]
 have e2 : ((data.length : Int) - u).toNat = data.length - u := by omega
 rw [e2]
 show (⟨aT iss irs data u wnd (now + Rk tr) (tr + 1), [⟨7, 80, u32 (iss + 1 + u), u32 (irs + 1), 24, (room ⟨u32 (irs + 1), [], []⟩).toNat, (data.drop u).take (min (data.length - u) 64)⟩]⟩ : C) = _
 have e3 : room ⟨u32 (irs + 1), [], []⟩ = 256 := by
   unfold room
   rw [chk_empty _ [] (Nat.zero_le _), if_pos rfl]; rfl
 rw [e3]; rfl
end Go.Proofs.Tp
end

section
/-
 What is written comes, and is acknowledged, whatever is lost (layer 26): what stands all along. No program in sight.
-/
namespace Go.Proofs.Tp
open Go.Proofs.Wi
/-- One of a pair, ahead of all. -/
def pT (own peer lo po : Nat) : T := ⟨3, lo, 0, po, own, u32 (own + 1), u32 (own + 1), [], 256, false, false, ⟨u32 (peer + 1), [], []⟩, false, 0, 4, 0, 0⟩
/-- So much of the bytes is sent. -/
def sT (own peer lo po : Nat) (data : List Nat) (m tm : Nat) : T := ⟨3, lo, 0, po, own, u32 (own + 1), u32 (own + 1 + m), data, 256, false, false, ⟨u32 (peer + 1), [], []⟩, false, tm, 4, 0, 0⟩
def gD (own peer lo po : Nat) (data : List Nat) (off len : Nat) : G := ⟨lo, po, u32 (own + 1 + off), u32 (peer + 1), 24, 256, (data.drop off).take len⟩
/-- The segments that bytes are cut to. -/
def cutD (own peer lo po : Nat) (data : List Nat) : Nat → Nat → List G
 | 0, _ => []
 | k + 1, m => if m < data.length then gD own peer lo po data m (min 64 (data.length - m)) :: cutD own peer lo po data k (m + min 64 (data.length - m)) else []
theorem sT_flight {own peer lo po m tm : Nat} {data : List Nat} (hm : m ≤ 200) : flight (sT own peer lo po data m tm) = m := by
 have h := dif_u (own + 1) m 0 (by omega) (by omega)
 show dif (u32 (own + 1 + m)) (u32 (own + 1)) = _
 simpa using h
theorem segs_cut {own peer lo po : Nat} {data : List Nat} (hall : data.length ≤ 200) : ∀ (k m : Nat) (out : List G), m ≤ data.length → data.length - m ≤ k → segs k ⟨sT own peer lo po data m 0, out⟩ = ⟨sT own peer lo po data data.length 0, out ++ cutD own peer lo po data k m⟩ := by
 intro k
 induction k with
 | zero =>
   intro m out h1 h2
   have : m = data.length := by omega
   subst this
   show (⟨_, out⟩ : C) = ⟨_, out ++ []⟩
   rw [List.append_nil]
 | succ k ih =>
   intro m out h1 h2
   have e1 : Tp.own (sT own peer lo po data m 0) = m := by rw [own_noSe rfl, sT_flight (by omega)]
   have e2 : room1 (sT own peer lo po data m 0) = ((min 64 (data.length - m) : Nat) : Int) := by
     unfold room1
     rw [e1, sT_flight (by omega)]
     show min (min 64 ((data.length : Int) - m)) (256 - (m : Int)) = _
     omega
   rw [segs_succ]
   show (if room1 (sT own peer lo po data m 0) ≤ 0 then _ else _) = _
   rw [e2]
   by_cases q : m < data.length
   · rw [if_neg (by omega)]
     have e3 : (room1 (sT own peer lo po data m 0)).toNat = min 64 (data.length - m) := by rw [e2]; omega
     have e4 : (Tp.own (sT own peer lo po data m 0)).toNat = m := by rw [e1]; omega
     have e5 : u32 ((sT own peer lo po data m 0).nx + min 64 (data.length - m)) = u32 (own + 1 + (m + min 64 (data.length - m))) := by
       show u32 (u32 (own + 1 + m) + _) = _
       unfold u32; omega
     have e6 : Tp.seg (sT own peer lo po data m 0) 24 (u32 (own + 1 + m)) ((data.drop m).take (min 64 (data.length - m))) = gD own peer lo po data m (min 64 (data.length - m)) := by
       have e3 : room ⟨u32 (peer + 1), [], []⟩ = 256 := by
         unfold room
         rw [chk_empty _ [] (Nat.zero_le _), if_pos rfl]; rfl
       show (⟨lo, po, u32 (own + 1 + m), u32 (peer + 1), 24, (room ⟨u32 (peer + 1), [], []⟩).toNat, (data.drop m).take (min 64 (data.length - m))⟩ : G) = _
       rw [e3]; rfl
     show segs k ⟨{ sT own peer lo po data m 0 with nx := u32 ((sT own peer lo po data m 0).nx + ((((min 64 (data.length - m) : Nat) : Int))).toNat) }, out ++ [Tp.seg (sT own peer lo po data m 0) 24 (u32 (own + 1 + m)) ((data.drop (Tp.own (sT own peer lo po data m 0)).toNat).take ((((min 64 (data.length - m) : Nat) : Int))).toNat)]⟩ = _
     rw [Int.toNat_natCast, e4, e5, e6]
     show segs k ⟨sT own peer lo po data (m + min 64 (data.length - m)) 0, _⟩ = _
     rw [ih _ _ (by omega) (by omega), List.append_assoc]
     show _ = (⟨_, out ++ (if m < data.length then _ else _)⟩ : C)
     rw [if_pos q]; rfl
   · rw [if_pos (by omega)]
     have : m = data.length := by omega
     subst this
     show _ = (⟨_, out ++ (if data.length < data.length then _ else _)⟩ : C)
     rw [if_neg (Nat.lt_irrefl _), List.append_nil]
theorem write_pair {own peer lo po now : Nat} {data : List Nat} (hall : data.length ≤ 200) (hn : now ≤ 900000) : write data now (pT own peer lo po) = ⟨sT own peer lo po data data.length (if 0 < data.length then now + 4 else 0), cutD own peer lo po data 257 0⟩ := by
 unfold write
 have e0 : ({ pT own peer lo po with data := (pT own peer lo po).data ++ data.take (min data.length (256 - (pT own peer lo po).data.length)) } : T) = sT own peer lo po data 0 0 := by
   show (⟨3, lo, 0, po, own, u32 (own + 1), u32 (own + 1), [] ++ data.take (min data.length (256 - 0)), 256, false, false, ⟨u32 (peer + 1), [], []⟩, false, 0, 4, 0, 0⟩ : T) = _
   rw [List.nil_append, List.take_of_length_le (by omega)]
   rfl
 rw [e0]
 unfold flush
 rw [if_neg (by intro h; cases h), segs_cut hall 257 0 [] (Nat.zero_le _) (by omega), List.nil_append]
 have ef := sT_flight (own := own) (peer := peer) (lo := lo) (po := po) (data := data) (m := data.length) (tm := 0) (by omega)
 have eo : Tp.own (sT own peer lo po data data.length 0) = data.length := by rw [own_noSe rfl, ef]
 show flushT now (decide (Tp.own (sT own peer lo po data data.length 0) < ((data.length : Nat) : Int))) (fin1 ⟨sT own peer lo po data data.length 0, cutD own peer lo po data 257 0⟩) = _
 have hf : fin1 ⟨sT own peer lo po data data.length 0, cutD own peer lo po data 257 0⟩ = ⟨sT own peer lo po data data.length 0, cutD own peer lo po data 257 0⟩ := by
   unfold fin1
   rw [if_neg (by rintro ⟨_, h, _⟩; cases h)]
 rw [hf, eo]
 unfold flushT
 show (if 0 = 0 ∧ (decide ((data.length : Int) < data.length) = true ∨ 0 < flight (sT own peer lo po data data.length 0)) then _ else _) = _
 rw [ef]
 have hw : wait now 4 ⟨sT own peer lo po data data.length 0, cutD own peer lo po data 257 0⟩ = ⟨sT own peer lo po data data.length (now + 4), cutD own peer lo po data 257 0⟩ := by
   unfold wait
   show (⟨sT own peer lo po data data.length (later now 4), _⟩ : C) = _
   rw [later_small (by omega)]
 by_cases q : 0 < data.length
 · rw [if_pos q]
   exact (if_pos ⟨rfl, .inr (by omega)⟩).trans hw
 · rw [if_neg q]
   exact if_neg (by rintro ⟨_, h | h⟩; · simp at h
                    · omega)
theorem cut_all {own peer lo po : Nat} {data : List Nat} : ∀ (k m : Nat), ∀ g ∈ cutD own peer lo po data k m, ∃ off len, 1 ≤ len ∧ len ≤ 64 ∧ off + len ≤ data.length ∧ g = gD own peer lo po data off len := by
 intro k
 induction k with
 | zero => intro m g hg; cases hg
 | succ k ih =>
   intro m g hg
   unfold cutD at hg
   split at hg
   · rename_i q
     rcases List.mem_cons.1 hg with rfl | hg
     · exact ⟨m, _, by omega, by omega, by omega, rfl⟩
     · exact ih _ g hg
   · cases hg
/-- Where the numbers stand. -/
def Phase (iss irs : Nat) (data : List Nat) (u la lb tr : Nat) (qa qb : List G) : Prop :=
 tr = 0 ∨ (qb = [] ∧ qa = [] ∧ tr ≤ 3 * la + lb) ∨ (qa = [] ∧ (∃ len, 1 ≤ len ∧ len ≤ 64 ∧ u + len ≤ data.length ∧ qb = [gA iss irs data u len]) ∧ tr ≤ 3 * la + lb + 1) ∨ (qb = [] ∧ (∀ g ∈ qa, ∀ v w, v ≤ data.length → g = gB iss irs v w → u < v) ∧ tr ≤ 3 * (la + 1) ∧ (qa = [] → tr ≤ 3 * la + lb))
/-- What stands all along: u bytes are acknowledged, p came in order. -/
structure AkI (iss irs : Nat) (data : List Nat) (ta tb : T) (qa qb : List G) (la lb now u p tr : Nat) (got : List Nat) : Prop where
 a : ∃ wnd, wnd ≤ 65535 ∧ ta = aT iss irs data u wnd now tr
 b : ∃ s, tb = bT irs s ∧ s.bytes = [] ∧ Agr data (u32 (iss + 1)) s p
 got : got = data.take p
 up : u ≤ p
 pn : p ≤ data.length
 fqb : ∀ g ∈ qb, ∃ off len, 1 ≤ len ∧ len ≤ 64 ∧ off + len ≤ data.length ∧ g = gA iss irs data off len
 fqa : ∀ g ∈ qa, ∃ v w, v ≤ p ∧ 1 ≤ w ∧ w ≤ 256 ∧ g = gB iss irs v w
 fla : la ≤ 2
 flb : lb ≤ 2
 ph : Phase iss irs data u la lb tr qa qb
 t9 : tr ≤ 9
 now1 : 1 ≤ now
 now2 : now ≤ 1 + 380 * u + Bk tr
/-- How far it is from its end. -/
def AkM (data : List Nat) (qa qb : List G) (u tr : Nat) : Nat := 44 * (data.length - u) + 4 * (10 - tr) + 3 * qb.length + qa.length
theorem AkI.now3 {iss irs : Nat} {data : List Nat} {ta tb : T} {qa qb : List G} {la lb now u p tr : Nat} {got : List Nat} (h : AkI iss irs data ta tb qa qb la lb now u p tr got) (hall : data.length ≤ 200) : now ≤ 100000 := by
 have h1 := h.now2
 have h2 := Bk_top h.t9
 have h3 := h.up
 have h4 := h.pn
 omega
theorem AkI.chkA {iss irs : Nat} {data : List Nat} {ta tb : T} {qa qb : List G} {la lb now u p tr : Nat} {got : List Nat} (h : AkI iss irs data ta tb qa qb la lb now u p tr got) (hall : data.length ≤ 200) : chkT ta = true := by
 obtain ⟨wnd, hw, e⟩ := h.a
 rw [e]
 exact aT_chk hall (Nat.le_trans h.up h.pn) hw (by have := h.t9; omega) (by have := h.now3 hall; omega)
theorem AkI.chkB {iss irs : Nat} {data : List Nat} {ta tb : T} {qa qb : List G} {la lb now u p tr : Nat} {got : List Nat} (h : AkI iss irs data ta tb qa qb la lb now u p tr got) : chkT tb = true := by
 obtain ⟨s, e, _, hA⟩ := h.b
 rw [e]
 exact bT_chk hA.ok
/-- The start. -/
theorem u32_lt0 (n : Nat) : u32 n < 4294967296 := by unfold u32; omega
theorem AkI.start {iss irs : Nat} {data : List Nat} (hall : data.length ≤ 200) :
   AkI iss irs data (write data 1 (pT iss irs 7 80)).t (pT irs iss 80 7) [] (write data 1 (pT iss irs 7 80)).out 0 0 1 0 0 0 [] := by
 rw [write_pair hall (by decide)]
 refine ⟨⟨256, by decide, ?_⟩, ⟨⟨u32 (iss + 1), [], []⟩, rfl, rfl, Agr.start data _ (u32_lt0 _)⟩, rfl, Nat.le_refl _, Nat.zero_le _, ?_, (fun g hg => (List.not_mem_nil hg).elim), by decide, by decide, .inl rfl, by decide, by decide, by decide⟩
 · show sT iss irs 7 80 data data.length (if 0 < data.length then 1 + 4 else 0) = _
   rfl
 · intro g hg
   obtain ⟨off, len, h1, h2, h3, rfl⟩ := cut_all _ _ g hg
   exact ⟨off, len, h1, h2, h3, rfl⟩
/-- All is acknowledged, or a timer runs. -/
theorem AkI.more {iss irs : Nat} {data : List Nat} {ta tb : T} {qa qb : List G} {la lb now u p tr : Nat} {got : List Nat} (h : AkI iss irs data ta tb qa qb la lb now u p tr got) (hall : data.length ≤ 200) : (ta.una = ta.nx ↔ u = data.length) ∧ (ta.data = [] ↔ u = data.length) ∧ (u = data.length → got = data) ∧ ta.st = 3 := by
 obtain ⟨wnd, hw, e⟩ := h.a
 have h1 := h.up
 have h2 := h.pn
 subst e
 refine ⟨?_, ?_, fun hu => ?_, rfl⟩
 · show u32 (iss + 1 + u) = u32 (iss + 1 + data.length) ↔ _
   unfold u32; omega
 · show data.drop u = [] ↔ _
   rw [List.drop_eq_nil_iff]; omega
 · rw [h.got, List.take_of_length_le (by omega)]
/-- Nothing is on its way: the writer's timer. -/
theorem AkI.tick {iss irs : Nat} {data : List Nat} {ta tb : T} {la lb now u p tr : Nat} {got : List Nat} (h : AkI iss irs data ta tb [] [] la lb now u p tr got) (hall : data.length ≤ 200) (hu : u ≠ data.length) :
   ta.tm ≠ 0 ∧ ta.tm ≤ 1 + 640 * (data.length + 2) ∧ AkI iss irs data (Tp.tick ta.tm ⟨ta, []⟩).t tb [] (Tp.tick ta.tm ⟨ta, []⟩).out la lb ta.tm u p (tr + 1) got ∧ AkM data [] (Tp.tick ta.tm ⟨ta, []⟩).out u (tr + 1) < AkM data [] [] u tr := by
 obtain ⟨wnd, hw, e⟩ := h.a
 have hup := h.up
 have hpn := h.pn
 have hn3 := h.now3 hall
 have hn1 := h.now1
 have hla := h.fla
 have hlb := h.flb
 have ht : tr ≤ 8 ∧ tr ≤ 3 * la + lb := by
   rcases h.ph with q | ⟨_, _, q⟩ | ⟨_, ⟨_, _, _, _, q⟩, _⟩ | ⟨_, q1, q2⟩
   · omega
   · omega
   · cases q
   · have := q2.2 rfl
     omega
 have hB := Bk_top (k := tr + 1) (by omega)
 have hR := Rk_rng tr
 have h2 := h.now2
 have hb1 : Bk (tr + 1) = Bk tr + Rk tr := rfl
 subst e
 have etm : (aT iss irs data u wnd now tr).tm = now + Rk tr := by unfold aT; rw [if_pos (by omega)]
 rw [etm, a_tick hall (by omega) (by omega) (by omega) hn1]
 refine ⟨by omega, by omega, ⟨⟨wnd, hw, rfl⟩, h.b, h.got, hup, hpn, ?_, h.fqa, hla, hlb, ?_, by omega, by omega, by omega⟩, ?_⟩
 · intro g hg
   exact ⟨u, _, by omega, by omega, by omega, List.mem_singleton.1 hg⟩
 · exact .inr (.inr (.inl ⟨rfl, ⟨_, by omega, by omega, by omega, rfl⟩, by omega⟩))
 · unfold AkM
   simp only [List.length_cons, List.length_nil]
   omega
end Go.Proofs.Tp
end

section
/-
 How many segments a call sends at most (layer 26), in plain words. No program in sight.
-/
namespace Go.Proofs.Tp
open Go.Proofs.Wi
theorem segs_len : ∀ (k : Nat) (c : C), (segs k c).out.length ≤ c.out.length + k := by
 intro k
 induction k with
 | zero => intro c; exact Nat.le_refl _
 | succ k ih =>
   intro c
   rw [segs_succ]
   split
   · omega
   · refine Nat.le_trans (ih _) ?_
     simp only [List.length_append, List.length_cons, List.length_nil]
     omega
theorem fin1_len (c : C) : (fin1 c).out.length ≤ c.out.length + 1 := by
 unfold fin1
 split
 · simp
 · omega
theorem flush_len (now : Nat) (c : C) : (flush now c).out.length ≤ c.out.length + 258 := by
 unfold flush
 split
 · omega
 · have h1 := segs_len 257 c
   have h2 := fin1_len (segs 257 c)
   have h3 : (flushT now (decide (own (segs 257 c).t < (segs 257 c).t.data.length)) (fin1 (segs 257 c))).out = (fin1 (segs 257 c)).out := by
     unfold flushT
     split <;> rfl
   show (flushT now (decide (own (segs 257 c).t < (segs 257 c).t.data.length)) (fin1 (segs 257 c))).out.length ≤ _
   rw [h3]; omega
theorem send_len (fl seq : Nat) (d : List Nat) (c : C) : (send fl seq d c).out.length = c.out.length + 1 := by simp [send]
theorem ackC_len (c : C) : (ackC c).out.length = c.out.length + 1 := send_len _ _ _ _
theorem close_len (now : Nat) (t : T) : (close now ⟨t, []⟩).out.length ≤ 258 := by
 unfold close
 split
 · refine Nat.le_trans (flush_len _ _) ?_
   simp
 · split
   · refine Nat.le_trans (flush_len _ _) ?_
     simp
   · split
     · exact Nat.zero_le _
     · exact Nat.zero_le _
theorem read_len (n : Int) (t : T) : (read n t).1.out.length ≤ 1 := by
 unfold read
 show (if _ then _ else _ : C).out.length ≤ 1
 split
 · exact Nat.le_of_eq (ackC_len _)
 · exact Nat.zero_le _
theorem acked_len (now : Nat) (g : G) (c : C) : (acked now g c).1.out.length ≤ c.out.length + 1 := by
 unfold acked
 split
 · unfold joined
   split
   · exact Nat.le_of_eq (send_len _ _ _ _)
   · show c.out.length ≤ _
     omega
 · split
   · exact Nat.le_of_eq (ackC_len _)
   · split
     · show c.out.length ≤ _
       omega
     · show (if 0 < dif g.ack c.t.una then _ else _ : C × Bool).1.out.length ≤ _
       split
       · unfold gone
         split
         · show c.out.length ≤ _
           omega
         · unfold goneEnd
           split
           · show c.out.length ≤ _
             omega
           · split
             · show c.out.length ≤ _
               omega
             · split
               · show c.out.length ≤ _
                 omega
               · show c.out.length ≤ _
                 omega
       · split
         · show c.out.length ≤ _
           omega
         · show c.out.length ≤ _
           omega
theorem carried_len {now : Nat} {g : G} {c c' : C} (h : Carried now g c c') : c'.out = c.out := by
 obtain ⟨s', _, rfl⟩ := h
 show (if has g.fl 1 = false then _ else _ : C).out = _
 split
 · rfl
 · split
   · rfl
   · split
     · unfold ended
       show (if c.t.st = 3 then _ else _ : C).out = _
       split
       · rfl
       · show (if c.t.st = 4 then _ else _ : C).out = _
         split
         · rfl
         · show (if c.t.st = 5 then _ else _ : C).out = _
           split <;> rfl
     · rfl
theorem take_len {now : Nat} {g : G} {t : T} {c' : C} (h : Take now g t c') : c'.out.length ≤ 300 := by
 unfold Take at h
 split at h
 · subst h; exact Nat.zero_le _
 · split at h
   · subst h
     unfold answered
     split
     · split
       · exact Nat.zero_le _
       · rw [send_len]; simp
     · split
       · split <;> exact Nat.zero_le _
       · split
         · exact Nat.zero_le _
         · show (if has g.fl 16 = false then _ else _ : C).out.length ≤ _
           split
           · rw [send_len]; show 0 + 1 ≤ 300; decide
           · rw [ackC_len]; show 0 + 1 ≤ 300; decide
   · unfold Taken at h
     split at h
     · subst h; rw [send_len]; simp
     · split at h
       · subst h
         split
         · exact Nat.zero_le _
         · rw [ackC_len]
           split <;> simp [wait]
       · split at h
         · subst h; exact Nat.zero_le _
         · split at h
           · subst h; rw [ackC_len]; simp
           · split at h
             · subst h; exact Nat.zero_le _
             · have ha := acked_len now g ⟨t, []⟩
               simp only [List.length_nil] at ha
               split at h
               · subst h; omega
               · obtain ⟨c1, hc, rfl⟩ := h
                 have hl := flush_len now c1
                 rw [carried_len hc] at hl
                 unfold lastAck
                 split
                 · rw [ackC_len]; omega
                 · omega
end Go.Proofs.Tp
end
