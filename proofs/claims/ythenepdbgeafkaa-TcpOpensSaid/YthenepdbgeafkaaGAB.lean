import Derived.Test.YthenepdbgeafkaaGAA
set_option linter.unusedSimpArgs false
set_option linter.unusedVariables false
section
/-
 Nothing is sent beyond the peer's window (layer 26), in plain words. No program in sight.
-/
namespace Go.Proofs.Tp
open Go.Proofs.Wi
theorem chkT_facts {t : T} (h : chkT t = true) : t.st ≤ 9 ∧ 1 ≤ t.lo ∧ t.lo ≤ 65535 ∧ 1 ≤ t.po ∧ t.po ≤ 65535 ∧ t.data.length ≤ 256 ∧ t.wnd ≤ 65535 ∧ (t.se = true → t.en = true) ∧ t.tm ≤ 1099511627776 ∧ 1 ≤ t.rto ∧ t.rto ≤ 64 ∧ t.tr ≤ 12 ∧ t.er ≤ 1000 ∧ chk t.inn = true ∧ numbers t = true := by
 unfold chkT at h
 simp only [Bool.and_eq_true, decide_eq_true_eq] at h
 obtain ⟨⟨⟨h1, h2, h3, h4, h5, h6, h7, h8, h9, ha, hb, hc, hd⟩, he⟩, hf⟩ := h
 exact ⟨h1, h2, h3, h4, h5, h6, h7, h8, h9, ha, hb, hc, hd, he, hf⟩
theorem dif_add {a b n : Nat} (h : 0 ≤ dif a b) (hn : dif a b + n < 2147483648) : dif (u32 (a + n)) b = dif a b + n := by
 unfold dif u32 at *
 split at h <;> split at hn <;> split <;> omega
/-- One more segment. -/
theorem segs_succ (k : Nat) (c : C) : segs (k + 1) c = if room1 c.t ≤ 0 then c else segs k { t := { c.t with nx := u32 (c.t.nx + (room1 c.t).toNat) }, out := c.out ++ [Tp.seg c.t 24 c.t.nx ((c.t.data.drop (own c.t).toNat).take (room1 c.t).toNat)] } := rfl
/-- What stands all along while segments go: nothing was ended, the numbers fit the bytes. -/
structure Mid (t0 : T) (m : Int) (c : C) : Prop where
 se : c.t.se = false
 lo : 0 ≤ flight c.t
 hi : flight c.t ≤ c.t.data.length
 top : flight c.t ≤ max m c.t.wnd
 len : c.t.data.length ≤ 256
 wnd : c.t.wnd ≤ 65535
 same : c.t = { t0 with nx := c.t.nx }
 out : ∀ g ∈ c.out, 0 < g.data.length ∧ g.data.length ≤ 64
theorem own_noSe {t : T} (h : t.se = false) : own t = flight t := by
 unfold own
 rw [if_neg (by rw [h]; simp)]
end Go.Proofs.Tp
end

section
/-
 A connection stays one that may be (layer 26), in plain words. No program in sight.
-/
namespace Go.Proofs.Tp
open Go.Proofs.Wi
variable {t : T}
/-- Bounds, without the numbers. -/
structure Rng (t : T) : Prop where
 st : t.st ≤ 9
 lo : 1 ≤ t.lo ∧ t.lo ≤ 65535
 po : 1 ≤ t.po ∧ t.po ≤ 65535
 dl : t.data.length ≤ 256
 wnd : t.wnd ≤ 65535
 se : t.se = true → t.en = true
 tm : t.tm ≤ 1099511627776
 rto : 1 ≤ t.rto ∧ t.rto ≤ 64
 tr : t.tr ≤ 12
 er : t.er ≤ 1000
 inn : chk t.inn = true
theorem chkT_iff : chkT t = true ↔ Rng t ∧ numbers t = true := by
 constructor
 · intro h
   obtain ⟨h1, h2, h3, h4, h5, h6, h7, h8, h9, ha, hb, hc, hd, he, hf⟩ := chkT_facts h
   exact ⟨⟨h1, ⟨h2, h3⟩, ⟨h4, h5⟩, h6, h7, h8, h9, ⟨ha, hb⟩, hc, hd, he⟩, hf⟩
 · rintro ⟨h, hn⟩
   unfold chkT
   rw [hn, h.inn, Bool.and_true, Bool.and_true, decide_eq_true_eq]
   exact ⟨h.st, h.lo.1, h.lo.2, h.po.1, h.po.2, h.dl, h.wnd, h.se, h.tm, h.rto.1, h.rto.2, h.tr, h.er⟩
/-- The numbers of a connection with two ends. -/
def Nm (t : T) : Prop := 0 ≤ own t ∧ own t ≤ t.data.length
theorem numbers_nm (h : 3 ≤ t.st) : numbers t = true ↔ Nm t := by
 unfold numbers Nm
 rw [if_neg (by omega), if_neg (by omega), decide_eq_true_eq]
/-- A connection at work with two ends that may be; what it sent may be, and is from its port to its peer's. -/
structure Ok (lo po : Nat) (c : C) : Prop where
 rng : Rng c.t
 elo : c.t.lo = lo
 epo : c.t.po = po
 out : ∀ g ∈ c.out, chkG g = true ∧ g.src = lo ∧ g.dst = po
theorem room_le (s : St) : 0 ≤ room s ∧ room s ≤ 256 := by
 unfold room
 split
 · rename_i h
   obtain ⟨_, _, _, h4⟩ := chk_spans h
   omega
 · omega
theorem later_le (now n : Nat) : later now n ≤ 1099511627776 := Nat.min_le_right _ _
theorem seg_ok (h : Rng t) {fl seq : Nat} {data : List Nat} (hf : fl ≤ 31) (hd : data.length ≤ 64) : chkG (Tp.seg t fl seq data) = true ∧ (Tp.seg t fl seq data).src = t.lo ∧ (Tp.seg t fl seq data).dst = t.po := by
 refine ⟨?_, rfl, rfl⟩
 unfold chkG
 rw [decide_eq_true_eq]
 have := room_le t.inn
 exact ⟨h.lo.1, h.lo.2, h.po.1, h.po.2, hf, by show (room t.inn).toNat ≤ 65535; omega, hd⟩
theorem Ok.send {lo po : Nat} {c : C} (h : Ok lo po c) {fl seq : Nat} {data : List Nat} (hf : fl ≤ 31) (hd : data.length ≤ 64) : Ok lo po (Tp.send fl seq data c) :=
 ⟨h.rng, h.elo, h.epo, fun g hg => by
   rcases List.mem_append.1 hg with hg | hg
   · exact h.out g hg
   · rw [List.mem_singleton.1 hg]
     have := seg_ok h.rng (fl := fl) (seq := seq) (data := data) hf hd
     exact ⟨this.1, this.2.1.trans h.elo, this.2.2.trans h.epo⟩⟩
theorem Ok.ack {lo po : Nat} {c : C} (h : Ok lo po c) : Ok lo po (ackC c) := h.send (by decide) (Nat.zero_le _)
/-- Other numbers, the same bounds. -/
theorem Ok.turn {lo po : Nat} {c : C} (h : Ok lo po c) (hr : Rng t) (hl : t.lo = c.t.lo) (hp : t.po = c.t.po) : Ok lo po { c with t := t } := ⟨hr, hl.trans h.elo, hp.trans h.epo, h.out⟩
theorem Ok.wait {lo po : Nat} {c : C} (h : Ok lo po c) (now n : Nat) : Ok lo po (Tp.wait now n c) :=
 h.turn { h.rng with tm := later_le now n } rfl rfl
theorem Ok.fresh {lo po : Nat} {c : C} (h : Ok lo po c) : Ok lo po (Tp.fresh c) :=
 h.turn { h.rng with tm := Nat.zero_le _, rto := ⟨by show 1 ≤ 4; decide, by show 4 ≤ 64; decide⟩, tr := Nat.zero_le _ } rfl rfl
theorem Ok.over {lo po : Nat} {c : C} (h : Ok lo po c) {e : Nat} (he : e ≤ 1000) : Ok lo po (Tp.over e c) :=
 h.turn { h.rng with tm := Nat.zero_le _, st := Nat.zero_le _, er := he } rfl rfl
theorem Ok.rest {lo po : Nat} {c : C} (h : Ok lo po c) (now : Nat) : Ok lo po (Tp.rest now c) :=
 h.turn { h.rng with tm := later_le now 32, st := by show 9 ≤ 9; decide } rfl rfl
theorem over_num (e : Nat) (c : C) : numbers (Tp.over e c).t = true := by
 unfold numbers Tp.over
 simp
theorem Nm.keep {t t' : T} (h : Nm t) (h1 : t'.nx = t.nx) (h2 : t'.una = t.una) (h3 : t'.se = t.se) (h4 : t'.data = t.data) : Nm t' := by
 unfold Nm own flight at *
 rw [h1, h2, h3, h4]
 exact h
/-- Segments, one after the other. -/
theorem segs_ok {lo po : Nat} : ∀ (k : Nat) {c : C}, Ok lo po c → Nm c.t → Ok lo po (segs k c) ∧ Nm (segs k c).t ∧ (segs k c).t = { c.t with nx := (segs k c).t.nx } := by
 intro k
 induction k with
 | zero => intro c h hn; exact ⟨h, hn, rfl⟩
 | succ k ih =>
   intro c h hn
   rw [segs_succ]
   by_cases hr : room1 c.t ≤ 0
   · rw [if_pos hr]; exact ⟨h, hn, rfl⟩
   · rw [if_neg hr]
     have hr1 : room1 c.t ≤ 64 ∧ room1 c.t ≤ c.t.data.length - own c.t ∧ room1 c.t ≤ c.t.wnd - flight c.t := by
       unfold room1; omega
     have hdl := h.rng.dl
     obtain ⟨n1, n2⟩ := hn
     have hfl : 0 ≤ flight c.t ∧ flight c.t ≤ 257 := by
       have e1 : own c.t ≤ flight c.t ∧ flight c.t ≤ own c.t + 1 := by unfold own; split <;> omega
       omega
     have hf : flight { c.t with nx := u32 (c.t.nx + (room1 c.t).toNat) } = flight c.t + (room1 c.t).toNat := by
       have h4 := dif_add (a := c.t.nx) (b := c.t.una) (n := (room1 c.t).toNat) hfl.1 (by unfold flight at *; omega)
       exact h4
     have hnm : Nm { c.t with nx := u32 (c.t.nx + (room1 c.t).toNat) } := by
       unfold Nm own at *
       rw [hf]
       show 0 ≤ (if c.t.se = true ∧ _ then _ else _) ∧ (if c.t.se = true ∧ _ then _ else _) ≤ ((c.t.data.length : Nat) : Int)
       by_cases hs : c.t.se = true
       · rw [if_pos ⟨hs, by omega⟩]
         by_cases h0 : 0 < flight c.t
         · rw [if_pos ⟨hs, h0⟩] at n1 n2 hr1
           omega
         · rw [if_neg (fun h => h0 h.2)] at n1 n2 hr1
           omega
       · rw [if_neg (fun h => hs h.1)]
         rw [if_neg (fun h => hs h.1)] at n1 n2 hr1
         omega
     have hok : Ok lo po { t := { c.t with nx := u32 (c.t.nx + (room1 c.t).toNat) }, out := c.out ++ [Tp.seg c.t 24 c.t.nx ((c.t.data.drop (own c.t).toNat).take (room1 c.t).toNat)] } := by
       have h9 := h.send (fl := 24) (seq := c.t.nx) (data := (c.t.data.drop (own c.t).toNat).take (room1 c.t).toNat) (by decide) (by rw [List.length_take]; omega)
       exact ⟨{ h.rng with }, h.elo, h.epo, h9.out⟩
     obtain ⟨k1, k2, k3⟩ := ih hok hnm
     exact ⟨k1, k2, by rw [k3]⟩
theorem Nm.fl (h : Nm t) (hd : t.data.length ≤ 256) : own t ≤ flight t ∧ flight t ≤ own t + 1 ∧ -1 ≤ flight t ∧ flight t ≤ 257 := by
 obtain ⟨h1, h2⟩ := h
 have e1 : own t ≤ flight t ∧ flight t ≤ own t + 1 := by unfold own; split <;> omega
 omega
/-- The end goes, where all bytes went. -/
theorem fin_ok {lo po : Nat} {c : C} (h : Ok lo po c) (hn : Nm c.t) : Ok lo po (fin1 c) ∧ Nm (fin1 c).t ∧ (fin1 c).t.st = c.t.st := by
 unfold fin1
 split
 · rename_i hq
   obtain ⟨q1, q2, q3⟩ := hq
   have hf := hn.fl h.rng.dl
   have hdl := h.rng.dl
   have ho : own c.t = flight c.t := own_noSe q3
   obtain ⟨n1, n2⟩ := hn
   have h4 := dif_add (a := c.t.nx) (b := c.t.una) (n := 1) (by have := n1; rw [ho] at this; exact this) (by unfold flight at *; omega)
   have h9 := h.send (fl := 17) (seq := c.t.nx) (data := []) (by decide) (Nat.zero_le _)
   refine ⟨⟨{ h.rng with se := fun _ => q2 }, h.elo, h.epo, h9.out⟩, ?_, rfl⟩
   unfold Nm own
   show 0 ≤ (if true = true ∧ 0 < dif (u32 (c.t.nx + 1)) c.t.una then dif (u32 (c.t.nx + 1)) c.t.una - 1 else dif (u32 (c.t.nx + 1)) c.t.una) ∧ (if true = true ∧ 0 < dif (u32 (c.t.nx + 1)) c.t.una then dif (u32 (c.t.nx + 1)) c.t.una - 1 else dif (u32 (c.t.nx + 1)) c.t.una) ≤ ((c.t.data.length : Nat) : Int)
   rw [h4]
   rw [ho] at n1 n2
   unfold flight at n1 n2
   rw [if_pos ⟨rfl, by omega⟩]
   omega
 · exact ⟨h, hn, rfl⟩
theorem flushT_ok {lo po : Nat} {c : C} (h : Ok lo po c) (hn : Nm c.t) (now : Nat) (left : Bool) : Ok lo po (flushT now left c) ∧ Nm (flushT now left c).t ∧ (flushT now left c).t.st = c.t.st := by
 unfold flushT
 split
 · exact ⟨h.wait _ _, hn.keep rfl rfl rfl rfl, rfl⟩
 · exact ⟨h, hn, rfl⟩
theorem flush_ok {lo po : Nat} {c : C} (h : Ok lo po c) (hn : Nm c.t) (now : Nat) : Ok lo po (flush now c) ∧ Nm (flush now c).t ∧ (flush now c).t.st = c.t.st := by
 unfold flush
 split
 · exact ⟨h, hn, rfl⟩
 · obtain ⟨k1, k2, k3⟩ := segs_ok 257 h hn
   obtain ⟨f1, f2, f3⟩ := fin_ok k1 k2
   obtain ⟨g1, g2, g3⟩ := flushT_ok f1 f2 now (decide (own (segs 257 c).t < (segs 257 c).t.data.length))
   exact ⟨g1, g2, g3.trans (f3.trans (by rw [k3]))⟩
/-- What a call leaves: a connection that may be, segments that may be. -/
def Kept (lo po : Nat) (c : C) : Prop := Ok lo po c ∧ numbers c.t = true
theorem kept_of {lo po : Nat} {c : C} (h : Ok lo po c) (hn : Nm c.t) (hs : 3 ≤ c.t.st) : Kept lo po c := ⟨h, (numbers_nm hs).2 hn⟩
theorem start (h : chkT t = true) : Kept t.lo t.po ⟨t, []⟩ := by
 obtain ⟨h1, h2⟩ := chkT_iff.1 h
 exact ⟨⟨h1, rfl, rfl, fun g hg => (List.not_mem_nil hg).elim⟩, h2⟩
theorem Kept.chk {lo po : Nat} {c : C} (h : Kept lo po c) : chkT c.t = true := chkT_iff.2 ⟨h.1.rng, h.2⟩
theorem begun_num (h : numbers t = true) (hs : t.st = 1 ∨ t.st = 2) : t.una = t.iss ∧ t.nx = u32 (t.iss + 1) ∧ t.data = [] ∧ t.en = false := by
 unfold numbers at h
 rw [if_neg (by omega), if_pos hs] at h
 simp only [Bool.and_eq_true, beq_iff_eq, List.isEmpty_iff, Bool.not_eq_true'] at h
 exact ⟨h.1.1.1, h.1.1.2, h.1.2, h.2⟩
theorem begun_numbers (hs : t.st = 1 ∨ t.st = 2) (h1 : t.una = t.iss) (h2 : t.nx = u32 (t.iss + 1)) (h3 : t.data = []) (h4 : t.en = false) : numbers t = true := by
 unfold numbers
 rw [if_neg (by omega), if_pos hs, h1, h2, h3, h4]
 simp
end Go.Proofs.Tp
end

section
/-
 A connection stays one that may be, whatever comes (layer 26), in plain words. No program in sight.
-/
namespace Go.Proofs.Tp
open Go.Proofs.Wi
variable {t : T} {g : G}
theorem chk_empty (n : Nat) (b : List Nat) (h : b.length ≤ 256) : chk ⟨n, b, []⟩ = true := by
 unfold chk
 rw [if_neg (by show ¬ 256 < b.length; omega)]
 rfl
theorem dif_self (a : Nat) : dif a a = 0 := by
 unfold dif
 rw [Int.sub_self]
 simp
theorem answered_kept (h : chkT t = true) (hs : t.st = 1) (now : Nat) (hg : chkG g = true) : Kept t.lo t.po (answered now g ⟨t, []⟩) := by
 obtain ⟨ho, hn⟩ := start h
 have hgw : g.wnd ≤ 65535 := by
   unfold chkG at hg
   rw [decide_eq_true_eq] at hg
   exact hg.2.2.2.2.2.1
 obtain ⟨b1, b2, b3, b4⟩ := begun_num (t := t) hn (.inl hs)
 unfold answered
 split
 · split
   · exact ⟨ho, hn⟩
   · exact ⟨ho.send (by decide) (Nat.zero_le _), hn⟩
 · rename_i q1
   split
   · split
     · exact ⟨ho.over (by decide), over_num _ _⟩
     · exact ⟨ho, hn⟩
   · split
     · exact ⟨ho, hn⟩
     · have hr : Rng { t with inn := ⟨u32 (g.seq + 1), [], []⟩, wnd := g.wnd } := { ho.rng with wnd := hgw, inn := chk_empty _ _ (Nat.zero_le _) }
       have ho1 : Ok t.lo t.po ⟨{ t with inn := ⟨u32 (g.seq + 1), [], []⟩, wnd := g.wnd }, []⟩ := ho.turn hr rfl rfl
       show Kept _ _ (if has g.fl 16 = false then _ else _)
       split
       · refine ⟨((ho1.turn (t := { t with inn := ⟨u32 (g.seq + 1), [], []⟩, wnd := g.wnd, st := 2 }) { hr with st := by show 2 ≤ 9; decide } rfl rfl).wait now t.rto).send (fl := 18) (seq := t.una) (data := []) (by decide) (Nat.zero_le _), ?_⟩
         exact begun_numbers (.inr rfl) b1 b2 b3 b4
       · rename_i q4
         have hack : g.ack = t.nx := by
           by_cases e : g.ack = t.nx
           · exact e
           · exact absurd ⟨by simpa using q4, e⟩ q1
         refine ⟨(ho1.turn (t := { t with inn := ⟨u32 (g.seq + 1), [], []⟩, wnd := g.wnd, una := g.ack, st := 3 }) { hr with st := by show 3 ≤ 9; decide } rfl rfl).fresh.ack, ?_⟩
         refine (numbers_nm (by show 3 ≤ 3; decide)).2 ?_
         unfold Nm own flight
         show 0 ≤ (if t.se = true ∧ 0 < dif t.nx g.ack then dif t.nx g.ack - 1 else dif t.nx g.ack) ∧ (if t.se = true ∧ 0 < dif t.nx g.ack then dif t.nx g.ack - 1 else dif t.nx g.ack) ≤ ((t.data.length : Nat) : Int)
         rw [hack, dif_self, if_neg (by intro h; omega)]
         omega
theorem joined_kept {lo po : Nat} {c : C} (h : Kept lo po c) (hs : c.t.st = 2) (hg : chkG g = true) : Kept lo po (joined g c).1 ∧ ((joined g c).2 = true → 3 ≤ (joined g c).1.t.st) := by
 obtain ⟨ho, hn⟩ := h
 have hgw : g.wnd ≤ 65535 := by
   unfold chkG at hg
   rw [decide_eq_true_eq] at hg
   exact hg.2.2.2.2.2.1
 unfold joined
 split
 · exact ⟨⟨ho.send (by decide) (Nat.zero_le _), hn⟩, fun h => by cases h⟩
 · rename_i e
   have e : g.ack = c.t.nx := Classical.not_not.1 e
   refine ⟨⟨(ho.turn (t := { c.t with st := 3, una := g.ack, wnd := g.wnd }) { ho.rng with st := by show 3 ≤ 9; decide, wnd := hgw } rfl rfl).fresh, ?_⟩, fun _ => Nat.le_refl 3⟩
   refine (numbers_nm (by show 3 ≤ 3; decide)).2 ?_
   unfold Nm own flight
   show 0 ≤ (if c.t.se = true ∧ 0 < dif c.t.nx g.ack then dif c.t.nx g.ack - 1 else dif c.t.nx g.ack) ∧ (if c.t.se = true ∧ 0 < dif c.t.nx g.ack then dif c.t.nx g.ack - 1 else dif c.t.nx g.ack) ≤ ((c.t.data.length : Nat) : Int)
   rw [e, dif_self, if_neg (by intro h; omega)]
   omega
theorem dif_sub {a b n : Nat} (h : (n : Int) ≤ dif a b) : dif a (u32 (b + n)) = dif a b - n := by
 unfold dif u32 at *
 split at h <;> split <;> omega
theorem goneEnd_kept {lo po : Nat} {c : C} (h : Ok lo po c) (hs : 3 ≤ c.t.st) (hf : flight c.t = 0) (h0 : c.t.tm = 0) (now : Nat) : Kept lo po (goneEnd now c).1 ∧ ((goneEnd now c).2 = true → 3 ≤ (goneEnd now c).1.t.st) := by
 have hNm : Nm c.t := by
   unfold Nm own
   rw [hf, if_neg (by intro h; omega)]
   omega
 unfold goneEnd
 split
 · exact ⟨kept_of (h.turn { h.rng with st := by show 5 ≤ 9; decide } rfl rfl) (hNm.keep rfl rfl rfl rfl) (by show 3 ≤ 5; decide), fun _ => by show 3 ≤ 5; decide⟩
 · split
   · exact ⟨kept_of (h.rest now) (hNm.keep rfl rfl rfl rfl) (by show 3 ≤ 9; decide), fun _ => by show 3 ≤ 9; decide⟩
   · split
     · refine ⟨⟨h.turn { h.rng with st := Nat.zero_le _ } rfl rfl, ?_⟩, fun h => by cases h⟩
       unfold numbers
       rw [if_pos rfl]
       show (c.t.tm == 0) = true
       rw [h0]; rfl
     · exact ⟨kept_of h hNm hs, fun _ => hs⟩
theorem gone_kept {lo po : Nat} {c : C} (h : Kept lo po c) (hs : 3 ≤ c.t.st) {n : Nat} (hn0 : 0 < n) (hnf : (n : Int) ≤ flight c.t) (now : Nat) : Kept lo po (gone now n c).1 ∧ ((gone now n c).2 = true → 3 ≤ (gone now n c).1.t.st) := by
 obtain ⟨ho, hn⟩ := h
 obtain ⟨n1, n2⟩ := (numbers_nm hs).1 hn
 have hdl := ho.rng.dl
 have ho1 : Ok lo po (gone1 n c) := (ho.turn (t := { c.t with una := u32 (c.t.una + goneM n c), data := c.t.data.drop (goneM n c) }) { ho.rng with dl := by show (c.t.data.drop _).length ≤ 256; rw [List.length_drop]; omega } rfl rfl).fresh
 unfold gone
 by_cases he : goneE n c = true
 · rw [if_neg (by rw [he]; simp)]
   have he2 := he
   unfold goneE at he2
   simp only [Bool.and_eq_true, beq_iff_eq] at he2
   obtain ⟨hse, hfl⟩ := he2
   have hm : goneM n c = n - 1 := by unfold goneM; rw [he]; rfl
   refine goneEnd_kept (ho1.turn (t := { (gone1 n c).t with una := u32 ((gone1 n c).t.una + 1) }) { ho1.rng with } rfl rfl) hs ?_ rfl now
   show dif c.t.nx (u32 (u32 (c.t.una + goneM n c) + 1)) = 0
   have e1 : u32 (u32 (c.t.una + goneM n c) + 1) = u32 (c.t.una + n) := by rw [hm]; unfold u32; omega
   rw [e1, dif_sub (by unfold flight at hnf; exact hnf)]
   unfold flight at hfl; omega
 · have he' : goneE n c = false := by simpa using he
   rw [if_pos he']
   have hm : goneM n c = n := by unfold goneM; rw [he']; rfl
   refine ⟨kept_of ho1 ?_ hs, fun _ => hs⟩
   have hz : dif c.t.nx (u32 (c.t.una + n)) = flight c.t - n := dif_sub hnf
   unfold Nm own flight
   show 0 ≤ (if c.t.se = true ∧ 0 < dif c.t.nx (u32 (c.t.una + goneM n c)) then dif c.t.nx (u32 (c.t.una + goneM n c)) - 1 else dif c.t.nx (u32 (c.t.una + goneM n c))) ∧ (if c.t.se = true ∧ 0 < dif c.t.nx (u32 (c.t.una + goneM n c)) then dif c.t.nx (u32 (c.t.una + goneM n c)) - 1 else dif c.t.nx (u32 (c.t.una + goneM n c))) ≤ (((c.t.data.drop (goneM n c)).length : Nat) : Int)
   rw [hm, hz, List.length_drop]
   unfold own at n1 n2
   by_cases hse : c.t.se = true
   · have hne : (n : Int) ≠ flight c.t := by
       intro e
       unfold goneE at he'
       rw [hse, Bool.true_and] at he'
       exact absurd e (by simpa using he')
     rw [if_pos ⟨hse, by omega⟩] at n1 n2
     rw [if_pos ⟨hse, by omega⟩]
     omega
   · rw [if_neg (fun h => hse h.1)] at n1 n2
     rw [if_neg (fun h => hse h.1)]
     omega
theorem acked_kept {lo po : Nat} {c : C} (h : Kept lo po c) (hs : 2 ≤ c.t.st) (hg : chkG g = true) (now : Nat) : Kept lo po (acked now g c).1 ∧ ((acked now g c).2 = true → 3 ≤ (acked now g c).1.t.st) := by
 unfold acked
 by_cases s2 : c.t.st = 2
 · rw [if_pos s2]; exact joined_kept h s2 hg
 · rw [if_neg s2]
   have h3 : 3 ≤ c.t.st := by omega
   have hgw : g.wnd ≤ 65535 := by
     unfold chkG at hg
     rw [decide_eq_true_eq] at hg
     exact hg.2.2.2.2.2.1
   obtain ⟨ho, hn⟩ := h
   split
   · exact ⟨⟨ho.ack, hn⟩, fun h => by cases h⟩
   · rename_i q1
     split
     · exact ⟨⟨ho, hn⟩, fun _ => h3⟩
     · rename_i q2
       have hm := (numbers_nm h3).1 hn
       have ho1 : Ok lo po { c with t := { c.t with wnd := g.wnd } } := ho.turn { ho.rng with wnd := hgw } rfl rfl
       have hk1 : Kept lo po { c with t := { c.t with wnd := g.wnd } } := kept_of ho1 (hm.keep rfl rfl rfl rfl) h3
       show Kept lo po (if 0 < dif g.ack c.t.una then _ else _ : C × Bool).1 ∧ ((if 0 < dif g.ack c.t.una then _ else _ : C × Bool).2 = true → 3 ≤ (if 0 < dif g.ack c.t.una then _ else _ : C × Bool).1.t.st)
       split
       · exact gone_kept hk1 h3 (by omega) (by show (((dif g.ack c.t.una).toNat : Nat) : Int) ≤ flight c.t; omega) now
       · split
         · exact ⟨kept_of (ho1.turn (t := { c.t with wnd := g.wnd, tr := 0 }) { ho1.rng with tr := Nat.zero_le _ } rfl rfl) (hm.keep rfl rfl rfl rfl) h3, fun _ => h3⟩
         · exact ⟨hk1, fun _ => h3⟩
theorem took_chk {s s' : St} {seq : Nat} {data : List Nat} (h : Took1 s seq data s') (hc : chk s = true) : chk s' = true := by
 obtain ⟨b, r, ht, rfl⟩ := h
 exact (out_ok hc ht).1
theorem ended_kept {lo po : Nat} {c : C} (h : Ok lo po c) (hm : Nm c.t) (hs : 3 ≤ c.t.st) (now : Nat) : Ok lo po (ended now c) ∧ Nm (ended now c).t ∧ 3 ≤ (ended now c).t.st := by
 have hb := (room_nn h.rng.inn).2.2
 have ho1 : Ok lo po { c with t := { c.t with inn := ⟨u32 (c.t.inn.next + 1), c.t.inn.bytes, []⟩, ed := true } } := h.turn { h.rng with inn := chk_empty _ _ hb } rfl rfl
 have hm1 : ∀ st tm, Nm { c.t with inn := ⟨u32 (c.t.inn.next + 1), c.t.inn.bytes, []⟩, ed := true, st := st, tm := tm } := fun _ _ => hm.keep rfl rfl rfl rfl
 unfold ended
 show Ok lo po (if c.t.st = 3 then _ else _) ∧ Nm (if c.t.st = 3 then _ else _ : C).t ∧ 3 ≤ (if c.t.st = 3 then _ else _ : C).t.st
 split
 · exact ⟨ho1.turn (t := { c.t with inn := ⟨u32 (c.t.inn.next + 1), c.t.inn.bytes, []⟩, ed := true, st := 6 }) { ho1.rng with st := by show 6 ≤ 9; decide } rfl rfl, hm1 6 c.t.tm, by show 3 ≤ 6; decide⟩
 · show Ok lo po (if c.t.st = 4 then _ else _) ∧ Nm (if c.t.st = 4 then _ else _ : C).t ∧ 3 ≤ (if c.t.st = 4 then _ else _ : C).t.st
   split
   · exact ⟨ho1.turn (t := { c.t with inn := ⟨u32 (c.t.inn.next + 1), c.t.inn.bytes, []⟩, ed := true, st := 7 }) { ho1.rng with st := by show 7 ≤ 9; decide } rfl rfl, hm1 7 c.t.tm, by show 3 ≤ 7; decide⟩
   · show Ok lo po (if c.t.st = 5 then _ else _) ∧ Nm (if c.t.st = 5 then _ else _ : C).t ∧ 3 ≤ (if c.t.st = 5 then _ else _ : C).t.st
     split
     · exact ⟨ho1.rest now, hm1 9 _, by show 3 ≤ 9; decide⟩
     · exact ⟨ho1, hm1 c.t.st c.t.tm, hs⟩
theorem carried_kept {lo po : Nat} {c c' : C} (h : Ok lo po c) (hm : Nm c.t) (hs : 3 ≤ c.t.st) {now : Nat} (hc : Carried now g c c') : Ok lo po c' ∧ Nm c'.t ∧ 3 ≤ c'.t.st := by
 obtain ⟨s', h1, rfl⟩ := hc
 have hck : chk s' = true := by
   split at h1
   · exact took_chk h1 h.rng.inn
   · rw [h1]; exact h.rng.inn
 have ho1 : Ok lo po { c with t := { c.t with inn := s' } } := h.turn { h.rng with inn := hck } rfl rfl
 have hm1 : Nm { c.t with inn := s' } := hm.keep rfl rfl rfl rfl
 show Ok lo po (if has g.fl 1 = false then _ else _) ∧ Nm (if has g.fl 1 = false then _ else _ : C).t ∧ 3 ≤ (if has g.fl 1 = false then _ else _ : C).t.st
 split
 · exact ⟨ho1, hm1, hs⟩
 · split
   · exact ⟨ho1.wait _ _, hm1.keep rfl rfl rfl rfl, hs⟩
   · split
     · exact ended_kept ho1 hm1 hs now
     · exact ⟨ho1, hm1, hs⟩
theorem taken_kept {lo po : Nat} {c c' : C} (h : Kept lo po c) (hs : 2 ≤ c.t.st) {now : Nat} (hg : chkG g = true) (ht : Taken now g c c') : Kept lo po c' := by
 obtain ⟨ho, hn⟩ := h
 unfold Taken at ht
 split at ht
 · subst ht; exact ⟨ho.send (by decide) (Nat.zero_le _), hn⟩
 · split at ht
   · subst ht
     split
     · exact ⟨ho, hn⟩
     · split
       · rename_i q
         have h3 : 3 ≤ c.t.st := by have := q.1; omega
         exact ⟨(ho.wait _ _).ack, (numbers_nm (t := (Tp.wait now 32 c).t) h3).2 (((numbers_nm h3).1 hn).keep rfl rfl rfl rfl)⟩
       · exact ⟨ho.ack, hn⟩
   · split at ht
     · subst ht; exact ⟨ho.over (by decide), over_num _ _⟩
     · split at ht
       · subst ht; exact ⟨ho.ack, hn⟩
       · split at ht
         · subst ht; exact ⟨ho, hn⟩
         · obtain ⟨ka, kb⟩ := acked_kept ⟨ho, hn⟩ hs hg now
           split at ht
           · subst ht; exact ka
           · rename_i q
             obtain ⟨c1, hc1, rfl⟩ := ht
             have h3 := kb (by simpa using q)
             obtain ⟨o1, m1, s1⟩ := carried_kept ka.1 ((numbers_nm h3).1 ka.2) h3 hc1
             obtain ⟨f1, f2, f3⟩ := flush_ok o1 m1 now
             unfold lastAck
             split
             · exact kept_of f1.ack f2 (by show 3 ≤ (flush now c1).t.st; rw [f3]; exact s1)
             · exact kept_of f1 f2 (by rw [f3]; exact s1)
/-- Whatever comes. -/
theorem take_kept (h : chkT t = true) {now : Nat} {c' : C} (ht : Take now g t c') : Kept t.lo t.po c' := by
 unfold Take at ht
 split at ht
 · subst ht; exact start h
 · rename_i q
   simp only [not_or] at q
   have hg : chkG g = true := by simpa using q.1
   split at ht
   · rename_i s1
     subst ht; exact answered_kept h s1 now hg
   · rename_i s1
     exact taken_kept (start h) (by have := q.2.2.2; show 2 ≤ t.st; omega) hg ht
theorem read_kept (h : chkT t = true) (n : Int) : Kept t.lo t.po (read n t).1 := by
 obtain ⟨ho, hn⟩ := start h
 have hck : chk ⟨t.inn.next, t.inn.bytes.drop (clampT n t.inn.bytes.length), t.inn.ps⟩ = true := by
   have hc : chk t.inn = true := ho.rng.inn
   obtain ⟨s1, s2, s3, s4⟩ := chk_spans hc
   unfold chk
   simp only [List.length_drop]
   rw [if_neg (by omega)]
   refine (chkL_sep (Int.le_refl 0)).2 ⟨s1, fun x hx => ?_⟩
   have := s2 x hx
   omega
 have ho1 : Ok t.lo t.po ⟨{ t with inn := ⟨t.inn.next, t.inn.bytes.drop (clampT n t.inn.bytes.length), t.inn.ps⟩ }, []⟩ := ho.turn { ho.rng with inn := hck } rfl rfl
 have hn1 : numbers { t with inn := ⟨t.inn.next, t.inn.bytes.drop (clampT n t.inn.bytes.length), t.inn.ps⟩ } = true := hn
 unfold read
 show Kept t.lo t.po (if _ then _ else _)
 split
 · exact ⟨ho1.ack, hn1⟩
 · exact ⟨ho1, hn1⟩
end Go.Proofs.Tp
end

section
/-
 What is read is a beginning of the stream (layer 26), in plain words. No program in sight.
-/
namespace Go.Proofs.Tp
open Go.Proofs.Wi
theorem segs_t : ∀ (k : Nat) (c : C), (segs k c).t = { c.t with nx := (segs k c).t.nx } := by
 intro k
 induction k with
 | zero => intro c; rfl
 | succ k ih =>
   intro c
   rw [segs_succ]
   split
   · rfl
   · rw [ih]
theorem fin_inn (c : C) : (fin1 c).t.inn = c.t.inn ∧ (fin1 c).t.st = c.t.st := by
 unfold fin1
 split <;> exact ⟨rfl, rfl⟩
theorem flushT_inn (now : Nat) (l : Bool) (c : C) : (flushT now l c).t.inn = c.t.inn ∧ (flushT now l c).t.st = c.t.st := by
 unfold flushT
 split <;> exact ⟨rfl, rfl⟩
theorem flush_inn (now : Nat) (c : C) : (flush now c).t.inn = c.t.inn ∧ (flush now c).t.st = c.t.st := by
 unfold flush
 split
 · exact ⟨rfl, rfl⟩
 · have h1 := flushT_inn now (decide (own (segs 257 c).t < (segs 257 c).t.data.length)) (fin1 (segs 257 c))
   have h2 := fin_inn (segs 257 c)
   have h3 := segs_t 257 c
   exact ⟨h1.1.trans (h2.1.trans (by rw [h3])), h1.2.trans (h2.2.trans (by rw [h3]))⟩
theorem goneEnd_inn (now : Nat) (c : C) : (goneEnd now c).1.t.inn = c.t.inn ∧ (openS (goneEnd now c).1.t = true → openS c.t = true) := by
 unfold goneEnd
 split
 · rename_i h; exact ⟨rfl, fun _ => by unfold openS; rw [h]; rfl⟩
 · split
   · exact ⟨rfl, fun h => by cases h⟩
   · split
     · exact ⟨rfl, fun h => by cases h⟩
     · exact ⟨rfl, fun h => h⟩
theorem gone_inn (now n : Nat) (c : C) : (gone now n c).1.t.inn = c.t.inn ∧ (openS (gone now n c).1.t = true → openS c.t = true) := by
 unfold gone
 split
 · exact ⟨rfl, fun h => h⟩
 · exact goneEnd_inn now (gone2 n c)
theorem acked_inn (now : Nat) (g : G) {c : C} (hs : c.t.st ≠ 2) : (acked now g c).1.t.inn = c.t.inn ∧ (openS (acked now g c).1.t = true → openS c.t = true) := by
 unfold acked
 rw [if_neg hs]
 split
 · exact ⟨rfl, fun h => h⟩
 · split
   · exact ⟨rfl, fun h => h⟩
   · show (if 0 < dif g.ack c.t.una then _ else _ : C × Bool).1.t.inn = _ ∧ (openS (if 0 < dif g.ack c.t.una then _ else _ : C × Bool).1.t = true → _)
     split
     · exact gone_inn now _ { c with t := { c.t with wnd := g.wnd } }
     · split <;> exact ⟨rfl, fun h => h⟩
/-- What came out so far is a beginning of the stream; while bytes may come, the rest agrees with it. -/
structure Pre (all : List Nat) (next : Nat) (t : T) (out : List Nat) : Prop where
 ck : chkT t = true
 st : t.st = 0 ∨ 3 ≤ t.st
 got : ∃ p, p ≤ all.length ∧ out ++ t.inn.bytes = all.take p ∧ (openS t = true → Agr all next t.inn p)
theorem Pre.read {all out : List Nat} {next : Nat} {t : T} (h : Pre all next t out) (n : Int) : Pre all next (Tp.read n t).1.t (out ++ (Tp.read n t).2) := by
 have hk := (read_kept h.ck n).chk
 have ht : (Tp.read n t).1.t = { t with inn := ⟨t.inn.next, t.inn.bytes.drop (clampT n t.inn.bytes.length), t.inn.ps⟩ } := by
   unfold Tp.read
   show (if _ then _ else _ : C).t = _
   split <;> rfl
 refine ⟨hk, by rw [ht]; exact h.st, ?_⟩
 obtain ⟨p, hp, hg, ha⟩ := h.got
 refine ⟨p, hp, ?_, ?_⟩
 · rw [ht]
   show out ++ t.inn.bytes.take _ ++ t.inn.bytes.drop _ = _
   rw [List.append_assoc, List.take_append_drop]; exact hg
 · rw [ht]
   intro ho
   exact (ha ho).read _
theorem take_app {all : List Nat} {p m : Nat} : all.take p ++ (all.drop p).take m = all.take (p + m) := by
 rw [List.take_add]
theorem Pre.carried {all out : List Nat} {next : Nat} {c c' : C} (hall : all.length ≤ 1000) {p : Nat} (hp : p ≤ all.length) (hg : out ++ c.t.inn.bytes = all.take p) (ha : openS c.t = true → Agr all next c.t.inn p) {now : Nat} {g : G} {fr n : Nat} (hf : fr + n ≤ all.length) (hseq : g.seq = (next + fr) % 4294967296) (hd : g.data = (all.drop fr).take n) (hc : Carried now g c c') :
   ∃ p', p' ≤ all.length ∧ out ++ c'.t.inn.bytes = all.take p' ∧ (openS c'.t = true → Agr all next c'.t.inn p') := by
 obtain ⟨s', h1, rfl⟩ := hc
 -- the stream behind the bytes
 have hs : ∃ p', p' ≤ all.length ∧ out ++ s'.bytes = all.take p' ∧ (openS c.t = true → Agr all next s' p') := by
   split at h1
   · rename_i ho
     obtain ⟨b, r, ht, rfl⟩ := h1
     rw [hseq, hd] at ht
     obtain ⟨k1, k2, _, _⟩ := (ha ho.1).take hall hf ht
     refine ⟨p + b.length, k1.pos, ?_, fun _ => k1⟩
     show out ++ (c.t.inn.bytes ++ b) = _
     rw [← List.append_assoc, hg]
     conv => lhs; rw [k2]
     exact take_app
   · rw [h1]; exact ⟨p, hp, hg, ha⟩
 obtain ⟨p', g1, g2, g3⟩ := hs
 refine ⟨p', g1, ?_⟩
 show out ++ (if has g.fl 1 = false then _ else _ : C).t.inn.bytes = _ ∧ (openS (if has g.fl 1 = false then _ else _ : C).t = true → Agr all next (if has g.fl 1 = false then _ else _ : C).t.inn p')
 split
 · exact ⟨g2, g3⟩
 · split
   · exact ⟨g2, g3⟩
   · split
     · rename_i q
       unfold ended
       show out ++ (if c.t.st = 3 then _ else _ : C).t.inn.bytes = _ ∧ (openS (if c.t.st = 3 then _ else _ : C).t = true → Agr all next (if c.t.st = 3 then _ else _ : C).t.inn p')
       split
       · exact ⟨g2, fun h => by cases h⟩
       · rename_i s3
         show out ++ (if c.t.st = 4 then _ else _ : C).t.inn.bytes = _ ∧ (openS (if c.t.st = 4 then _ else _ : C).t = true → Agr all next (if c.t.st = 4 then _ else _ : C).t.inn p')
         split
         · exact ⟨g2, fun h => by cases h⟩
         · rename_i s4
           show out ++ (if c.t.st = 5 then _ else _ : C).t.inn.bytes = _ ∧ (openS (if c.t.st = 5 then _ else _ : C).t = true → Agr all next (if c.t.st = 5 then _ else _ : C).t.inn p')
           split
           · exact ⟨g2, fun h => by cases h⟩
           · rename_i s5
             refine ⟨g2, fun h => ?_⟩
             have : openS c.t = true := h
             unfold openS at this
             simp only [Bool.or_eq_true, beq_iff_eq] at this
             omega
     · exact ⟨g2, g3⟩
theorem Pre.take {all out : List Nat} {next : Nat} {t : T} (h : Pre all next t out) (hall : all.length ≤ 1000) {now : Nat} {g : G} {fr n : Nat} (hf : fr + n ≤ all.length) (hseq : g.seq = (next + fr) % 4294967296) (hd : g.data = (all.drop fr).take n) {c' : C} (ht : Take now g t c') : Pre all next c'.t out := by
 have hk := (take_kept h.ck ht).chk
 obtain ⟨p, hp, hg, ha⟩ := h.got
 have same : Pre all next t out := h
 unfold Take at ht
 split at ht
 · subst ht; exact same
 · rename_i q
   simp only [not_or] at q
   have h3 : 3 ≤ t.st := by have := h.st; have := q.2.2.2; omega
   rw [if_neg (by omega)] at ht
   have hst : c'.t.st = 0 ∨ 3 ≤ c'.t.st := by
     obtain ⟨_, hn⟩ := chkT_iff.1 hk
     have hgc : chkG g = true := by simpa using q.1
     clear hk hn
     unfold Taken at ht
     split at ht
     · subst ht; exact .inr h3
     · split at ht
       · subst ht
         split
         · exact .inr h3
         · split <;> exact .inr h3
       · split at ht
         · subst ht; exact .inl rfl
         · split at ht
           · subst ht; exact .inr h3
           · split at ht
             · subst ht; exact .inr h3
             · obtain ⟨ka, kb⟩ := acked_kept (start h.ck) (show 2 ≤ t.st by omega) hgc now
               split at ht
               · subst ht
                 -- not all goes on: the same, or closed
                 unfold acked
                 rw [if_neg (show ¬ t.st = 2 by omega)]
                 split
                 · exact .inr h3
                 · split
                   · exact .inr h3
                   · show (if 0 < dif g.ack t.una then _ else _ : C × Bool).1.t.st = 0 ∨ 3 ≤ (if 0 < dif g.ack t.una then _ else _ : C × Bool).1.t.st
                     split
                     · unfold gone
                       split
                       · exact .inr h3
                       · unfold goneEnd
                         split
                         · exact .inr (by show 3 ≤ 5; decide)
                         · split
                           · exact .inr (by show 3 ≤ 9; decide)
                           · split
                             · exact .inl rfl
                             · exact .inr h3
                     · split <;> exact .inr h3
               · rename_i qa
                 obtain ⟨c1, hc1, rfl⟩ := ht
                 have k3 := kb (by simpa using qa)
                 obtain ⟨_, _, s1⟩ := carried_kept ka.1 ((numbers_nm k3).1 ka.2) k3 hc1
                 have hfi := flush_inn now c1
                 unfold lastAck
                 split
                 · exact .inr (by show 3 ≤ (flush now c1).t.st; rw [hfi.2]; exact s1)
                 · exact .inr (by rw [hfi.2]; exact s1)
   refine ⟨hk, hst, ?_⟩
   clear hst
   unfold Taken at ht
   split at ht
   · subst ht; exact ⟨p, hp, hg, ha⟩
   · split at ht
     · subst ht
       split
       · exact ⟨p, hp, hg, ha⟩
       · split
         · exact ⟨p, hp, hg, ha⟩
         · exact ⟨p, hp, hg, ha⟩
     · split at ht
       · subst ht; exact ⟨p, hp, hg, fun h => by cases h⟩
       · split at ht
         · subst ht; exact ⟨p, hp, hg, ha⟩
         · split at ht
           · subst ht; exact ⟨p, hp, hg, ha⟩
           · have hai := acked_inn now g (c := ⟨t, []⟩) (show t.st ≠ 2 by omega)
             split at ht
             · subst ht
               refine ⟨p, hp, by rw [hai.1]; exact hg, fun ho => by rw [hai.1]; exact ha (hai.2 ho)⟩
             · obtain ⟨c1, hc1, rfl⟩ := ht
               obtain ⟨p', e1, e2, e3⟩ := Pre.carried hall hp (by rw [hai.1]; exact hg) (fun ho => by rw [hai.1]; exact ha (hai.2 ho)) hf hseq hd hc1
               have hfi := flush_inn now c1
               have hop : openS (flush now c1).t = openS c1.t := by unfold openS; rw [hfi.2]
               unfold lastAck
               split
               · exact ⟨p', e1, by show out ++ (flush now c1).t.inn.bytes = _; rw [hfi.1]; exact e2, fun ho => by
                   show Agr all next (flush now c1).t.inn p'
                   rw [hfi.1]; exact e3 (by rw [← hop]; exact ho)⟩
               · exact ⟨p', e1, by rw [hfi.1]; exact e2, fun ho => by rw [hfi.1]; exact e3 (by rw [← hop]; exact ho)⟩
end Go.Proofs.Tp
end

section
/-
 What is written comes, and is acknowledged, whatever is lost (layer 26), in plain words. No program in sight.
-/
namespace Go.Proofs.Tp
open Go.Proofs.Wi
/-- How long one waits behind so many tries. -/
def Rk (k : Nat) : Nat := min (4 * 2 ^ k) 64
def Bk : Nat → Nat
 | 0 => 0
 | k + 1 => Bk k + Rk k
theorem Rk_next (k : Nat) : min (2 * Rk k) 64 = Rk (k + 1) := by
 unfold Rk
 rw [Nat.pow_succ]
 omega
theorem Rk_rng (k : Nat) : 1 ≤ Rk k ∧ Rk k ≤ 64 := by
 unfold Rk
 have := Nat.pow_pos (n := k) (show 0 < 2 by decide)
 omega
theorem Bk_top {k : Nat} (h : k ≤ 9) : Bk k ≤ 380 := by
 match k, h with
 | 0, _ => decide
 | 1, _ => decide
 | 2, _ => decide
 | 3, _ => decide
 | 4, _ => decide
 | 5, _ => decide
 | 6, _ => decide
 | 7, _ => decide
 | 8, _ => decide
 | 9, _ => decide
 | k + 10, h => omega
/-- The one that wrote: u bytes of it are acknowledged. -/
def aT (iss irs : Nat) (data : List Nat) (u wnd now tr : Nat) : T := ⟨3, 7, 0, 80, iss, u32 (iss + 1 + u), u32 (iss + 1 + data.length), data.drop u, wnd, false, false, ⟨u32 (irs + 1), [], []⟩, false, if u < data.length then now + Rk tr else 0, Rk tr, tr, 0⟩
/-- The one that takes. -/
def bT (irs : Nat) (s : St) : T := ⟨3, 80, 0, 7, irs, u32 (irs + 1), u32 (irs + 1), [], 256, false, false, s, false, 0, 4, 0, 0⟩
def gA (iss irs : Nat) (data : List Nat) (off len : Nat) : G := ⟨7, 80, u32 (iss + 1 + off), u32 (irs + 1), 24, 256, (data.drop off).take len⟩
def gB (iss irs v w : Nat) : G := ⟨80, 7, u32 (irs + 1), u32 (iss + 1 + v), 16, w, []⟩
theorem dif_u (x a b : Nat) (ha : a ≤ 100000) (hb : b ≤ 100000) : dif (u32 (x + a)) (u32 (x + b)) = (a : Int) - b := by
 unfold dif u32
 split <;> omega
theorem dif_uu (x : Nat) : dif (u32 x) (u32 x) = 0 := dif_self _
theorem aT_flight {iss irs u wnd now tr : Nat} {data : List Nat} (hn : data.length ≤ 200) (hu : u ≤ data.length) : flight (aT iss irs data u wnd now tr) = (data.length : Int) - u := by
 show dif (u32 (iss + 1 + data.length)) (u32 (iss + 1 + u)) = _
 rw [dif_u _ _ _ (by omega) (by omega)]
theorem aT_own {iss irs u wnd now tr : Nat} {data : List Nat} (hn : data.length ≤ 200) (hu : u ≤ data.length) : own (aT iss irs data u wnd now tr) = (data.length : Int) - u := by
 rw [own_noSe rfl, aT_flight hn hu]
theorem aT_chk {iss irs u wnd now tr : Nat} {data : List Nat} (hn : data.length ≤ 200) (hu : u ≤ data.length) (hw : wnd ≤ 65535) (ht : tr ≤ 12) (hnow : now ≤ 1000000) : chkT (aT iss irs data u wnd now tr) = true := by
 refine chkT_iff.2 ⟨⟨by show 3 ≤ 9; decide, ⟨by show 1 ≤ 7; decide, by show 7 ≤ 65535; decide⟩, ⟨by show 1 ≤ 80; decide, by show 80 ≤ 65535; decide⟩, ?_, hw, (fun h => nomatch h), ?_, Rk_rng tr, ht, Nat.zero_le _, chk_empty _ _ (Nat.zero_le _)⟩, ?_⟩
 · show (data.drop u).length ≤ 256
   rw [List.length_drop]; omega
 · show (if u < data.length then now + Rk tr else 0) ≤ 1099511627776
   have := Rk_rng tr
   split <;> omega
 · refine (numbers_nm (by show 3 ≤ 3; decide)).2 ?_
   unfold Nm
   rw [aT_own hn hu]
   show 0 ≤ (data.length : Int) - u ∧ (data.length : Int) - u ≤ ((data.drop u).length : Nat)
   rw [List.length_drop]; omega
theorem bT_chk {irs : Nat} {s : St} (h : chk s = true) : chkT (bT irs s) = true := by
 refine chkT_iff.2 ⟨⟨by show 3 ≤ 9; decide, ⟨by show 1 ≤ 80; decide, by show 80 ≤ 65535; decide⟩, ⟨by show 1 ≤ 7; decide, by show 7 ≤ 65535; decide⟩, by show 0 ≤ 256; decide, by show 256 ≤ 65535; decide, (fun h => nomatch h), by show 0 ≤ 1099511627776; decide, ⟨by show 1 ≤ 4; decide, by show 4 ≤ 64; decide⟩, by show 0 ≤ 12; decide, Nat.zero_le _, h⟩, ?_⟩
 refine (numbers_nm (by show 3 ≤ 3; decide)).2 ?_
 unfold Nm
 rw [own_noSe rfl]
 show 0 ≤ dif (u32 (irs + 1)) (u32 (irs + 1)) ∧ dif (u32 (irs + 1)) (u32 (irs + 1)) ≤ 0
 rw [dif_uu]; decide
theorem gA_chk {iss irs off len : Nat} {data : List Nat} (h : len ≤ 64) : chkG (gA iss irs data off len) = true := by
 unfold chkG
 rw [decide_eq_true_eq]
 refine ⟨by show 1 ≤ 7; decide, by show 7 ≤ 65535; decide, by show 1 ≤ 80; decide, by show 80 ≤ 65535; decide, by show 24 ≤ 31; decide, by show 256 ≤ 65535; decide, ?_⟩
 show ((data.drop off).take len).length ≤ 64
 rw [List.length_take]; omega
theorem gB_chk {iss irs v w : Nat} (h : w ≤ 65535) : chkG (gB iss irs v w) = true := by
 unfold chkG
 rw [decide_eq_true_eq]
 exact ⟨by show 1 ≤ 80; decide, by show 80 ≤ 65535; decide, by show 1 ≤ 7; decide, by show 7 ≤ 65535; decide, by show 16 ≤ 31; decide, h, by show 0 ≤ 64; decide⟩
/-- What a connection that runs comes to by a segment without flags but an acknowledgement. -/
theorem Take_est {now : Nat} {g : G} {t : T} {c' : C} (h : Take now g t c') (h0 : chkG g = true) (h1 : g.src = t.po) (h2 : g.dst = t.lo) (h3 : t.st = 3) (hf : g.fl = 16 ∨ g.fl = 24) :
   (fits g t = false ∧ c' = ackC ⟨t, []⟩) ∨ (fits g t = true ∧ (((acked now g ⟨t, []⟩).2 = false ∧ c' = (acked now g ⟨t, []⟩).1) ∨ ((acked now g ⟨t, []⟩).2 = true ∧ ∃ s', (if openS (acked now g ⟨t, []⟩).1.t = true ∧ 0 < g.data.length then Took1 (acked now g ⟨t, []⟩).1.t.inn g.seq g.data s' else s' = (acked now g ⟨t, []⟩).1.t.inn) ∧ c' = lastAck g (flush now { (acked now g ⟨t, []⟩).1 with t := { (acked now g ⟨t, []⟩).1.t with inn := s' } })))) := by
 have f4 : has g.fl 4 = false := by rcases hf with e | e <;> rw [e] <;> decide
 have f2 : has g.fl 2 = false := by rcases hf with e | e <;> rw [e] <;> decide
 have f16 : has g.fl 16 = true := by rcases hf with e | e <;> rw [e] <;> decide
 have f1 : has g.fl 1 = false := by rcases hf with e | e <;> rw [e] <;> decide
 unfold Take at h
 rw [if_neg (by rintro (x | x | x | x); · rw [h0] at x; cases x
                · exact x h1
                · exact x h2
                · omega), if_neg (by omega)] at h
 unfold Taken at h
 have ha : againSyn g t = false := by unfold againSyn; rw [h3]; rfl
 rw [if_neg (by show ¬ againSyn g t = true; rw [ha]; decide)] at h
 by_cases q : fits g t = false
 · rw [if_pos q, if_neg (by rw [f4]; decide), if_neg (by rintro ⟨x, _⟩; have : t.st = 9 := x; omega)] at h
   exact .inl ⟨q, h⟩
 · rw [if_neg q, if_neg (by rw [f4]; decide), if_neg (by rw [f2]; decide), if_neg (by rw [f16]; decide)] at h
   refine .inr ⟨by simpa using q, ?_⟩
   by_cases q2 : (acked now g ⟨t, []⟩).2 = false
   · rw [if_pos q2] at h; exact .inl ⟨q2, h⟩
   · rw [if_neg q2] at h
     obtain ⟨c1, ⟨s', h10, h11⟩, h12⟩ := h
     refine .inr ⟨by simpa using q2, s', h10, ?_⟩
     rw [h12, h11]
     dsimp only
     rw [if_pos f1]
/-- Nothing to be sent, nothing under way. -/
theorem flush_idle0 {now : Nat} {c : C} (h1 : c.t.data = []) (h2 : c.t.en = false) (h3 : c.t.se = false) (h4 : flight c.t = 0) : flush now c = c := by
 have ho : Tp.own c.t = 0 := by rw [own_noSe h3, h4]
 have hr : room1 c.t ≤ 0 := by unfold room1; rw [h1, ho]; simp only [List.length_nil]; omega
 unfold flush
 split
 · rfl
 · rw [segs_succ, if_pos hr]
   have hf : fin1 c = c := by
     unfold fin1
     rw [if_neg (by rw [h2]; intro h; exact absurd h.2.1 (by decide))]
   show flushT now _ (fin1 c) = c
   rw [hf]
   unfold flushT
   rw [if_neg]
   rw [h1, ho, h4]
   simp
theorem dl_len {data : List Nat} {off len : Nat} (h : off + len ≤ data.length) : ((data.drop off).take len).length = len := by
 rw [List.length_take, List.length_drop]; omega
/-- The one that takes gets a segment. -/
theorem b_take {iss irs p off len now : Nat} {data : List Nat} {s : St} {c' : C} (hall : data.length ≤ 200) (hs : s.bytes = []) (hA : Agr data (u32 (iss + 1)) s p) (h1 : 1 ≤ len) (h64 : len ≤ 64) (ho : off + len ≤ data.length) (hT : Take now (gA iss irs data off len) (bT irs s) c') :
   ∃ s' p', c' = ⟨bT irs s', [gB iss irs p' (room s').toNat]⟩ ∧ Agr data (u32 (iss + 1)) s' p' ∧ p ≤ p' ∧ s'.bytes = (data.drop p).take (p' - p) ∧ (off ≤ p → off + len ≤ p') ∧ s'.bytes.length ≤ 200 ∧ 56 ≤ room s' ∧ room s' ≤ 256 := by
 obtain ⟨r0, r1, r2⟩ := room_nn hA.ok
 rw [hs] at r1
 have r3 : room s = 256 := by simpa using r1
 have hpos := hA.pos
 have hnx : s.next = u32 (iss + 1 + p) := by have := hA.nxt; unfold u32 at *; omega
 have hlen : lenG (gA iss irs data off len) = len := by
   have e1 : has (gA iss irs data off len).fl 2 = false := by show has 24 2 = false; decide
   have e2 : has (gA iss irs data off len).fl 1 = false := by show has 24 1 = false; decide
   unfold lenG
   rw [e1, e2]
   show ((data.drop off).take len).length + (if false = true then 1 else 0) + (if false = true then 1 else 0) = len
   rw [dl_len ho]; rfl
 have hd : dif (gA iss irs data off len).seq (bT irs s).inn.next = (off : Int) - p := by
   show dif (u32 (iss + 1 + off)) s.next = _
   rw [hnx, dif_u _ _ _ (by omega) (by omega)]
 have hack : acked now (gA iss irs data off len) ⟨bT irs s, []⟩ = (⟨bT irs s, []⟩, true) := by
   have e1 : dif (gA iss irs data off len).ack (bT irs s).una = 0 := dif_uu _
   have e2 : flight (bT irs s) = 0 := dif_uu _
   unfold acked
   rw [if_neg (by show ¬ 3 = 2; decide)]
   show (if flight (bT irs s) < dif (gA iss irs data off len).ack (bT irs s).una then _ else _) = _
   rw [e1, e2, if_neg (by decide), if_neg (by decide), if_neg (by decide), if_neg (by show ¬ 256 = 0; decide)]
   rfl
 rcases Take_est hT (gA_chk h64) rfl rfl rfl (.inr rfl) with ⟨hf, rfl⟩ | ⟨hf, h⟩
 · have hp : off + len ≤ p := by
     unfold fits inside at hf
     rw [hlen, hd, if_neg (by omega)] at hf
     have hr : room (bT irs s).inn = 256 := r3
     rw [hr] at hf
     simp only [Bool.or_eq_false_iff, decide_eq_false_iff_not] at hf
     omega
   refine ⟨s, p, ?_, hA, Nat.le_refl _, by rw [hs, Nat.sub_self, List.take_zero], fun _ => hp, by rw [hs]; exact Nat.zero_le _, by omega, by omega⟩
   show (⟨bT irs s, [] ++ [Tp.seg (bT irs s) 16 (u32 (irs + 1)) []]⟩ : C) = _
   show (⟨bT irs s, [⟨80, 7, u32 (irs + 1), s.next, 16, (room s).toNat, []⟩]⟩ : C) = _
   rw [hnx]; rfl
 · rw [hack] at h
   rcases h with ⟨x, _⟩ | ⟨_, s', h1', h2'⟩
   · cases x
   · rw [if_pos ⟨rfl, by show 0 < ((data.drop off).take len).length; rw [dl_len ho]; omega⟩] at h1'
     obtain ⟨b, r, ht, rfl⟩ := h1'
     have hseq : (gA iss irs data off len).seq = (u32 (iss + 1) + off) % 4294967296 := by show u32 (iss + 1 + off) = _; unfold u32; omega
     rw [hseq] at ht
     obtain ⟨k1, k2, k3, k4⟩ := hA.take (by omega) ho ht
     obtain ⟨o1, o2, o3, o4, o5⟩ := out_ok hA.ok ht
     have hbl : (outS s b r).bytes = b := by show s.bytes ++ b = b; rw [hs]; rfl
     have hpp := k1.pos
     have hrm := room_nn k1.ok
     refine ⟨outS s b r, p + b.length, ?_, k1, Nat.le_add_right _ _, ?_, ?_, ?_, ?_, ?_⟩
     · rw [h2']
       have hfl : flush now ⟨bT irs (outS s b r), []⟩ = ⟨bT irs (outS s b r), []⟩ := by
         refine flush_idle0 rfl rfl rfl ?_
         exact dif_uu _
       show lastAck (gA iss irs data off len) (flush now ⟨bT irs (outS s b r), []⟩) = _
       rw [hfl]
       unfold lastAck
       rw [if_pos ⟨rfl, .inl (by show 0 < ((data.drop off).take len).length; rw [dl_len ho]; omega)⟩]
       show (⟨bT irs (outS s b r), [⟨80, 7, u32 (irs + 1), (outS s b r).next, 16, (room (outS s b r)).toNat, []⟩]⟩ : C) = _
       have : (outS s b r).next = u32 (iss + 1 + (p + b.length)) := by have := k1.nxt; unfold u32 at *; omega
       rw [this]; rfl
     · rw [hbl, Nat.add_sub_cancel_left]; exact k2
     · intro hop
       rcases Nat.lt_or_ge (p + b.length) (off + len) with e | e
       · exfalso
         have h9 := k4 (p + b.length) (by omega) e (by omega)
         obtain ⟨s1, s2, s3, s4⟩ := chk_spans k1.ok
         rcases h9 with g | ⟨v, g⟩
         · omega
         · rw [Nat.sub_self, s1.none (by simp)] at g; cases g
       · exact e
     · rw [hbl]; omega
     · rw [hrm.2.1, hbl]; omega
     · rw [hrm.2.1, hbl]; omega
/-- Nothing more to be sent; the timer goes on. -/
theorem flush_done {now : Nat} {c : C} (h0 : c.t.st = 3) (h1 : own c.t = c.t.data.length) (h2 : c.t.en = false) : flush now c = if c.t.tm = 0 ∧ 0 < flight c.t then wait now c.t.rto c else c := by
 have hr : room1 c.t ≤ 0 := by unfold room1; rw [h1]; omega
 have hf : fin1 c = c := by
   unfold fin1
   rw [if_neg (by rw [h2]; intro h; exact absurd h.2.1 (by decide))]
 unfold flush
 rw [if_neg (by unfold sends; rw [h0]; decide), segs_succ, if_pos hr]
 show flushT now (decide (own c.t < c.t.data.length)) (fin1 c) = _
 rw [hf, h1]
 unfold flushT
 simp
theorem later_small {now n : Nat} (h : now + n ≤ 1000000) : later now n = now + n := by
 unfold later; omega
/-- The one that wrote gets an acknowledgement. -/
theorem a_take {iss irs u wnd now tr v w : Nat} {data : List Nat} {c' : C} (hall : data.length ≤ 200) (hu : u ≤ data.length) (hv : v ≤ data.length) (hw1 : 1 ≤ w) (hw2 : w ≤ 256) (hn : now ≤ 900000) (hn0 : 1 ≤ now) (hT : Take now (gB iss irs v w) (aT iss irs data u wnd now tr) c') :
   (v ≤ u ∧ ∃ wnd', c' = ⟨aT iss irs data u wnd' now tr, []⟩ ∧ (wnd' = wnd ∨ wnd' = w)) ∨ (u < v ∧ c' = ⟨aT iss irs data v w now 0, []⟩) := by
 have hR := Rk_rng tr
 have hlen : lenG (gB iss irs v w) = 0 := by
   have e1 : has (gB iss irs v w).fl 2 = false := by show has 16 2 = false; decide
   have e2 : has (gB iss irs v w).fl 1 = false := by show has 16 1 = false; decide
   unfold lenG
   rw [e1, e2]; rfl
 have hfit : fits (gB iss irs v w) (aT iss irs data u wnd now tr) = true := by
   have hd : dif (gB iss irs v w).seq (aT iss irs data u wnd now tr).inn.next = 0 := dif_uu _
   unfold fits
   rw [hlen, if_pos rfl, hd]; rfl
 have ed : dif (gB iss irs v w).ack (aT iss irs data u wnd now tr).una = (v : Int) - u := by
   show dif (u32 (iss + 1 + v)) (u32 (iss + 1 + u)) = _
   rw [dif_u _ _ _ (by omega) (by omega)]
 have ef := aT_flight (iss := iss) (irs := irs) (wnd := wnd) (now := now) (tr := tr) hall hu
 have hfl : ∀ (x wn tr2 : Nat), x ≤ data.length → flush now ⟨aT iss irs data x wn now tr2, []⟩ = ⟨aT iss irs data x wn now tr2, []⟩ := by
   intro x wn tr2 hx
   have e1 := aT_own (iss := iss) (irs := irs) (wnd := wn) (now := now) (tr := tr2) hall hx
   have e2 := aT_flight (iss := iss) (irs := irs) (wnd := wn) (now := now) (tr := tr2) hall hx
   have e3 := Rk_rng tr2
   rw [flush_done rfl (by rw [e1]; show _ = (((data.drop x).length : Nat) : Int); rw [List.length_drop]; omega) rfl]
   rw [if_neg]
   show ¬ ((if x < data.length then now + Rk tr2 else 0) = 0 ∧ 0 < flight (aT iss irs data x wn now tr2))
   rw [e2]
   rintro ⟨q1, q2⟩
   rw [if_pos (by omega)] at q1
   omega
 have hidle : ∀ (x : C) (s' : St), (if openS x.t = true ∧ 0 < (gB iss irs v w).data.length then Took1 x.t.inn (gB iss irs v w).seq (gB iss irs v w).data s' else s' = x.t.inn) → s' = x.t.inn := by
   intro x s' h
   rw [if_neg (by rintro ⟨_, h⟩; exact absurd h (by show ¬ 0 < 0; decide))] at h
   exact h
 have hlast : ∀ x : C, lastAck (gB iss irs v w) x = x := by
   intro x
   unfold lastAck
   rw [if_neg]
   rintro ⟨_, h | h⟩
   · exact absurd h (by show ¬ 0 < 0; decide)
   · have : has 16 1 = true := h
     exact absurd this (by decide)
 rcases Take_est hT (gB_chk (by omega)) rfl rfl rfl (.inl rfl) with ⟨hf, _⟩ | ⟨_, h⟩
 · rw [hfit] at hf; cases hf
 have hack : acked now (gB iss irs v w) ⟨aT iss irs data u wnd now tr, []⟩ = (if v < u then (⟨aT iss irs data u wnd now tr, []⟩, true) else if v = u then (⟨aT iss irs data u w now tr, []⟩, true) else (⟨{ aT iss irs data v w now 0 with tm := 0 }, []⟩, true)) := by
   unfold acked
   rw [if_neg (by show ¬ 3 = 2; decide)]
   show (if flight (aT iss irs data u wnd now tr) < dif (gB iss irs v w).ack (aT iss irs data u wnd now tr).una then _ else _) = _
   rw [ed, ef, if_neg (by omega)]
   by_cases q1 : v < u
   · rw [if_pos q1, if_pos (by omega)]
   · rw [if_neg q1, if_neg (by omega)]
     by_cases q2 : v = u
     · rw [if_pos q2, if_neg (by omega), if_neg (by show ¬ w = 0; omega)]
       rfl
     · rw [if_neg q2, if_pos (by omega)]
       unfold gone
       rw [if_pos (by rfl)]
       have em : ((v : Int) - u).toNat = v - u := by omega
       rw [em]
       show ((⟨⟨3, 7, 0, 80, iss, u32 (u32 (iss + 1 + u) + (v - u)), u32 (iss + 1 + data.length), (data.drop u).drop (v - u), w, false, false, ⟨u32 (irs + 1), [], []⟩, false, 0, 4, 0, 0⟩, []⟩ : C), true) = _
       have e1 : u32 (u32 (iss + 1 + u) + (v - u)) = u32 (iss + 1 + v) := by unfold u32; omega
       have e2 : (data.drop u).drop (v - u) = data.drop v := by rw [List.drop_drop]; congr 1; omega
       rw [e1, e2]
       rfl
 rw [hack] at h
 by_cases q1 : v < u
 · rw [if_pos q1] at h
   rcases h with ⟨x, _⟩ | ⟨_, s', h1, h2⟩
   · cases x
   · have := hidle _ _ h1
     subst this
     refine .inl ⟨by omega, wnd, ?_, .inl rfl⟩
     rw [h2, hlast]
     exact hfl u wnd tr hu
 · rw [if_neg q1] at h
   by_cases q2 : v = u
   · rw [if_pos q2] at h
     rcases h with ⟨x, _⟩ | ⟨_, s', h1, h2⟩
     · cases x
     · have := hidle _ _ h1
       subst this
       refine .inl ⟨by omega, w, ?_, .inr rfl⟩
       rw [h2, hlast]
       exact hfl u w tr hu
   · rw [if_neg q2] at h
     rcases h with ⟨x, _⟩ | ⟨_, s', h1, h2⟩
     · cases x
     · have := hidle _ _ h1
       subst this
       refine .inr ⟨by omega, ?_⟩
       rw [h2, hlast]
       show flush now ⟨{ aT iss irs data v w now 0 with tm := 0 }, []⟩ = _
       have e1 := aT_own (iss := iss) (irs := irs) (wnd := w) (now := now) (tr := 0) hall hv
       have e2 := aT_flight (iss := iss) (irs := irs) (wnd := w) (now := now) (tr := 0) hall hv
       have e3 : flight { aT iss irs data v w now 0 with tm := 0 } = (data.length : Int) - v := e2
       have e4 : own { aT iss irs data v w now 0 with tm := 0 } = (data.length : Int) - v := e1
       rw [flush_done rfl (by show own { aT iss irs data v w now 0 with tm := 0 } = (((data.drop v).length : Nat) : Int); rw [e4, List.length_drop]; omega) rfl]
       show (if 0 = 0 ∧ 0 < flight { aT iss irs data v w now 0 with tm := 0 } then _ else _) = _
       rw [e3]
       by_cases q3 : v < data.length
       · rw [if_pos ⟨rfl, by omega⟩]
         unfold wait
         show (⟨{ aT iss irs data v w now 0 with tm := later now 4 }, []⟩ : C) = _
         rw [later_small (by omega)]
         unfold aT
         rw [if_pos q3]
         rfl
       · rw [if_neg (by omega)]
         unfold aT
         rw [if_neg q3]
/-- A timer comes. -/
theorem a_tick {iss irs u wnd now tr : Nat} {data : List Nat} (hall : data.length ≤ 200) (hu : u < data.length) (ht : tr < 12) (hn : now ≤ 900000) (hn0 : 1 ≤ now) :
   tick (now + Rk tr) ⟨aT iss irs data u wnd now tr, []⟩ = ⟨aT iss irs data u wnd (now + Rk tr) (tr + 1), [gA iss irs data u (min (data.length - u) 64)]⟩ := by
 have hR := Rk_rng tr
 have hR2 := Rk_rng (tr + 1)
 have etm : (aT iss irs data u wnd now tr).tm = now + Rk tr := by unfold aT; rw [if_pos hu]
 unfold tick
 show (if (aT iss irs data u wnd now tr).tm = 0 ∨ now + Rk tr < (aT iss irs data u wnd now tr).tm then _ else _) = _
 rw [etm, if_neg (by omega), if_neg (by show ¬ 3 = 9; decide), if_neg (by show ¬ tr = 12; omega)]
 show again ⟨⟨3, 7, 0, 80, iss, u32 (iss + 1 + u), u32 (iss + 1 + data.length), data.drop u, wnd, false, false, ⟨u32 (irs + 1), [], []⟩, false, later (now + Rk tr) (min (2 * Rk tr) 64), min (2 * Rk tr) 64, tr + 1, 0⟩, []⟩ = _
 rw [Rk_next, later_small (by omega)]
 have e0 : (⟨3, 7, 0, 80, iss, u32 (iss + 1 + u), u32 (iss + 1 + data.length), data.drop u, wnd, false, false, ⟨u32 (irs + 1), [], []⟩, false, now + Rk tr + Rk (tr + 1), Rk (tr + 1), tr + 1, 0⟩ : T) = aT iss irs data u wnd (now + Rk tr) (tr + 1) := by
   unfold aT; rw [if_pos hu]
 rw [e0]
 have e1 := aT_own (iss := iss) (irs := irs) (wnd := wnd) (now := now + Rk tr) (tr := tr + 1) hall (Nat.le_of_lt hu)
 unfold again
 rw [if_neg (by show ¬ 3 = 1; decide), if_neg (by show ¬ 3 = 2; decide)]
 show (if 0 < own (aT iss irs data u wnd (now + Rk tr) (tr + 1)) then send 24 (u32 (iss + 1 + u)) ((data.drop u).take (min (own (aT iss irs data u wnd (now + Rk tr) (tr + 1))).toNat 64)) _ else _) = _
 rw [e1, if_pos (by omega)]
 have e2 : ((data.length : Int) - u).toNat = data.length - u := by omega
 rw [e2]
 show (⟨aT iss irs data u wnd (now + Rk tr) (tr + 1), [⟨7, 80, u32 (iss + 1 + u), u32 (irs + 1), 24, (room ⟨u32 (irs + 1), [], []⟩).toNat, (data.drop u).take (min (data.length - u) 64)⟩]⟩ : C) = _
 have e3 : room ⟨u32 (irs + 1), [], []⟩ = 256 := by
   unfold room
   rw [chk_empty _ [] (Nat.zero_le _), if_pos rfl]; rfl
 rw [e3]; rfl
end Go.Proofs.Tp
end
