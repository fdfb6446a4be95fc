import Derived.Test.YthenepdbgeafkaaGAB
set_option linter.unusedSimpArgs false
set_option linter.unusedVariables false
section
/-
 What is written comes, and is acknowledged, whatever is lost (layer 26), in plain words. No program in sight.
-/
namespace Go.Proofs.Tp
open Go.Proofs.Wi
/-- How long one waits behind so many tries. -/
def Rk (k : Nat) : Nat := min (4 * 2 ^ k) 64
def Bk : Nat → Nat
 | 0 => 0
 | k + 1 => Bk k + Rk k
theorem Rk_next (k : Nat) : min (2 * Rk k) 64 = Rk (k + 1) := by
 unfold Rk
 rw [Nat.pow_succ]
 omega
theorem Rk_rng (k : Nat) : 1 ≤ Rk k ∧ Rk k ≤ 64 := by
 unfold Rk
 have := Nat.pow_pos (n := k) (show 0 < 2 by decide)
 omega
theorem Bk_top {k : Nat} (h : k ≤ 9) : Bk k ≤ 380 := by
 match k, h with
 | 0, _ => decide
 | 1, _ => decide
 | 2, _ => decide
 | 3, _ => decide
 | 4, _ => decide
 | 5, _ => decide
 | 6, _ => decide
 | 7, _ => decide
 | 8, _ => decide
 | 9, _ => decide
 | k + 10, h => omega
/-- The one that wrote: u bytes of it are acknowledged. -/
def aT (iss irs : Nat) (data : List Nat) (u wnd now tr : Nat) : T := ⟨3, 7, 0, 80, iss, u32 (iss + 1 + u), u32 (iss + 1 + data.length), data.drop u, wnd, false, false, ⟨u32 (irs + 1), [], []⟩, false, if u < data.length then now + Rk tr else 0, Rk tr, tr, 0⟩
/-- The one that takes. -/
def bT (irs : Nat) (s : St) : T := ⟨3, 80, 0, 7, irs, u32 (irs + 1), u32 (irs + 1), [], 256, false, false, s, false, 0, 4, 0, 0⟩
def gA (iss irs : Nat) (data : List Nat) (off len : Nat) : G := ⟨7, 80, u32 (iss + 1 + off), u32 (irs + 1), 24, 256, (data.drop off).take len⟩
def gB (iss irs v w : Nat) : G := ⟨80, 7, u32 (irs + 1), u32 (iss + 1 + v), 16, w, []⟩
theorem dif_u (x a b : Nat) (ha : a ≤ 100000) (hb : b ≤ 100000) : dif (u32 (x + a)) (u32 (x + b)) = (a : Int) - b := by
 unfold dif u32
 split <;> omega
theorem dif_uu (x : Nat) : dif (u32 x) (u32 x) = 0 := dif_self _
theorem aT_flight {iss irs u wnd now tr : Nat} {data : List Nat} (hn : data.length ≤ 200) (hu : u ≤ data.length) : flight (aT iss irs data u wnd now tr) = (data.length : Int) - u := by
 show dif (u32 (iss + 1 + data.length)) (u32 (iss + 1 + u)) = _
 rw [dif_u _ _ _ (by omega) (by omega)]
theorem aT_own {iss irs u wnd now tr : Nat} {data : List Nat} (hn : data.length ≤ 200) (hu : u ≤ data.length) : own (aT iss irs data u wnd now tr) = (data.length : Int) - u := by
 rw [own_noSe rfl, aT_flight hn hu]
theorem aT_chk {iss irs u wnd now tr : Nat} {data : List Nat} (hn : data.length ≤ 200) (hu : u ≤ data.length) (hw : wnd ≤ 65535) (ht : tr ≤ 12) (hnow : now ≤ 1000000) : chkT (aT iss irs data u wnd now tr) = true := by
 refine chkT_iff.2 ⟨⟨by show 3 ≤ 9; decide, ⟨by show 1 ≤ 7; decide, by show 7 ≤ 65535; decide⟩, ⟨by show 1 ≤ 80; decide, by show 80 ≤ 65535; decide⟩, ?_, hw, (fun h => nomatch h), ?_, Rk_rng tr, ht, Nat.zero_le _, chk_empty _ _ (Nat.zero_le _)⟩, ?_⟩
 · show (data.drop u).length ≤ 256
   rw [List.length_drop]; omega
 · show (if u < data.length then now + Rk tr else 0) ≤ 1099511627776
   have := Rk_rng tr
   split <;> omega
 · refine (numbers_nm (by show 3 ≤ 3; decide)).2 ?_
   unfold Nm
   rw [aT_own hn hu]
   show 0 ≤ (data.length : Int) - u ∧ (data.length : Int) - u ≤ ((data.drop u).length : Nat)
   rw [List.length_drop]; omega
theorem bT_chk {irs : Nat} {s : St} (h : chk s = true) : chkT (bT irs s) = true := by
 refine chkT_iff.2 ⟨⟨by show 3 ≤ 9; decide, ⟨by show 1 ≤ 80; decide, by show 80 ≤ 65535; decide⟩, ⟨by show 1 ≤ 7; decide, by show 7 ≤ 65535; decide⟩, by show 0 ≤ 256; decide, by show 256 ≤ 65535; decide, (fun h => nomatch h), by show 0 ≤ 1099511627776; decide, ⟨by show 1 ≤ 4; decide, by show 4 ≤ 64; decide⟩, by show 0 ≤ 12; decide, Nat.zero_le _, h⟩, ?_⟩
 refine (numbers_nm (by show 3 ≤ 3; decide)).2 ?_
 unfold Nm
 rw [own_noSe rfl]
 show 0 ≤ dif (u32 (irs + 1)) (u32 (irs + 1)) ∧ dif (u32 (irs + 1)) (u32 (irs + 1)) ≤ 0
 rw [dif_uu]; decide
theorem gA_chk {iss irs off len : Nat} {data : List Nat} (h : len ≤ 64) : chkG (gA iss irs data off len) = true := by
 unfold chkG
 rw [decide_eq_true_eq]
 refine ⟨by show 1 ≤ 7; decide, by show 7 ≤ 65535; decide, by show 1 ≤ 80; decide, by show 80 ≤ 65535; decide, by show 24 ≤ 31; decide, by show 256 ≤ 65535; decide, ?_⟩
 show ((data.drop off).take len).length ≤ 64
 rw [List.length_take]; omega
theorem gB_chk {iss irs v w : Nat} (h : w ≤ 65535) : chkG (gB iss irs v w) = true := by
 unfold chkG
 rw [decide_eq_true_eq]
 exact ⟨by show 1 ≤ 80; decide, by show 80 ≤ 65535; decide, by show 1 ≤ 7; decide, by show 7 ≤ 65535; decide, by show 16 ≤ 31; decide, h, by show 0 ≤ 64; decide⟩
/-- What a connection that runs comes to by a segment without flags but an acknowledgement. -/
theorem Take_est {now : Nat} {g : G} {t : T} {c' : C} (h : Take now g t c') (h0 : chkG g = true) (h1 : g.src = t.po) (h2 : g.dst = t.lo) (h3 : t.st = 3) (hf : g.fl = 16 ∨ g.fl = 24) :
   (fits g t = false ∧ c' = ackC ⟨t, []⟩) ∨ (fits g t = true ∧ (((acked now g ⟨t, []⟩).2 = false ∧ c' = (acked now g ⟨t, []⟩).1) ∨ ((acked now g ⟨t, []⟩).2 = true ∧ ∃ s', (if openS (acked now g ⟨t, []⟩).1.t = true ∧ 0 < g.data.length then Took1 (acked now g ⟨t, []⟩).1.t.inn g.seq g.data s' else s' = (acked now g ⟨t, []⟩).1.t.inn) ∧ c' = lastAck g (flush now { (acked now g ⟨t, []⟩).1 with t := { (acked now g ⟨t, []⟩).1.t with inn := s' } })))) := by
 have f4 : has g.fl 4 = false := by rcases hf with e | e <;> rw [e] <;> decide
 have f2 : has g.fl 2 = false := by rcases hf with e | e <;> rw [e] <;> decide
 have f16 : has g.fl 16 = true := by rcases hf with e | e <;> rw [e] <;> decide
 have f1 : has g.fl 1 = false := by rcases hf with e | e <;> rw [e] <;> decide
 unfold Take at h
 rw [if_neg (by rintro (x | x | x | x); · rw [h0] at x; cases x
                · exact x h1
                · exact x h2
                · omega), if_neg (by omega)] at h
 unfold Taken at h
 have ha : againSyn g t = false := by unfold againSyn; rw [h3]; rfl
 rw [if_neg (by show ¬ againSyn g t = true; rw [ha]; decide)] at h
 by_cases q : fits g t = false
 · rw [if_pos q, if_neg (by rw [f4]; decide), if_neg (by rintro ⟨x, _⟩; have : t.st = 9 := x; omega)] at h
   exact .inl ⟨q, h⟩
 · rw [if_neg q, if_neg (by rw [f4]; decide), if_neg (by rw [f2]; decide), if_neg (by rw [f16]; decide)] at h
   refine .inr ⟨by simpa using q, ?_⟩
   by_cases q2 : (acked now g ⟨t, []⟩).2 = false
   · rw [if_pos q2] at h; exact .inl ⟨q2, h⟩
   · rw [if_neg q2] at h
     obtain ⟨c1, ⟨s', h10, h11⟩, h12⟩ := h
     refine .inr ⟨by simpa using q2, s', h10, ?_⟩
     rw [h12, h11]
     dsimp only
     rw [if_pos f1]
/-- Nothing to be sent, nothing under way. -/
theorem flush_idle0 {now : Nat} {c : C} (h1 : c.t.data = []) (h2 : c.t.en = false) (h3 : c.t.se = false) (h4 : flight c.t = 0) : flush now c = c := by
 have ho : Tp.own c.t = 0 := by rw [own_noSe h3, h4]
 have hr : room1 c.t ≤ 0 := by unfold room1; rw [h1, ho]; simp only [List.length_nil]; omega
 unfold flush
 split
 · rfl
 · rw [segs_succ, if_pos hr]
   have hf : fin1 c = c := by
     unfold fin1
     rw [if_neg (by rw [h2]; intro h; exact absurd h.2.1 (by decide))]
   show flushT now _ (fin1 c) = c
   rw [hf]
   unfold flushT
   rw [if_neg]
   rw [h1, ho, h4]
   simp
theorem dl_len {data : List Nat} {off len : Nat} (h : off + len ≤ data.length) : ((data.drop off).take len).length = len := by
 rw [List.length_take, List.length_drop]; omega
/-- The one that takes gets a segment. -/
theorem b_take {iss irs p off len now : Nat} {data : List Nat} {s : St} {c' : C} (hall : data.length ≤ 200) (hs : s.bytes = []) (hA : Agr data (u32 (iss + 1)) s p) (h1 : 1 ≤ len) (h64 : len ≤ 64) (ho : off + len ≤ data.length) (hT : Take now (gA iss irs data off len) (bT irs s) c') :
   ∃ s' p', c' = ⟨bT irs s', [gB iss irs p' (room s').toNat]⟩ ∧ Agr data (u32 (iss + 1)) s' p' ∧ p ≤ p' ∧ s'.bytes = (data.drop p).take (p' - p) ∧ (off ≤ p → off + len ≤ p') ∧ s'.bytes.length ≤ 200 ∧ 56 ≤ room s' ∧ room s' ≤ 256 := by
 obtain ⟨r0, r1, r2⟩ := room_nn hA.ok
 rw [hs] at r1
 have r3 : room s = 256 := by simpa using r1
 have hpos := hA.pos
 have hnx : s.next = u32 (iss + 1 + p) := by have := hA.nxt; unfold u32 at *; omega
 have hlen : lenG (gA iss irs data off len) = len := by
   have e1 : has (gA iss irs data off len).fl 2 = false := by show has 24 2 = false; decide
   have e2 : has (gA iss irs data off len).fl 1 = false := by show has 24 1 = false; decide
   unfold lenG
   rw [e1, e2]
   show ((data.drop off).take len).length + (if false = true then 1 else 0) + (if false = true then 1 else 0) = len
   rw [dl_len ho]; rfl
 have hd : dif (gA iss irs data off len).seq (bT irs s).inn.next = (off : Int) - p := by
   show dif (u32 (iss + 1 + off)) s.next = _
   rw [hnx, dif_u _ _ _ (by omega) (by omega)]
 have hack : acked now (gA iss irs data off len) ⟨bT irs s, []⟩ = (⟨bT irs s, []⟩, true) := by
   have e1 : dif (gA iss irs data off len).ack (bT irs s).una = 0 := dif_uu _
   have e2 : flight (bT irs s) = 0 := dif_uu _
   unfold acked
   rw [if_neg (by show ¬ 3 = 2; decide)]
   show (if flight (bT irs s) < dif (gA iss irs data off len).ack (bT irs s).una then _ else _) = _
   rw [e1, e2, if_neg (by decide), if_neg (by decide), if_neg (by decide), if_neg (by show ¬ 256 = 0; decide)]
   rfl
 rcases Take_est hT (gA_chk h64) rfl rfl rfl (.inr rfl) with ⟨hf, rfl⟩ | ⟨hf, h⟩
 · have hp : off + len ≤ p := by
     unfold fits inside at hf
     rw [hlen, hd, if_neg (by omega)] at hf
     have hr : room (bT irs s).inn = 256 := r3
     rw [hr] at hf
     simp only [Bool.or_eq_false_iff, decide_eq_false_iff_not] at hf
     omega
   refine ⟨s, p, ?_, hA, Nat.le_refl _, by rw [hs, Nat.sub_self, List.take_zero], fun _ => hp, by rw [hs]; exact Nat.zero_le _, by omega, by omega⟩
   show (⟨bT irs s, [] ++ [Tp.seg (bT irs s) 16 (u32 (irs + 1)) []]⟩ : C) = _
   show (⟨bT irs s, [⟨80, 7, u32 (irs + 1), s.next, 16, (room s).toNat, []⟩]⟩ : C) = _
   rw [hnx]; rfl
 · rw [hack] at h
   rcases h with ⟨x, _⟩ | ⟨_, s', h1', h2'⟩
   · cases x
   · rw [if_pos ⟨rfl, by show 0 < ((data.drop off).take len).length; rw [dl_len ho]; omega⟩] at h1'
     obtain ⟨b, r, ht, rfl⟩ := h1'
     have hseq : (gA iss irs data off len).seq = (u32 (iss + 1) + off) % 4294967296 := by show u32 (iss + 1 + off) = _; unfold u32; omega
     rw [hseq] at ht
     obtain ⟨k1, k2, k3, k4⟩ := hA.take (by omega) ho ht
     obtain ⟨o1, o2, o3, o4, o5⟩ := out_ok hA.ok ht
     have hbl : (outS s b r).bytes = b := by show s.bytes ++ b = b; rw [hs]; rfl
     have hpp := k1.pos
     have hrm := room_nn k1.ok
     refine ⟨outS s b r, p + b.length, ?_, k1, Nat.le_add_right _ _, ?_, ?_, ?_, ?_, ?_⟩
     · rw [h2']
       have hfl : flush now ⟨bT irs (outS s b r), []⟩ = ⟨bT irs (outS s b r), []⟩ := by
         refine flush_idle0 rfl rfl rfl ?_
         exact dif_uu _
       show lastAck (gA iss irs data off len) (flush now ⟨bT irs (outS s b r), []⟩) = _
       rw [hfl]
       unfold lastAck
       rw [if_pos ⟨rfl, .inl (by show 0 < ((data.drop off).take len).length; rw [dl_len ho]; omega)⟩]
       show (⟨bT irs (outS s b r), [⟨80, 7, u32 (irs + 1), (outS s b r).next, 16, (room (outS s b r)).toNat, []⟩]⟩ : C) = _
       have : (outS s b r).next = u32 (iss + 1 + (p + b.length)) := by have := k1.nxt; unfold u32 at *; omega
       rw [this]; rfl
     · rw [hbl, Nat.add_sub_cancel_left]; exact k2
     · intro hop
       rcases Nat.lt_or_ge (p + b.length) (off + len) with e | e
       · exfalso
         have h9 := k4 (p + b.length) (by omega) e (by omega)
         obtain ⟨s1, s2, s3, s4⟩ := chk_spans k1.ok
         rcases h9 with g | ⟨v, g⟩
         · omega
         · rw [Nat.sub_self, s1.none (by simp)] at g; cases g
       · exact e
     · rw [hbl]; omega
     · rw [hrm.2.1, hbl]; omega
     · rw [hrm.2.1, hbl]; omega
/-- Nothing more to be sent; the timer goes on. -/
theorem flush_done {now : Nat} {c : C} (h0 : c.t.st = 3) (h1 : own c.t = c.t.data.length) (h2 : c.t.en = false) : flush now c = if c.t.tm = 0 ∧ 0 < flight c.t then wait now c.t.rto c else c := by
 have hr : room1 c.t ≤ 0 := by unfold room1; rw [h1]; omega
 have hf : fin1 c = c := by
   unfold fin1
   rw [if_neg (by rw [h2]; intro h; exact absurd h.2.1 (by decide))]
 unfold flush
 rw [if_neg (by unfold sends; rw [h0]; decide), segs_succ, if_pos hr]
 show flushT now (decide (own c.t < c.t.data.length)) (fin1 c) = _
 rw [hf, h1]
 unfold flushT
 simp
theorem later_small {now n : Nat} (h : now + n ≤ 1000000) : later now n = now + n := by
 unfold later; omega
/-- The one that wrote gets an acknowledgement. -/
theorem a_take {iss irs u wnd now tr v w : Nat} {data : List Nat} {c' : C} (hall : data.length ≤ 200) (hu : u ≤ data.length) (hv : v ≤ data.length) (hw1 : 1 ≤ w) (hw2 : w ≤ 256) (hn : now ≤ 900000) (hn0 : 1 ≤ now) (hT : Take now (gB iss irs v w) (aT iss irs data u wnd now tr) c') :
   (v ≤ u ∧ ∃ wnd', c' = ⟨aT iss irs data u wnd' now tr, []⟩ ∧ (wnd' = wnd ∨ wnd' = w)) ∨ (u < v ∧ c' = ⟨aT iss irs data v w now 0, []⟩) := by
 have hR := Rk_rng tr
 have hlen : lenG (gB iss irs v w) = 0 := by
   have e1 : has (gB iss irs v w).fl 2 = false := by show has 16 2 = false; decide
   have e2 : has (gB iss irs v w).fl 1 = false := by show has 16 1 = false; decide
   unfold lenG
   rw [e1, e2]; rfl
 have hfit : fits (gB iss irs v w) (aT iss irs data u wnd now tr) = true := by
   have hd : dif (gB iss irs v w).seq (aT iss irs data u wnd now tr).inn.next = 0 := dif_uu _
   unfold fits
   rw [hlen, if_pos rfl, hd]; rfl
 have ed : dif (gB iss irs v w).ack (aT iss irs data u wnd now tr).una = (v : Int) - u := by
   show dif (u32 (iss + 1 + v)) (u32 (iss + 1 + u)) = _
   rw [dif_u _ _ _ (by omega) (by omega)]
 have ef := aT_flight (iss := iss) (irs := irs) (wnd := wnd) (now := now) (tr := tr) hall hu
 have hfl : ∀ (x wn tr2 : Nat), x ≤ data.length → flush now ⟨aT iss irs data x wn now tr2, []⟩ = ⟨aT iss irs data x wn now tr2, []⟩ := by
   intro x wn tr2 hx
   have e1 := aT_own (iss := iss) (irs := irs) (wnd := wn) (now := now) (tr := tr2) hall hx
   have e2 := aT_flight (iss := iss) (irs := irs) (wnd := wn) (now := now) (tr := tr2) hall hx
   have e3 := Rk_rng tr2
   rw [flush_done rfl (by rw [e1]; show _ = (((data.drop x).length : Nat) : Int); rw [List.length_drop]; omega) rfl]
   rw [if_neg]
   show ¬ ((if x < data.length then now + Rk tr2 else 0) = 0 ∧ 0 < flight (aT iss irs data x wn now tr2))
   rw [e2]
   rintro ⟨q1, q2⟩
   rw [if_pos (by omega)] at q1
   omega
 have hidle : ∀ (x : C) (s' : St), (if openS x.t = true ∧ 0 < (gB iss irs v w).data.length then Took1 x.t.inn (gB iss irs v w).seq (gB iss irs v w).data s' else s' = x.t.inn) → s' = x.t.inn := by
   intro x s' h
   rw [if_neg (by rintro ⟨_, h⟩; exact absurd h (by show ¬ 0 < 0; decide))] at h
   exact h
 have hlast : ∀ x : C, lastAck (gB iss irs v w) x = x := by
   intro x
   unfold lastAck
   rw [if_neg]
   rintro ⟨_, h | h⟩
   · exact absurd h (by show ¬ 0 < 0; decide)
   · have : has 16 1 = true := h
     exact absurd this (by decide)
 rcases Take_est hT (gB_chk (by omega)) rfl rfl rfl (.inl rfl) with ⟨hf, _⟩ | ⟨_, h⟩
 · rw [hfit] at hf; cases hf
 have hack : acked now (gB iss irs v w) ⟨aT iss irs data u wnd now tr, []⟩ = (if v < u then (⟨aT iss irs data u wnd now tr, []⟩, true) else if v = u then (⟨aT iss irs data u w now tr, []⟩, true) else (⟨{ aT iss irs data v w now 0 with tm := 0 }, []⟩, true)) := by
   unfold acked
   rw [if_neg (by show ¬ 3 = 2; decide)]
   show (if flight (aT iss irs data u wnd now tr) < dif (gB iss irs v w).ack (aT iss irs data u wnd now tr).una then _ else _) = _
   rw [ed, ef, if_neg (by omega)]
   by_cases q1 : v < u
   · rw [if_pos q1, if_pos (by omega)]
   · rw [if_neg q1, if_neg (by omega)]
     by_cases q2 : v = u
     · rw [if_pos q2, if_neg (by omega), if_neg (by show ¬ w = 0; omega)]
       rfl
     · rw [if_neg q2, if_pos (by omega)]
       unfold gone
       rw [if_pos (by rfl)]
       have em : ((v : Int) - u).toNat = v - u := by omega
       rw [em]
       show ((⟨⟨3, 7, 0, 80, iss, u32 (u32 (iss + 1 + u) + (v - u)), u32 (iss + 1 + data.length), (data.drop u).drop (v - u), w, false, false, ⟨u32 (irs + 1), [], []⟩, false, 0, 4, 0, 0⟩, []⟩ : C), true) = _
       have e1 : u32 (u32 (iss + 1 + u) + (v - u)) = u32 (iss + 1 + v) := by unfold u32; omega
       have e2 : (data.drop u).drop (v - u) = data.drop v := by rw [List.drop_drop]; congr 1; omega
       rw [e1, e2]
       rfl
 rw [hack] at h
 by_cases q1 : v < u
 · rw [if_pos q1] at h
   rcases h with ⟨x, _⟩ | ⟨_, s', h1, h2⟩
   · cases x
   · have := hidle _ _ h1
     subst this
     refine .inl ⟨by omega, wnd, ?_, .inl rfl⟩
     rw [h2, hlast]
     exact hfl u wnd tr hu
 · rw [if_neg q1] at h
   by_cases q2 : v = u
   · rw [if_pos q2] at h
     rcases h with ⟨x, _⟩ | ⟨_, s', h1, h2⟩
     · cases x
     · have := hidle _ _ h1
       subst this
       refine .inl ⟨by omega, w, ?_, .inr rfl⟩
       rw [h2, hlast]
       exact hfl u w tr hu
   · rw [if_neg q2] at h
     rcases h with ⟨x, _⟩ | ⟨_, s', h1, h2⟩
     · cases x
     · have := hidle _ _ h1
       subst this
       refine .inr ⟨by omega, ?_⟩
       rw [h2, hlast]
       show flush now ⟨{ aT iss irs data v w now 0 with tm := 0 }, []⟩ = _
       have e1 := aT_own (iss := iss) (irs := irs) (wnd := w) (now := now) (tr := 0) hall hv
       have e2 := aT_flight (iss := iss) (irs := irs) (wnd := w) (now := now) (tr := 0) hall hv
       have e3 : flight { aT iss irs data v w now 0 with tm := 0 } = (data.length : Int) - v := e2
       have e4 : own { aT iss irs data v w now 0 with tm := 0 } = (data.length : Int) - v := e1
       rw [flush_done rfl (by show own { aT iss irs data v w now 0 with tm := 0 } = (((data.drop v).length : Nat) : Int); rw [e4, List.length_drop]; omega) rfl]
       show (if 0 = 0 ∧ 0 < flight { aT iss irs data v w now 0 with tm := 0 } then _ else _) = _
       rw [e3]
       by_cases q3 : v < data.length
       · rw [if_pos ⟨rfl, by omega⟩]
         unfold wait
         show (⟨{ aT iss irs data v w now 0 with tm := later now 4 }, []⟩ : C) = _
         rw [later_small (by omega)]
         unfold aT
         rw [if_pos q3]
         rfl
       · rw [if_neg (by omega)]
         unfold aT
         rw [if_neg q3]
/-- A timer comes. -/
theorem a_tick {iss irs u wnd now tr : Nat} {data : List Nat} (hall : data.length ≤ 200) (hu : u < data.length) (ht : tr < 12) (hn : now ≤ 900000) (hn0 : 1 ≤ now) :
   tick (now + Rk tr) ⟨aT iss irs data u wnd now tr, []⟩ = ⟨aT iss irs data u wnd (now + Rk tr) (tr + 1), [gA iss irs data u (min (data.length - u) 64)]⟩ := by
 have hR := Rk_rng tr
 have hR2 := Rk_rng (tr + 1)
 have etm : (aT iss irs data u wnd now tr).tm = now + Rk tr := by unfold aT; rw [if_pos hu]
 unfold tick
 show (if (aT iss irs data u wnd now tr).tm = 0 ∨ now + Rk tr < (aT iss irs data u wnd now tr).tm then _ else _) = _
 rw [etm, if_neg (by omega), if_neg (by show ¬ 3 = 9; decide), if_neg (by show ¬ tr = 12; omega)]
 show again ⟨⟨3, 7, 0, 80, iss, u32 (iss + 1 + u), u32 (iss + 1 + data.length), data.drop u, wnd, false, false, ⟨u32 (irs + 1), [], []⟩, false, later (now + Rk tr) (min (2 * Rk tr) 64), min (2 * Rk tr) 64, tr + 1, 0⟩, []⟩ = _
 rw [Rk_next, later_small (by omega)]
 have e0 : (⟨3, 7, 0, 80, iss, u32 (iss + 1 + u), u32 (iss + 1 + data.length), data.drop u, wnd, false, false, ⟨u32 (irs + 1), [], []⟩, false, now + Rk tr + Rk (tr + 1), Rk (tr + 1), tr + 1, 0⟩ : T) = aT iss irs data u wnd (now + Rk tr) (tr + 1) := by
   unfold aT; rw [if_pos hu]
 rw [e0]
 have e1 := aT_own (iss := iss) (irs := irs) (wnd := wnd) (now := now + Rk tr) (tr := tr + 1) hall (Nat.le_of_lt hu)
 unfold again
 rw [if_neg (by show ¬ 3 = 1; decide), if_neg (by show ¬ 3 = 2; decide)]
 show (if 0 < own (aT iss irs data u wnd (now + Rk tr) (tr + 1)) then send 24 (u32 (iss + 1 + u)) ((data.drop u).take (min (own (aT iss irs data u wnd (now + Rk tr) (tr + 1))).toNat 64)) _ else _) = _
 rw [e1, if_pos (by omega)]
 have e2 : ((data.length : Int) - u).toNat = data.length - u := by omega
 rw [e2]
 show (⟨aT iss irs data u wnd (now + Rk tr) (tr + 1), [⟨7, 80, u32 (iss + 1 + u), u32 (irs + 1), 24, (room ⟨u32 (irs + 1), [], []⟩).toNat, (data.drop u).take (min (data.length - u) 64)⟩]⟩ : C) = _
 have e3 : room ⟨u32 (irs + 1), [], []⟩ = 256 := by
   unfold room
   rw [chk_empty _ [] (Nat.zero_le _), if_pos rfl]; rfl
 rw [e3]; rfl
end Go.Proofs.Tp
end

section
/-
 What is written comes, and is acknowledged, whatever is lost (layer 26): what stands all along. No program in sight.
-/
namespace Go.Proofs.Tp
open Go.Proofs.Wi
variable {g : G}
/-- One of a pair, ahead of all. -/
def pT (own peer lo po : Nat) : T := ⟨3, lo, 0, po, own, u32 (own + 1), u32 (own + 1), [], 256, false, false, ⟨u32 (peer + 1), [], []⟩, false, 0, 4, 0, 0⟩
/-- So much of the bytes is sent. -/
def sT (own peer lo po : Nat) (data : List Nat) (m tm : Nat) : T := ⟨3, lo, 0, po, own, u32 (own + 1), u32 (own + 1 + m), data, 256, false, false, ⟨u32 (peer + 1), [], []⟩, false, tm, 4, 0, 0⟩
def gD (own peer lo po : Nat) (data : List Nat) (off len : Nat) : G := ⟨lo, po, u32 (own + 1 + off), u32 (peer + 1), 24, 256, (data.drop off).take len⟩
/-- The segments that bytes are cut to. -/
def cutD (own peer lo po : Nat) (data : List Nat) : Nat → Nat → List G
 | 0, _ => []
 | k + 1, m => if m < data.length then gD own peer lo po data m (min 64 (data.length - m)) :: cutD own peer lo po data k (m + min 64 (data.length - m)) else []
theorem sT_flight {own peer lo po m tm : Nat} {data : List Nat} (hm : m ≤ 200) : flight (sT own peer lo po data m tm) = m := by
 have h := dif_u (own + 1) m 0 (by omega) (by omega)
 show dif (u32 (own + 1 + m)) (u32 (own + 1)) = _
 simpa using h
theorem segs_cut {own peer lo po : Nat} {data : List Nat} (hall : data.length ≤ 200) : ∀ (k m : Nat) (out : List G), m ≤ data.length → data.length - m ≤ k → segs k ⟨sT own peer lo po data m 0, out⟩ = ⟨sT own peer lo po data data.length 0, out ++ cutD own peer lo po data k m⟩ := by
 intro k
 induction k with
 | zero =>
   intro m out h1 h2
   have : m = data.length := by omega
   subst this
   show (⟨_, out⟩ : C) = ⟨_, out ++ []⟩
   rw [List.append_nil]
 | succ k ih =>
   intro m out h1 h2
   have e1 : Tp.own (sT own peer lo po data m 0) = m := by rw [own_noSe rfl, sT_flight (by omega)]
   have e2 : room1 (sT own peer lo po data m 0) = ((min 64 (data.length - m) : Nat) : Int) := by
     unfold room1
     rw [e1, sT_flight (by omega)]
     show min (min 64 ((data.length : Int) - m)) (256 - (m : Int)) = _
     omega
   rw [segs_succ]
   show (if room1 (sT own peer lo po data m 0) ≤ 0 then _ else _) = _
   rw [e2]
   by_cases q : m < data.length
   · rw [if_neg (by omega)]
     have e3 : (room1 (sT own peer lo po data m 0)).toNat = min 64 (data.length - m) := by rw [e2]; omega
     have e4 : (Tp.own (sT own peer lo po data m 0)).toNat = m := by rw [e1]; omega
     have e5 : u32 ((sT own peer lo po data m 0).nx + min 64 (data.length - m)) = u32 (own + 1 + (m + min 64 (data.length - m))) := by
       show u32 (u32 (own + 1 + m) + _) = _
       unfold u32; omega
     have e6 : Tp.seg (sT own peer lo po data m 0) 24 (u32 (own + 1 + m)) ((data.drop m).take (min 64 (data.length - m))) = gD own peer lo po data m (min 64 (data.length - m)) := by
       have e3 : room ⟨u32 (peer + 1), [], []⟩ = 256 := by
         unfold room
         rw [chk_empty _ [] (Nat.zero_le _), if_pos rfl]; rfl
       show (⟨lo, po, u32 (own + 1 + m), u32 (peer + 1), 24, (room ⟨u32 (peer + 1), [], []⟩).toNat, (data.drop m).take (min 64 (data.length - m))⟩ : G) = _
       rw [e3]; rfl
     show segs k ⟨{ sT own peer lo po data m 0 with nx := u32 ((sT own peer lo po data m 0).nx + ((((min 64 (data.length - m) : Nat) : Int))).toNat) }, out ++ [Tp.seg (sT own peer lo po data m 0) 24 (u32 (own + 1 + m)) ((data.drop (Tp.own (sT own peer lo po data m 0)).toNat).take ((((min 64 (data.length - m) : Nat) : Int))).toNat)]⟩ = _
     rw [Int.toNat_natCast, e4, e5, e6]
     show segs k ⟨sT own peer lo po data (m + min 64 (data.length - m)) 0, _⟩ = _
     rw [ih _ _ (by omega) (by omega), List.append_assoc]
     show _ = (⟨_, out ++ (if m < data.length then _ else _)⟩ : C)
     rw [if_pos q]; rfl
   · rw [if_pos (by omega)]
     have : m = data.length := by omega
     subst this
     show _ = (⟨_, out ++ (if data.length < data.length then _ else _)⟩ : C)
     rw [if_neg (Nat.lt_irrefl _), List.append_nil]
theorem write_pair {own peer lo po now : Nat} {data : List Nat} (hall : data.length ≤ 200) (hn : now ≤ 900000) : write data now (pT own peer lo po) = ⟨sT own peer lo po data data.length (if 0 < data.length then now + 4 else 0), cutD own peer lo po data 257 0⟩ := by
 unfold write
 have e0 : ({ pT own peer lo po with data := (pT own peer lo po).data ++ data.take (min data.length (256 - (pT own peer lo po).data.length)) } : T) = sT own peer lo po data 0 0 := by
   show (⟨3, lo, 0, po, own, u32 (own + 1), u32 (own + 1), [] ++ data.take (min data.length (256 - 0)), 256, false, false, ⟨u32 (peer + 1), [], []⟩, false, 0, 4, 0, 0⟩ : T) = _
   rw [List.nil_append, List.take_of_length_le (by omega)]
   rfl
 rw [e0]
 unfold flush
 rw [if_neg (by intro h; cases h), segs_cut hall 257 0 [] (Nat.zero_le _) (by omega), List.nil_append]
 have ef := sT_flight (own := own) (peer := peer) (lo := lo) (po := po) (data := data) (m := data.length) (tm := 0) (by omega)
 have eo : Tp.own (sT own peer lo po data data.length 0) = data.length := by rw [own_noSe rfl, ef]
 show flushT now (decide (Tp.own (sT own peer lo po data data.length 0) < ((data.length : Nat) : Int))) (fin1 ⟨sT own peer lo po data data.length 0, cutD own peer lo po data 257 0⟩) = _
 have hf : fin1 ⟨sT own peer lo po data data.length 0, cutD own peer lo po data 257 0⟩ = ⟨sT own peer lo po data data.length 0, cutD own peer lo po data 257 0⟩ := by
   unfold fin1
   rw [if_neg (by rintro ⟨_, h, _⟩; cases h)]
 rw [hf, eo]
 unfold flushT
 show (if 0 = 0 ∧ (decide ((data.length : Int) < data.length) = true ∨ 0 < flight (sT own peer lo po data data.length 0)) then _ else _) = _
 rw [ef]
 have hw : wait now 4 ⟨sT own peer lo po data data.length 0, cutD own peer lo po data 257 0⟩ = ⟨sT own peer lo po data data.length (now + 4), cutD own peer lo po data 257 0⟩ := by
   unfold wait
   show (⟨sT own peer lo po data data.length (later now 4), _⟩ : C) = _
   rw [later_small (by omega)]
 by_cases q : 0 < data.length
 · rw [if_pos q]
   exact (if_pos ⟨rfl, .inr (by omega)⟩).trans hw
 · rw [if_neg q]
   exact if_neg (by rintro ⟨_, h | h⟩; · simp at h
                    · omega)
theorem cut_all {own peer lo po : Nat} {data : List Nat} : ∀ (k m : Nat), ∀ g ∈ cutD own peer lo po data k m, ∃ off len, 1 ≤ len ∧ len ≤ 64 ∧ off + len ≤ data.length ∧ g = gD own peer lo po data off len := by
 intro k
 induction k with
 | zero => intro m g hg; cases hg
 | succ k ih =>
   intro m g hg
   unfold cutD at hg
   split at hg
   · rename_i q
     rcases List.mem_cons.1 hg with rfl | hg
     · exact ⟨m, _, by omega, by omega, by omega, rfl⟩
     · exact ih _ g hg
   · cases hg
/-- Where the numbers stand. -/
def Phase (iss irs : Nat) (data : List Nat) (u la lb tr : Nat) (qa qb : List G) : Prop :=
 tr = 0 ∨ (qb = [] ∧ qa = [] ∧ tr ≤ 3 * la + lb) ∨ (qa = [] ∧ (∃ len, 1 ≤ len ∧ len ≤ 64 ∧ u + len ≤ data.length ∧ qb = [gA iss irs data u len]) ∧ tr ≤ 3 * la + lb + 1) ∨ (qb = [] ∧ (∀ g ∈ qa, ∀ v w, v ≤ data.length → g = gB iss irs v w → u < v) ∧ tr ≤ 3 * (la + 1) ∧ (qa = [] → tr ≤ 3 * la + lb))
/-- What stands all along: u bytes are acknowledged, p came in order. -/
structure AkI (iss irs : Nat) (data : List Nat) (ta tb : T) (qa qb : List G) (la lb now u p tr : Nat) (got : List Nat) : Prop where
 a : ∃ wnd, wnd ≤ 65535 ∧ ta = aT iss irs data u wnd now tr
 b : ∃ s, tb = bT irs s ∧ s.bytes = [] ∧ Agr data (u32 (iss + 1)) s p
 got : got = data.take p
 up : u ≤ p
 pn : p ≤ data.length
 fqb : ∀ g ∈ qb, ∃ off len, 1 ≤ len ∧ len ≤ 64 ∧ off + len ≤ data.length ∧ g = gA iss irs data off len
 fqa : ∀ g ∈ qa, ∃ v w, v ≤ p ∧ 1 ≤ w ∧ w ≤ 256 ∧ g = gB iss irs v w
 fla : la ≤ 2
 flb : lb ≤ 2
 ph : Phase iss irs data u la lb tr qa qb
 t9 : tr ≤ 9
 now1 : 1 ≤ now
 now2 : now ≤ 1 + 380 * u + Bk tr
/-- How far it is from its end. -/
def AkM (data : List Nat) (qa qb : List G) (u tr : Nat) : Nat := 44 * (data.length - u) + 4 * (10 - tr) + 3 * qb.length + qa.length
theorem AkI.now3 {iss irs : Nat} {data : List Nat} {ta tb : T} {qa qb : List G} {la lb now u p tr : Nat} {got : List Nat} (h : AkI iss irs data ta tb qa qb la lb now u p tr got) (hall : data.length ≤ 200) : now ≤ 100000 := by
 have h1 := h.now2
 have h2 := Bk_top h.t9
 have h3 := h.up
 have h4 := h.pn
 omega
theorem AkI.chkA {iss irs : Nat} {data : List Nat} {ta tb : T} {qa qb : List G} {la lb now u p tr : Nat} {got : List Nat} (h : AkI iss irs data ta tb qa qb la lb now u p tr got) (hall : data.length ≤ 200) : chkT ta = true := by
 obtain ⟨wnd, hw, e⟩ := h.a
 rw [e]
 exact aT_chk hall (Nat.le_trans h.up h.pn) hw (by have := h.t9; omega) (by have := h.now3 hall; omega)
theorem AkI.chkB {iss irs : Nat} {data : List Nat} {ta tb : T} {qa qb : List G} {la lb now u p tr : Nat} {got : List Nat} (h : AkI iss irs data ta tb qa qb la lb now u p tr got) : chkT tb = true := by
 obtain ⟨s, e, _, hA⟩ := h.b
 rw [e]
 exact bT_chk hA.ok
/-- The start. -/
theorem u32_lt0 (n : Nat) : u32 n < 4294967296 := by unfold u32; omega
theorem AkI.start {iss irs : Nat} {data : List Nat} (hall : data.length ≤ 200) :
   AkI iss irs data (write data 1 (pT iss irs 7 80)).t (pT irs iss 80 7) [] (write data 1 (pT iss irs 7 80)).out 0 0 1 0 0 0 [] := by
 rw [write_pair hall (by decide)]
 refine ⟨⟨256, by decide, ?_⟩, ⟨⟨u32 (iss + 1), [], []⟩, rfl, rfl, Agr.start data _ (u32_lt0 _)⟩, rfl, Nat.le_refl _, Nat.zero_le _, ?_, (fun g hg => (List.not_mem_nil hg).elim), by decide, by decide, .inl rfl, by decide, by decide, by decide⟩
 · show sT iss irs 7 80 data data.length (if 0 < data.length then 1 + 4 else 0) = _
   rfl
 · intro g hg
   obtain ⟨off, len, h1, h2, h3, rfl⟩ := cut_all _ _ g hg
   exact ⟨off, len, h1, h2, h3, rfl⟩
/-- All is acknowledged, or a timer runs. -/
theorem AkI.more {iss irs : Nat} {data : List Nat} {ta tb : T} {qa qb : List G} {la lb now u p tr : Nat} {got : List Nat} (h : AkI iss irs data ta tb qa qb la lb now u p tr got) (hall : data.length ≤ 200) : (ta.una = ta.nx ↔ u = data.length) ∧ (ta.data = [] ↔ u = data.length) ∧ (u = data.length → got = data) ∧ ta.st = 3 := by
 obtain ⟨wnd, hw, e⟩ := h.a
 have h1 := h.up
 have h2 := h.pn
 subst e
 refine ⟨?_, ?_, fun hu => ?_, rfl⟩
 · show u32 (iss + 1 + u) = u32 (iss + 1 + data.length) ↔ _
   unfold u32; omega
 · show data.drop u = [] ↔ _
   rw [List.drop_eq_nil_iff]; omega
 · rw [h.got, List.take_of_length_le (by omega)]
/-- One to the taker is lost. -/
theorem AkI.loseB {iss irs : Nat} {data : List Nat} {ta tb : T} {qa r : List G} {la lb now u p tr : Nat} {got : List Nat} (h : AkI iss irs data ta tb qa (g :: r) la lb now u p tr got) (hl : lb < 2) : AkI iss irs data ta tb qa r la (lb + 1) now u p tr got := by
 refine ⟨h.a, h.b, h.got, h.up, h.pn, fun x hx => h.fqb x (List.mem_cons_of_mem _ hx), h.fqa, h.fla, by omega, ?_, h.t9, h.now1, h.now2⟩
 rcases h.ph with q | ⟨q, _⟩ | ⟨q1, ⟨len, _, _, _, q2⟩, q3⟩ | ⟨q, _⟩
 · exact .inl q
 · cases q
 · injection q2 with _ q4
   exact .inr (.inl ⟨q4, q1, by omega⟩)
 · cases q
/-- One to the writer is lost. -/
theorem AkI.loseA {iss irs : Nat} {data : List Nat} {ta tb : T} {r : List G} {la lb now u p tr : Nat} {got : List Nat} (h : AkI iss irs data ta tb (g :: r) [] la lb now u p tr got) (hl : la < 2) : AkI iss irs data ta tb r [] (la + 1) lb now u p tr got := by
 refine ⟨h.a, h.b, h.got, h.up, h.pn, h.fqb, fun x hx => h.fqa x (List.mem_cons_of_mem _ hx), by omega, h.flb, ?_, h.t9, h.now1, h.now2⟩
 rcases h.ph with q | ⟨_, q, _⟩ | ⟨q, _⟩ | ⟨_, q1, q2⟩
 · exact .inl q
 · cases q
 · cases q
 · exact .inr (.inr (.inr ⟨rfl, fun x hx => q1 x (List.mem_cons_of_mem _ hx), by omega, fun _ => by omega⟩))
/-- In a reading of 300 all goes. -/
theorem read_all {t : T} {n : Int} (hn : n = 300) (hb : t.inn.bytes.length ≤ 256) (ho : openS t = true) : Tp.read n t = (if room t.inn < 64 ∧ 64 ≤ room ⟨t.inn.next, [], t.inn.ps⟩ then ackC ⟨{ t with inn := ⟨t.inn.next, [], t.inn.ps⟩ }, []⟩ else ⟨{ t with inn := ⟨t.inn.next, [], t.inn.ps⟩ }, []⟩, t.inn.bytes) := by
 subst hn
 have hc : clampT 300 t.inn.bytes.length = t.inn.bytes.length := by unfold clampT; rw [if_neg (by decide)]; omega
 unfold Tp.read
 rw [hc]
 dsimp only
 rw [List.drop_of_length_le (Nat.le_refl _), List.take_of_length_le (Nat.le_refl _), ho]
 simp
/-- One comes to the taker, which is read then. -/
theorem AkI.takeB {iss irs : Nat} {data : List Nat} {ta tb : T} {qa r : List G} {la lb now u p tr : Nat} {got : List Nat} (h : AkI iss irs data ta tb qa (g :: r) la lb now u p tr got) (hall : data.length ≤ 200) {c' : C} (hT : Take now g tb c') :
   ∃ p', AkI iss irs data ta (Tp.read 300 c'.t).1.t (qa ++ c'.out ++ (Tp.read 300 c'.t).1.out) r la 0 now u p' tr (got ++ (Tp.read 300 c'.t).2) ∧ (c'.out ++ (Tp.read 300 c'.t).1.out).length ≤ 2 := by
 obtain ⟨s, e, hs, hA⟩ := h.b
 obtain ⟨off, len, h1, h64, ho, rfl⟩ := h.fqb g (List.mem_cons_self ..)
 subst e
 obtain ⟨s', p', rfl, hA', hp, hby, hin, hb200, hr1, hr2⟩ := b_take hall hs hA h1 h64 ho hT
 have hrd := read_all (t := bT irs s') (n := 300) rfl (by show s'.bytes.length ≤ 256; omega) rfl
 have hA2 : Agr data (u32 (iss + 1)) ⟨s'.next, [], s'.ps⟩ p' := by
   have := hA'.read s'.bytes.length
   rwa [List.drop_of_length_le (Nat.le_refl _)] at this
 have hrm := room_nn hA2.ok
 have hr256 : room ⟨s'.next, [], s'.ps⟩ = 256 := by simpa using hrm.2.1
 have hnx : s'.next = u32 (iss + 1 + p') := by have := hA'.nxt; unfold u32 at *; omega
 obtain ⟨ex, hex, hexl⟩ : ∃ ex : List G, (Tp.read 300 (bT irs s')).1 = ⟨bT irs ⟨s'.next, [], s'.ps⟩, ex⟩ ∧ (ex = [] ∨ ex = [gB iss irs p' 256]) := by
   rw [hrd]
   show ∃ ex : List G, (if room s' < 64 ∧ 64 ≤ room ⟨s'.next, [], s'.ps⟩ then ackC ⟨bT irs ⟨s'.next, [], s'.ps⟩, []⟩ else ⟨bT irs ⟨s'.next, [], s'.ps⟩, []⟩) = _ ∧ _
   split
   · refine ⟨[gB iss irs p' 256], ?_, .inr rfl⟩
     show (⟨bT irs ⟨s'.next, [], s'.ps⟩, [⟨80, 7, u32 (irs + 1), s'.next, 16, (room ⟨s'.next, [], s'.ps⟩).toNat, []⟩]⟩ : C) = _
     rw [hr256, hnx]; rfl
   · exact ⟨[], rfl, .inl rfl⟩
 have hg2 : (Tp.read 300 (bT irs s')).2 = s'.bytes := by rw [hrd]; rfl
 show ∃ p', AkI iss irs data ta (Tp.read 300 (bT irs s')).1.t (qa ++ [gB iss irs _ _] ++ (Tp.read 300 (bT irs s')).1.out) r la 0 now u p' tr (got ++ (Tp.read 300 (bT irs s')).2) ∧ ([gB iss irs _ _] ++ (Tp.read 300 (bT irs s')).1.out).length ≤ 2
 rw [hex, hg2]
 have hnew : ∀ x ∈ [gB iss irs p' (room s').toNat] ++ ex, ∃ w, 1 ≤ w ∧ w ≤ 256 ∧ x = gB iss irs p' w := by
   intro x hx
   rcases List.mem_append.1 hx with hx | hx
   · exact ⟨_, by omega, by omega, List.mem_singleton.1 hx⟩
   · rcases hexl with e | e
     · rw [e] at hx; cases hx
     · rw [e] at hx; exact ⟨256, by decide, by decide, List.mem_singleton.1 hx⟩
 refine ⟨p', ⟨h.a, ⟨_, rfl, rfl, hA2⟩, ?_, by have := h.up; omega, hA'.pos, fun x hx => h.fqb x (List.mem_cons_of_mem _ hx), ?_, h.fla, by decide, ?_, h.t9, h.now1, h.now2⟩, ?_⟩
 · rw [hby, h.got, ← List.take_add]; congr 1; omega
 · intro x hx
   rw [List.append_assoc] at hx
   rcases List.mem_append.1 hx with hx | hx
   · obtain ⟨v, w, q1, q2⟩ := h.fqa x hx
     exact ⟨v, w, by omega, q2⟩
   · obtain ⟨w, q1, q2, q3⟩ := hnew x hx
     exact ⟨p', w, Nat.le_refl _, q1, q2, q3⟩
 · rcases h.ph with q | ⟨q, _⟩ | ⟨q1, ⟨len2, l1, l2, l3, q2⟩, q3⟩ | ⟨q, _⟩
   · exact .inl q
   · cases q
   · injection q2 with q4 q5
     have hb := h.flb
     have hup := h.up
     have hpn := h.pn
     refine .inr (.inr (.inr ⟨q5, ?_, by omega, fun hq => ?_⟩))
     rotate_left
     · simp at hq
     -- the same place
     have e1 : u32 (iss + 1 + off) = u32 (iss + 1 + u) := congrArg G.seq q4
     have e2 : off = u := by unfold u32 at e1; omega
     have hi := hin (by omega)
     intro x hx v w hv hxe
     rw [q1, List.nil_append] at hx
     obtain ⟨w2, _, _, q6⟩ := hnew x hx
     rw [hxe] at q6
     have e3 : u32 (iss + 1 + v) = u32 (iss + 1 + p') := congrArg G.ack q6
     have := hA'.pos
     have e4 : v = p' := by unfold u32 at e3; omega
     omega
   · cases q
 · rcases hexl with e | e <;> rw [e] <;> simp
/-- One comes to the writer, which is read then. -/
theorem AkI.takeA {iss irs : Nat} {data : List Nat} {ta tb : T} {r : List G} {la lb now u p tr : Nat} {got : List Nat} (h : AkI iss irs data ta tb (g :: r) [] la lb now u p tr got) (hall : data.length ≤ 200) {c' : C} (hT : Take now g ta c') :
   ∃ u' tr', AkI iss irs data (Tp.read 300 c'.t).1.t tb r [] 0 lb now u' p tr' got ∧ c'.out = [] ∧ (Tp.read 300 c'.t).1.out = [] ∧ (Tp.read 300 c'.t).2 = [] ∧ AkM data r [] u' tr' < AkM data (g :: r) [] u tr := by
 obtain ⟨wnd, hw, e⟩ := h.a
 obtain ⟨v, w, hv, h1, h2, rfl⟩ := h.fqa g (List.mem_cons_self ..)
 have hup := h.up
 have hpn := h.pn
 have hn3 := h.now3 hall
 have hn1 := h.now1
 have h9 := h.t9
 subst e
 have hrd : ∀ (x wn tr2 : Nat), Tp.read 300 (aT iss irs data x wn now tr2) = (⟨aT iss irs data x wn now tr2, []⟩, []) := by
   intro x wn tr2
   rw [read_all rfl (Nat.zero_le _) rfl]
   have e3 : room ⟨u32 (irs + 1), [], []⟩ = 256 := by
     unfold room
     rw [chk_empty _ [] (Nat.zero_le _), if_pos rfl]; rfl
   show ((if room ⟨u32 (irs + 1), [], []⟩ < 64 ∧ 64 ≤ room ⟨u32 (irs + 1), [], []⟩ then _ else _ : C), ([] : List Nat)) = _
   rw [e3, if_neg (by decide)]
   rfl
 rcases a_take hall (by omega) (by omega) h1 h2 (by omega) hn1 hT with ⟨hvu, wnd', rfl, hw'⟩ | ⟨huv, rfl⟩
 · refine ⟨u, tr, ?_, rfl, by rw [hrd], by rw [hrd], ?_⟩
   · rw [hrd]
     refine ⟨⟨wnd', by omega, rfl⟩, h.b, h.got, hup, hpn, h.fqb, fun x hx => h.fqa x (List.mem_cons_of_mem _ hx), by decide, h.flb, ?_, h9, hn1, h.now2⟩
     rcases h.ph with q | ⟨_, q, _⟩ | ⟨q, _⟩ | ⟨_, q1, q2⟩
     · exact .inl q
     · cases q
     · cases q
     · have := q1 _ (List.mem_cons_self ..) v w (by omega) rfl
       omega
   · unfold AkM
     simp only [List.length_cons, List.length_nil]
     omega
 · refine ⟨v, 0, ?_, rfl, by rw [hrd], by rw [hrd], ?_⟩
   · rw [hrd]
     refine ⟨⟨w, by omega, rfl⟩, h.b, h.got, hv, hpn, h.fqb, fun x hx => h.fqa x (List.mem_cons_of_mem _ hx), by decide, h.flb, .inl rfl, by decide, hn1, ?_⟩
     have := h.now2
     have := Bk_top h9
     show now ≤ 1 + 380 * v + 0
     omega
   · unfold AkM
     simp only [List.length_cons, List.length_nil]
     omega
/-- Nothing is on its way: the writer's timer. -/
theorem AkI.tick {iss irs : Nat} {data : List Nat} {ta tb : T} {la lb now u p tr : Nat} {got : List Nat} (h : AkI iss irs data ta tb [] [] la lb now u p tr got) (hall : data.length ≤ 200) (hu : u ≠ data.length) :
   ta.tm ≠ 0 ∧ ta.tm ≤ 1 + 640 * (data.length + 2) ∧ AkI iss irs data (Tp.tick ta.tm ⟨ta, []⟩).t tb [] (Tp.tick ta.tm ⟨ta, []⟩).out la lb ta.tm u p (tr + 1) got ∧ AkM data [] (Tp.tick ta.tm ⟨ta, []⟩).out u (tr + 1) < AkM data [] [] u tr := by
 obtain ⟨wnd, hw, e⟩ := h.a
 have hup := h.up
 have hpn := h.pn
 have hn3 := h.now3 hall
 have hn1 := h.now1
 have hla := h.fla
 have hlb := h.flb
 have ht : tr ≤ 8 ∧ tr ≤ 3 * la + lb := by
   rcases h.ph with q | ⟨_, _, q⟩ | ⟨_, ⟨_, _, _, _, q⟩, _⟩ | ⟨_, q1, q2⟩
   · omega
   · omega
   · cases q
   · have := q2.2 rfl
     omega
 have hB := Bk_top (k := tr + 1) (by omega)
 have hR := Rk_rng tr
 have h2 := h.now2
 have hb1 : Bk (tr + 1) = Bk tr + Rk tr := rfl
 subst e
 have etm : (aT iss irs data u wnd now tr).tm = now + Rk tr := by unfold aT; rw [if_pos (by omega)]
 rw [etm, a_tick hall (by omega) (by omega) (by omega) hn1]
 refine ⟨by omega, by omega, ⟨⟨wnd, hw, rfl⟩, h.b, h.got, hup, hpn, ?_, h.fqa, hla, hlb, ?_, by omega, by omega, by omega⟩, ?_⟩
 · intro g hg
   exact ⟨u, _, by omega, by omega, by omega, List.mem_singleton.1 hg⟩
 · exact .inr (.inr (.inl ⟨rfl, ⟨_, by omega, by omega, by omega, rfl⟩, by omega⟩))
 · unfold AkM
   simp only [List.length_cons, List.length_nil]
   omega
end Go.Proofs.Tp
end
