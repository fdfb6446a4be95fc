import Derived.Test.YthenepdbgeafkaaGAB
set_option linter.unusedSimpArgs false
set_option linter.unusedVariables false
section
/-
 What is written comes, and is acknowledged, whatever is lost (layer 26): what stands all along. No program in sight.
-/
namespace Go.Proofs.Tp
open Go.Proofs.Wi
variable {g : G}
/-- One of a pair, ahead of all. -/
def pT (own peer lo po : Nat) : T := ⟨3, lo, 0, po, own, u32 (own + 1), u32 (own + 1), [], 256, false, false, ⟨u32 (peer + 1), [], []⟩, false, 0, 4, 0, 0⟩
/-- So much of the bytes is sent. -/
def sT (own peer lo po : Nat) (data : List Nat) (m tm : Nat) : T := ⟨3, lo, 0, po, own, u32 (own + 1), u32 (own + 1 + m), data, 256, false, false, ⟨u32 (peer + 1), [], []⟩, false, tm, 4, 0, 0⟩
def gD (own peer lo po : Nat) (data : List Nat) (off len : Nat) : G := ⟨lo, po, u32 (own + 1 + off), u32 (peer + 1), 24, 256, (data.drop off).take len⟩
/-- The segments that bytes are cut to. -/
def cutD (own peer lo po : Nat) (data : List Nat) : Nat → Nat → List G
 | 0, _ => []
 | k + 1, m => if m < data.length then gD own peer lo po data m (min 64 (data.length - m)) :: cutD own peer lo po data k (m + min 64 (data.length - m)) else []
theorem sT_flight {own peer lo po m tm : Nat} {data : List Nat} (hm : m ≤ 200) : flight (sT own peer lo po data m tm) = m := by
 have h := dif_u (own + 1) m 0 (by omega) (by omega)
 show dif (u32 (own + 1 + m)) (u32 (own + 1)) = _
 simpa using h
theorem segs_cut {own peer lo po : Nat} {data : List Nat} (hall : data.length ≤ 200) : ∀ (k m : Nat) (out : List G), m ≤ data.length → data.length - m ≤ k → segs k ⟨sT own peer lo po data m 0, out⟩ = ⟨sT own peer lo po data data.length 0, out ++ cutD own peer lo po data k m⟩ := by
 intro k
 induction k with
 | zero =>
   intro m out h1 h2
   have : m = data.length := by omega
   subst this
   show (⟨_, out⟩ : C) = ⟨_, out ++ []⟩
   rw [List.append_nil]
 | succ k ih =>
   intro m out h1 h2
   have e1 : Tp.own (sT own peer lo po data m 0) = m := by rw [own_noSe rfl, sT_flight (by omega)]
   have e2 : room1 (sT own peer lo po data m 0) = ((min 64 (data.length - m) : Nat) : Int) := by
     unfold room1
     rw [e1, sT_flight (by omega)]
     show min (min 64 ((data.length : Int) - m)) (256 - (m : Int)) = _
     omega
   rw [segs_succ]
   show (if room1 (sT own peer lo po data m 0) ≤ 0 then _ else _) = _
   rw [e2]
   by_cases q : m < data.length
   · rw [if_neg (by omega)]
     have e3 : (room1 (sT own peer lo po data m 0)).toNat = min 64 (data.length - m) := by rw [e2]; omega
     have e4 : (Tp.own (sT own peer lo po data m 0)).toNat = m := by rw [e1]; omega
     have e5 : u32 ((sT own peer lo po data m 0).nx + min 64 (data.length - m)) = u32 (own + 1 + (m + min 64 (data.length - m))) := by
       show u32 (u32 (own + 1 + m) + _) = _
       unfold u32; omega
     have e6 : Tp.seg (sT own peer lo po data m 0) 24 (u32 (own + 1 + m)) ((data.drop m).take (min 64 (data.length - m))) = gD own peer lo po data m (min 64 (data.length - m)) := by
       have e3 : room ⟨u32 (peer + 1), [], []⟩ = 256 := by
         unfold room
         rw [chk_empty _ [] (Nat.zero_le _), if_pos rfl]; rfl
       show (⟨lo, po, u32 (own + 1 + m), u32 (peer + 1), 24, (room ⟨u32 (peer + 1), [], []⟩).toNat, (data.drop m).take (min 64 (data.length - m))⟩ : G) = _
       rw [e3]; rfl
     show segs k ⟨{ sT own peer lo po data m 0 with nx := u32 ((sT own peer lo po data m 0).nx + ((((min 64 (data.length - m) : Nat) : Int))).toNat) }, out ++ [Tp.seg (sT own peer lo po data m 0) 24 (u32 (own + 1 + m)) ((data.drop (Tp.own (sT own peer lo po data m 0)).toNat).take ((((min 64 (data.length - m) : Nat) : Int))).toNat)]⟩ = _
     rw [Int.toNat_natCast, e4, e5, e6]
     show segs k ⟨sT own peer lo po data (m + min 64 (data.length - m)) 0, _⟩ = _
     rw [ih _ _ (by omega) (by omega), List.append_assoc]
     show _ = (⟨_, out ++ (if m < data.length then _ else _)⟩ : C)
     rw [if_pos q]; rfl
   · rw [if_pos (by omega)]
     have : m = data.length := by omega
     subst this
     show _ = (⟨_, out ++ (if data.length < data.length then _ else _)⟩ : C)
     rw [if_neg (Nat.lt_irrefl _), List.append_nil]
theorem write_pair {own peer lo po now : Nat} {data : List Nat} (hall : data.length ≤ 200) (hn : now ≤ 900000) : write data now (pT own peer lo po) = ⟨sT own peer lo po data data.length (if 0 < data.length then now + 4 else 0), cutD own peer lo po data 257 0⟩ := by
 unfold write
 have e0 : ({ pT own peer lo po with data := (pT own peer lo po).data ++ data.take (min data.length (256 - (pT own peer lo po).data.length)) } : T) = sT own peer lo po data 0 0 := by
   show (⟨3, lo, 0, po, own, u32 (own + 1), u32 (own + 1), [] ++ data.take (min data.length (256 - 0)), 256, false, false, ⟨u32 (peer + 1), [], []⟩, false, 0, 4, 0, 0⟩ : T) = _
   rw [List.nil_append, List.take_of_length_le (by omega)]
   rfl
 rw [e0]
 unfold flush
 rw [if_neg (by intro h; cases h), segs_cut hall 257 0 [] (Nat.zero_le _) (by omega), List.nil_append]
 have ef := sT_flight (own := own) (peer := peer) (lo := lo) (po := po) (data := data) (m := data.length) (tm := 0) (by omega)
 have eo : Tp.own (sT own peer lo po data data.length 0) = data.length := by rw [own_noSe rfl, ef]
 show flushT now (decide (Tp.own (sT own peer lo po data data.length 0) < ((data.length : Nat) : Int))) (fin1 ⟨sT own peer lo po data data.length 0, cutD own peer lo po data 257 0⟩) = _
 have hf : fin1 ⟨sT own peer lo po data data.length 0, cutD own peer lo po data 257 0⟩ = ⟨sT own peer lo po data data.length 0, cutD own peer lo po data 257 0⟩ := by
   unfold fin1
   rw [if_neg (by rintro ⟨_, h, _⟩; cases h)]
 rw [hf, eo]
 unfold flushT
 show (if 0 = 0 ∧ (decide ((data.length : Int) < data.length) = true ∨ 0 < flight (sT own peer lo po data data.length 0)) then _ else _) = _
 rw [ef]
 have hw : wait now 4 ⟨sT own peer lo po data data.length 0, cutD own peer lo po data 257 0⟩ = ⟨sT own peer lo po data data.length (now + 4), cutD own peer lo po data 257 0⟩ := by
   unfold wait
   show (⟨sT own peer lo po data data.length (later now 4), _⟩ : C) = _
   rw [later_small (by omega)]
 by_cases q : 0 < data.length
 · rw [if_pos q]
   exact (if_pos ⟨rfl, .inr (by omega)⟩).trans hw
 · rw [if_neg q]
   exact if_neg (by rintro ⟨_, h | h⟩; · simp at h
                    · omega)
theorem cut_all {own peer lo po : Nat} {data : List Nat} : ∀ (k m : Nat), ∀ g ∈ cutD own peer lo po data k m, ∃ off len, 1 ≤ len ∧ len ≤ 64 ∧ off + len ≤ data.length ∧ g = gD own peer lo po data off len := by
 intro k
 induction k with
 | zero => intro m g hg; cases hg
 | succ k ih =>
   intro m g hg
   unfold cutD at hg
   split at hg
   · rename_i q
     rcases List.mem_cons.1 hg with rfl | hg
     · exact ⟨m, _, by omega, by omega, by omega, rfl⟩
     · exact ih _ g hg
   · cases hg
/-- Where the numbers stand. -/
def Phase (iss irs : Nat) (data : List Nat) (u la lb tr : Nat) (qa qb : List G) : Prop :=
 tr = 0 ∨ (qb = [] ∧ qa = [] ∧ tr ≤ 3 * la + lb) ∨ (qa = [] ∧ (∃ len, 1 ≤ len ∧ len ≤ 64 ∧ u + len ≤ data.length ∧ qb = [gA iss irs data u len]) ∧ tr ≤ 3 * la + lb + 1) ∨ (qb = [] ∧ (∀ g ∈ qa, ∀ v w, v ≤ data.length → g = gB iss irs v w → u < v) ∧ tr ≤ 3 * (la + 1) ∧ (qa = [] → tr ≤ 3 * la + lb))
/-- What stands all along: u bytes are acknowledged, p came in order. -/
structure AkI (iss irs : Nat) (data : List Nat) (ta tb : T) (qa qb : List G) (la lb now u p tr : Nat) (got : List Nat) : Prop where
 a : ∃ wnd, wnd ≤ 65535 ∧ ta = aT iss irs data u wnd now tr
 b : ∃ s, tb = bT irs s ∧ s.bytes = [] ∧ Agr data (u32 (iss + 1)) s p
 got : got = data.take p
 up : u ≤ p
 pn : p ≤ data.length
 fqb : ∀ g ∈ qb, ∃ off len, 1 ≤ len ∧ len ≤ 64 ∧ off + len ≤ data.length ∧ g = gA iss irs data off len
 fqa : ∀ g ∈ qa, ∃ v w, v ≤ p ∧ 1 ≤ w ∧ w ≤ 256 ∧ g = gB iss irs v w
 fla : la ≤ 2
 flb : lb ≤ 2
 ph : Phase iss irs data u la lb tr qa qb
 t9 : tr ≤ 9
 now1 : 1 ≤ now
 now2 : now ≤ 1 + 380 * u + Bk tr
/-- How far it is from its end. -/
def AkM (data : List Nat) (qa qb : List G) (u tr : Nat) : Nat := 44 * (data.length - u) + 4 * (10 - tr) + 3 * qb.length + qa.length
theorem AkI.now3 {iss irs : Nat} {data : List Nat} {ta tb : T} {qa qb : List G} {la lb now u p tr : Nat} {got : List Nat} (h : AkI iss irs data ta tb qa qb la lb now u p tr got) (hall : data.length ≤ 200) : now ≤ 100000 := by
 have h1 := h.now2
 have h2 := Bk_top h.t9
 have h3 := h.up
 have h4 := h.pn
 omega
theorem AkI.chkA {iss irs : Nat} {data : List Nat} {ta tb : T} {qa qb : List G} {la lb now u p tr : Nat} {got : List Nat} (h : AkI iss irs data ta tb qa qb la lb now u p tr got) (hall : data.length ≤ 200) : chkT ta = true := by
 obtain ⟨wnd, hw, e⟩ := h.a
 rw [e]
 exact aT_chk hall (Nat.le_trans h.up h.pn) hw (by have := h.t9; omega) (by have := h.now3 hall; omega)
theorem AkI.chkB {iss irs : Nat} {data : List Nat} {ta tb : T} {qa qb : List G} {la lb now u p tr : Nat} {got : List Nat} (h : AkI iss irs data ta tb qa qb la lb now u p tr got) : chkT tb = true := by
 obtain ⟨s, e, _, hA⟩ := h.b
 rw [e]
 exact bT_chk hA.ok
/-- The start. -/
theorem u32_lt0 (n : Nat) : u32 n < 4294967296 := by unfold u32; omega
theorem AkI.start {iss irs : Nat} {data : List Nat} (hall : data.length ≤ 200) :
   AkI iss irs data (write data 1 (pT iss irs 7 80)).t (pT irs iss 80 7) [] (write data 1 (pT iss irs 7 80)).out 0 0 1 0 0 0 [] := by
 rw [write_pair hall (by decide)]
 refine ⟨⟨256, by decide, ?_⟩, ⟨⟨u32 (iss + 1), [], []⟩, rfl, rfl, Agr.start data _ (u32_lt0 _)⟩, rfl, Nat.le_refl _, Nat.zero_le _, ?_, (fun g hg => (List.not_mem_nil hg).elim), by decide, by decide, .inl rfl, by decide, by decide, by decide⟩
 · show sT iss irs 7 80 data data.length (if 0 < data.length then 1 + 4 else 0) = _
   rfl
 · intro g hg
   obtain ⟨off, len, h1, h2, h3, rfl⟩ := cut_all _ _ g hg
   exact ⟨off, len, h1, h2, h3, rfl⟩
/-- All is acknowledged, or a timer runs. -/
theorem AkI.more {iss irs : Nat} {data : List Nat} {ta tb : T} {qa qb : List G} {la lb now u p tr : Nat} {got : List Nat} (h : AkI iss irs data ta tb qa qb la lb now u p tr got) (hall : data.length ≤ 200) : (ta.una = ta.nx ↔ u = data.length) ∧ (ta.data = [] ↔ u = data.length) ∧ (u = data.length → got = data) ∧ ta.st = 3 := by
 obtain ⟨wnd, hw, e⟩ := h.a
 have h1 := h.up
 have h2 := h.pn
 subst e
 refine ⟨?_, ?_, fun hu => ?_, rfl⟩
 · show u32 (iss + 1 + u) = u32 (iss + 1 + data.length) ↔ _
   unfold u32; omega
 · show data.drop u = [] ↔ _
   rw [List.drop_eq_nil_iff]; omega
 · rw [h.got, List.take_of_length_le (by omega)]
/-- One to the taker is lost. -/
theorem AkI.loseB {iss irs : Nat} {data : List Nat} {ta tb : T} {qa r : List G} {la lb now u p tr : Nat} {got : List Nat} (h : AkI iss irs data ta tb qa (g :: r) la lb now u p tr got) (hl : lb < 2) : AkI iss irs data ta tb qa r la (lb + 1) now u p tr got := by
 refine ⟨h.a, h.b, h.got, h.up, h.pn, fun x hx => h.fqb x (List.mem_cons_of_mem _ hx), h.fqa, h.fla, by omega, ?_, h.t9, h.now1, h.now2⟩
 rcases h.ph with q | ⟨q, _⟩ | ⟨q1, ⟨len, _, _, _, q2⟩, q3⟩ | ⟨q, _⟩
 · exact .inl q
 · cases q
 · injection q2 with _ q4
   exact .inr (.inl ⟨q4, q1, by omega⟩)
 · cases q
/-- One to the writer is lost. -/
theorem AkI.loseA {iss irs : Nat} {data : List Nat} {ta tb : T} {r : List G} {la lb now u p tr : Nat} {got : List Nat} (h : AkI iss irs data ta tb (g :: r) [] la lb now u p tr got) (hl : la < 2) : AkI iss irs data ta tb r [] (la + 1) lb now u p tr got := by
 refine ⟨h.a, h.b, h.got, h.up, h.pn, h.fqb, fun x hx => h.fqa x (List.mem_cons_of_mem _ hx), by omega, h.flb, ?_, h.t9, h.now1, h.now2⟩
 rcases h.ph with q | ⟨_, q, _⟩ | ⟨q, _⟩ | ⟨_, q1, q2⟩
 · exact .inl q
 · cases q
 · cases q
 · exact .inr (.inr (.inr ⟨rfl, fun x hx => q1 x (List.mem_cons_of_mem _ hx), by omega, fun _ => by omega⟩))
/-- In a reading of 300 all goes. -/
theorem read_all {t : T} {n : Int} (hn : n = 300) (hb : t.inn.bytes.length ≤ 256) (ho : openS t = true) : Tp.read n t = (if room t.inn < 64 ∧ 64 ≤ room ⟨t.inn.next, [], t.inn.ps⟩ then ackC ⟨{ t with inn := ⟨t.inn.next, [], t.inn.ps⟩ }, []⟩ else ⟨{ t with inn := ⟨t.inn.next, [], t.inn.ps⟩ }, []⟩, t.inn.bytes) := by
 subst hn
 have hc : clampT 300 t.inn.bytes.length = t.inn.bytes.length := by unfold clampT; rw [if_neg (by decide)]; omega
 unfold Tp.read
 rw [hc]
 dsimp only
 rw [List.drop_of_length_le (Nat.le_refl _), List.take_of_length_le (Nat.le_refl _), ho]
 simp
/-- One comes to the taker, which is read then. -/
theorem AkI.takeB {iss irs : Nat} {data : List Nat} {ta tb : T} {qa r : List G} {la lb now u p tr : Nat} {got : List Nat} (h : AkI iss irs data ta tb qa (g :: r) la lb now u p tr got) (hall : data.length ≤ 200) {c' : C} (hT : Take now g tb c') :
   ∃ p', AkI iss irs data ta (Tp.read 300 c'.t).1.t (qa ++ c'.out ++ (Tp.read 300 c'.t).1.out) r la 0 now u p' tr (got ++ (Tp.read 300 c'.t).2) ∧ (c'.out ++ (Tp.read 300 c'.t).1.out).length ≤ 2 := by
 obtain ⟨s, e, hs, hA⟩ := h.b
 obtain ⟨off, len, h1, h64, ho, rfl⟩ := h.fqb g (List.mem_cons_self ..)
 subst e
 obtain ⟨s', p', rfl, hA', hp, hby, hin, hb200, hr1, hr2⟩ := b_take hall hs hA h1 h64 ho hT
 have hrd := read_all (t := bT irs s') (n := 300) rfl (by show s'.bytes.length ≤ 256; omega) rfl
 have hA2 : Agr data (u32 (iss + 1)) ⟨s'.next, [], s'.ps⟩ p' := by
   have := hA'.read s'.bytes.length
   rwa [List.drop_of_length_le (Nat.le_refl _)] at this
 have hrm := room_nn hA2.ok
 have hr256 : room ⟨s'.next, [], s'.ps⟩ = 256 := by simpa using hrm.2.1
 have hnx : s'.next = u32 (iss + 1 + p') := by have := hA'.nxt; unfold u32 at *; omega
 obtain ⟨ex, hex, hexl⟩ : ∃ ex : List G, (Tp.read 300 (bT irs s')).1 = ⟨bT irs ⟨s'.next, [], s'.ps⟩, ex⟩ ∧ (ex = [] ∨ ex = [gB iss irs p' 256]) := by
   rw [hrd]
   show ∃ ex : List G, (if room s' < 64 ∧ 64 ≤ room ⟨s'.next, [], s'.ps⟩ then ackC ⟨bT irs ⟨s'.next, [], s'.ps⟩, []⟩ else ⟨bT irs ⟨s'.next, [], s'.ps⟩, []⟩) = _ ∧ _
   split
   · refine ⟨[gB iss irs p' 256], ?_, .inr rfl⟩
     show (⟨bT irs ⟨s'.next, [], s'.ps⟩, [⟨80, 7, u32 (irs + 1), s'.next, 16, (room ⟨s'.next, [], s'.ps⟩).toNat, []⟩]⟩ : C) = _
     rw [hr256, hnx]; rfl
   · exact ⟨[], rfl, .inl rfl⟩
 have hg2 : (Tp.read 300 (bT irs s')).2 = s'.bytes := by rw [hrd]; rfl
 show ∃ p', AkI iss irs data ta (Tp.read 300 (bT irs s')).1.t (qa ++ [gB iss irs _ _] ++ (Tp.read 300 (bT irs s')).1.out) r la 0 now u p' tr (got ++ (Tp.read 300 (bT irs s')).2) ∧ ([gB iss irs _ _] ++ (Tp.read 300 (bT irs s')).1.out).length ≤ 2
 rw [hex, hg2]
 have hnew : ∀ x ∈ [gB iss irs p' (room s').toNat] ++ ex, ∃ w, 1 ≤ w ∧ w ≤ 256 ∧ x = gB iss irs p' w := by
   intro x hx
   rcases List.mem_append.1 hx with hx | hx
   · exact ⟨_, by omega, by omega, List.mem_singleton.1 hx⟩
   · rcases hexl with e | e
     · rw [e] at hx; cases hx
     · rw [e] at hx; exact ⟨256, by decide, by decide, List.mem_singleton.1 hx⟩
 refine ⟨p', ⟨h.a, ⟨_, rfl, rfl, hA2⟩, ?_, by have := h.up; omega, hA'.pos, fun x hx => h.fqb x (List.mem_cons_of_mem _ hx), ?_, h.fla, by decide, ?_, h.t9, h.now1, h.now2⟩, ?_⟩
 · rw [hby, h.got, ← List.take_add]; congr 1; omega
 · intro x hx
   rw [List.append_assoc] at hx
   rcases List.mem_append.1 hx with hx | hx
   · obtain ⟨v, w, q1, q2⟩ := h.fqa x hx
     exact ⟨v, w, by omega, q2⟩
   · obtain ⟨w, q1, q2, q3⟩ := hnew x hx
     exact ⟨p', w, Nat.le_refl _, q1, q2, q3⟩
 · rcases h.ph with q | ⟨q, _⟩ | ⟨q1, ⟨len2, l1, l2, l3, q2⟩, q3⟩ | ⟨q, _⟩
   · exact .inl q
   · cases q
   · injection q2 with q4 q5
     have hb := h.flb
     have hup := h.up
     have hpn := h.pn
     refine .inr (.inr (.inr ⟨q5, ?_, by omega, fun hq => ?_⟩))
     rotate_left
     · simp at hq
     -- the same place
     have e1 : u32 (iss + 1 + off) = u32 (iss + 1 + u) := congrArg G.seq q4
     have e2 : off = u := by unfold u32 at e1; omega
     have hi := hin (by omega)
     intro x hx v w hv hxe
     rw [q1, List.nil_append] at hx
     obtain ⟨w2, _, _, q6⟩ := hnew x hx
     rw [hxe] at q6
     have e3 : u32 (iss + 1 + v) = u32 (iss + 1 + p') := congrArg G.ack q6
     have := hA'.pos
     have e4 : v = p' := by unfold u32 at e3; omega
     omega
   · cases q
 · rcases hexl with e | e <;> rw [e] <;> simp
/-- One comes to the writer, which is read then. -/
theorem AkI.takeA {iss irs : Nat} {data : List Nat} {ta tb : T} {r : List G} {la lb now u p tr : Nat} {got : List Nat} (h : AkI iss irs data ta tb (g :: r) [] la lb now u p tr got) (hall : data.length ≤ 200) {c' : C} (hT : Take now g ta c') :
   ∃ u' tr', AkI iss irs data (Tp.read 300 c'.t).1.t tb r [] 0 lb now u' p tr' got ∧ c'.out = [] ∧ (Tp.read 300 c'.t).1.out = [] ∧ (Tp.read 300 c'.t).2 = [] ∧ AkM data r [] u' tr' < AkM data (g :: r) [] u tr := by
 obtain ⟨wnd, hw, e⟩ := h.a
 obtain ⟨v, w, hv, h1, h2, rfl⟩ := h.fqa g (List.mem_cons_self ..)
 have hup := h.up
 have hpn := h.pn
 have hn3 := h.now3 hall
 have hn1 := h.now1
 have h9 := h.t9
 subst e
 have hrd : ∀ (x wn tr2 : Nat), Tp.read 300 (aT iss irs data x wn now tr2) = (⟨aT iss irs data x wn now tr2, []⟩, []) := by
   intro x wn tr2
   rw [read_all rfl (Nat.zero_le _) rfl]
   have e3 : room ⟨u32 (irs + 1), [], []⟩ = 256 := by
     unfold room
     rw [chk_empty _ [] (Nat.zero_le _), if_pos rfl]; rfl
   show ((if room ⟨u32 (irs + 1), [], []⟩ < 64 ∧ 64 ≤ room ⟨u32 (irs + 1), [], []⟩ then _ else _ : C), ([] : List Nat)) = _
   rw [e3, if_neg (by decide)]
   rfl
 rcases a_take hall (by omega) (by omega) h1 h2 (by omega) hn1 hT with ⟨hvu, wnd', rfl, hw'⟩ | ⟨huv, rfl⟩
 · refine ⟨u, tr, ?_, rfl, by rw [hrd], by rw [hrd], ?_⟩
   · rw [hrd]
     refine ⟨⟨wnd', by omega, rfl⟩, h.b, h.got, hup, hpn, h.fqb, fun x hx => h.fqa x (List.mem_cons_of_mem _ hx), by decide, h.flb, ?_, h9, hn1, h.now2⟩
     rcases h.ph with q | ⟨_, q, _⟩ | ⟨q, _⟩ | ⟨_, q1, q2⟩
     · exact .inl q
     · cases q
     · cases q
     · have := q1 _ (List.mem_cons_self ..) v w (by omega) rfl
       omega
   · unfold AkM
     simp only [List.length_cons, List.length_nil]
     omega
 · refine ⟨v, 0, ?_, rfl, by rw [hrd], by rw [hrd], ?_⟩
   · rw [hrd]
     refine ⟨⟨w, by omega, rfl⟩, h.b, h.got, hv, hpn, h.fqb, fun x hx => h.fqa x (List.mem_cons_of_mem _ hx), by decide, h.flb, .inl rfl, by decide, hn1, ?_⟩
     have := h.now2
     have := Bk_top h9
     show now ≤ 1 + 380 * v + 0
     omega
   · unfold AkM
     simp only [List.length_cons, List.length_nil]
     omega
/-- Nothing is on its way: the writer's timer. -/
theorem AkI.tick {iss irs : Nat} {data : List Nat} {ta tb : T} {la lb now u p tr : Nat} {got : List Nat} (h : AkI iss irs data ta tb [] [] la lb now u p tr got) (hall : data.length ≤ 200) (hu : u ≠ data.length) :
   ta.tm ≠ 0 ∧ ta.tm ≤ 1 + 640 * (data.length + 2) ∧ AkI iss irs data (Tp.tick ta.tm ⟨ta, []⟩).t tb [] (Tp.tick ta.tm ⟨ta, []⟩).out la lb ta.tm u p (tr + 1) got ∧ AkM data [] (Tp.tick ta.tm ⟨ta, []⟩).out u (tr + 1) < AkM data [] [] u tr := by
 obtain ⟨wnd, hw, e⟩ := h.a
 have hup := h.up
 have hpn := h.pn
 have hn3 := h.now3 hall
 have hn1 := h.now1
 have hla := h.fla
 have hlb := h.flb
 have ht : tr ≤ 8 ∧ tr ≤ 3 * la + lb := by
   rcases h.ph with q | ⟨_, _, q⟩ | ⟨_, ⟨_, _, _, _, q⟩, _⟩ | ⟨_, q1, q2⟩
   · omega
   · omega
   · cases q
   · have := q2.2 rfl
     omega
 have hB := Bk_top (k := tr + 1) (by omega)
 have hR := Rk_rng tr
 have h2 := h.now2
 have hb1 : Bk (tr + 1) = Bk tr + Rk tr := rfl
 subst e
 have etm : (aT iss irs data u wnd now tr).tm = now + Rk tr := by unfold aT; rw [if_pos (by omega)]
 rw [etm, a_tick hall (by omega) (by omega) (by omega) hn1]
 refine ⟨by omega, by omega, ⟨⟨wnd, hw, rfl⟩, h.b, h.got, hup, hpn, ?_, h.fqa, hla, hlb, ?_, by omega, by omega, by omega⟩, ?_⟩
 · intro g hg
   exact ⟨u, _, by omega, by omega, by omega, List.mem_singleton.1 hg⟩
 · exact .inr (.inr (.inl ⟨rfl, ⟨_, by omega, by omega, by omega, rfl⟩, by omega⟩))
 · unfold AkM
   simp only [List.length_cons, List.length_nil]
   omega
end Go.Proofs.Tp
end

section
/-
 How many segments a call sends at most (layer 26), in plain words. No program in sight.
-/
namespace Go.Proofs.Tp
open Go.Proofs.Wi
theorem segs_len : ∀ (k : Nat) (c : C), (segs k c).out.length ≤ c.out.length + k := by
 intro k
 induction k with
 | zero => intro c; exact Nat.le_refl _
 | succ k ih =>
   intro c
   rw [segs_succ]
   split
   · omega
   · refine Nat.le_trans (ih _) ?_
     simp only [List.length_append, List.length_cons, List.length_nil]
     omega
theorem fin1_len (c : C) : (fin1 c).out.length ≤ c.out.length + 1 := by
 unfold fin1
 split
 · simp
 · omega
theorem flush_len (now : Nat) (c : C) : (flush now c).out.length ≤ c.out.length + 258 := by
 unfold flush
 split
 · omega
 · have h1 := segs_len 257 c
   have h2 := fin1_len (segs 257 c)
   have h3 : (flushT now (decide (own (segs 257 c).t < (segs 257 c).t.data.length)) (fin1 (segs 257 c))).out = (fin1 (segs 257 c)).out := by
     unfold flushT
     split <;> rfl
   show (flushT now (decide (own (segs 257 c).t < (segs 257 c).t.data.length)) (fin1 (segs 257 c))).out.length ≤ _
   rw [h3]; omega
theorem send_len (fl seq : Nat) (d : List Nat) (c : C) : (send fl seq d c).out.length = c.out.length + 1 := by simp [send]
theorem ackC_len (c : C) : (ackC c).out.length = c.out.length + 1 := send_len _ _ _ _
theorem again_len (c : C) : (again c).out.length ≤ c.out.length + 1 := by
 unfold again
 split
 · exact Nat.le_of_eq (send_len _ _ _ _)
 · split
   · exact Nat.le_of_eq (send_len _ _ _ _)
   · split
     · exact Nat.le_of_eq (send_len _ _ _ _)
     · split
       · exact Nat.le_of_eq (send_len _ _ _ _)
       · split
         · simp
         · show c.out.length ≤ _
           omega
theorem tick_len (now : Nat) (t : T) : (tick now ⟨t, []⟩).out.length ≤ 1 := by
 unfold tick
 split
 · exact Nat.zero_le _
 · split
   · exact Nat.zero_le _
   · split
     · exact Nat.zero_le _
     · exact again_len _
theorem acked_len (now : Nat) (g : G) (c : C) : (acked now g c).1.out.length ≤ c.out.length + 1 := by
 unfold acked
 split
 · unfold joined
   split
   · exact Nat.le_of_eq (send_len _ _ _ _)
   · show c.out.length ≤ _
     omega
 · split
   · exact Nat.le_of_eq (ackC_len _)
   · split
     · show c.out.length ≤ _
       omega
     · show (if 0 < dif g.ack c.t.una then _ else _ : C × Bool).1.out.length ≤ _
       split
       · unfold gone
         split
         · show c.out.length ≤ _
           omega
         · unfold goneEnd
           split
           · show c.out.length ≤ _
             omega
           · split
             · show c.out.length ≤ _
               omega
             · split
               · show c.out.length ≤ _
                 omega
               · show c.out.length ≤ _
                 omega
       · split
         · show c.out.length ≤ _
           omega
         · show c.out.length ≤ _
           omega
theorem carried_len {now : Nat} {g : G} {c c' : C} (h : Carried now g c c') : c'.out = c.out := by
 obtain ⟨s', _, rfl⟩ := h
 show (if has g.fl 1 = false then _ else _ : C).out = _
 split
 · rfl
 · split
   · rfl
   · split
     · unfold ended
       show (if c.t.st = 3 then _ else _ : C).out = _
       split
       · rfl
       · show (if c.t.st = 4 then _ else _ : C).out = _
         split
         · rfl
         · show (if c.t.st = 5 then _ else _ : C).out = _
           split <;> rfl
     · rfl
theorem take_len {now : Nat} {g : G} {t : T} {c' : C} (h : Take now g t c') : c'.out.length ≤ 300 := by
 unfold Take at h
 split at h
 · subst h; exact Nat.zero_le _
 · split at h
   · subst h
     unfold answered
     split
     · split
       · exact Nat.zero_le _
       · rw [send_len]; simp
     · split
       · split <;> exact Nat.zero_le _
       · split
         · exact Nat.zero_le _
         · show (if has g.fl 16 = false then _ else _ : C).out.length ≤ _
           split
           · rw [send_len]; show 0 + 1 ≤ 300; decide
           · rw [ackC_len]; show 0 + 1 ≤ 300; decide
   · unfold Taken at h
     split at h
     · subst h; rw [send_len]; simp
     · split at h
       · subst h
         split
         · exact Nat.zero_le _
         · rw [ackC_len]
           split <;> simp [wait]
       · split at h
         · subst h; exact Nat.zero_le _
         · split at h
           · subst h; rw [ackC_len]; simp
           · split at h
             · subst h; exact Nat.zero_le _
             · have ha := acked_len now g ⟨t, []⟩
               simp only [List.length_nil] at ha
               split at h
               · subst h; omega
               · obtain ⟨c1, hc, rfl⟩ := h
                 have hl := flush_len now c1
                 rw [carried_len hc] at hl
                 unfold lastAck
                 split
                 · rw [ackC_len]; omega
                 · omega
end Go.Proofs.Tp
end

section
/-
 Two ends come together, whatever is lost (layer 26): all that may happen, looked through. Numbers are told from the first ones on. No program in sight.
-/
namespace Go.Proofs.Tp
/-- An end, its numbers from the first ones on: una, nx from its own, inn from its peer's. -/
structure A where
 st : Nat
 una : Nat
 nx : Nat
 tm : Nat
 rto : Nat
 tr : Nat
 inn : Nat
/-- A segment without bytes: flags, number, what it acknowledges. -/
structure Ga where
 fl : Nat
 seq : Nat
 ack : Nat
def tickA (now : Nat) (a : A) : A × List Ga :=
 if a.tm = 0 ∨ now < a.tm then (a, [])
 else if a.tr = 12 then ({ a with st := 0, tm := 0 }, [])
 else
   let b : A := { a with tr := a.tr + 1, rto := min (2 * a.rto) 64, tm := later now (min (2 * a.rto) 64) }
   if a.st = 1 then (b, [⟨2, a.una, 0⟩])
   else if a.st = 2 then (b, [⟨18, a.una, a.inn⟩])
   else ({ b with tm := 0 }, [])
/-- What comes to an end while two come together (numbers close together; windows of 256). -/
def takeA (now : Nat) (g : Ga) (a : A) : A × List Ga :=
 if a.st = 0 then (a, [])
 else if a.st = 1 then
   (if has g.fl 16 = true ∧ g.ack ≠ a.nx then (a, if has g.fl 4 then [] else [⟨4, g.ack, 0⟩])
   else if has g.fl 4 then (if has g.fl 16 then { a with st := 0, tm := 0 } else a, [])
   else if has g.fl 2 = false then (a, [])
   else if has g.fl 16 = false then ({ a with st := 2, inn := g.seq + 1, tm := later now a.rto }, [⟨18, a.una, g.seq + 1⟩])
   else ({ a with st := 3, una := g.ack, inn := g.seq + 1, rto := 4, tr := 0, tm := 0 }, [⟨16, a.nx, g.seq + 1⟩]))
 else if a.st = 2 ∧ (g.fl / 2 % 2 = 1 ∧ g.fl / 4 % 2 = 0 ∧ g.fl / 16 % 2 = 0) ∧ g.seq + 1 = a.inn then (a, [⟨18, a.una, a.inn⟩])
 else if ¬ (a.inn ≤ g.seq ∧ g.seq < a.inn + 256) then (a, if has g.fl 4 then [] else [⟨16, a.nx, a.inn⟩])
 else if has g.fl 4 then ({ a with st := 0, tm := 0 }, [])
 else if has g.fl 2 then (a, [⟨16, a.nx, a.inn⟩])
 else if has g.fl 16 = false then (a, [])
 else if a.st = 2 then
   (if g.ack ≠ a.nx then (a, [⟨4, g.ack, 0⟩])
   else ({ a with st := 3, una := g.ack, rto := 4, tr := 0, tm := 0 }, []))
 else if a.una < g.ack then (a, [⟨16, a.nx, a.inn⟩])
 else (a, [])
/-- Both ends, what is on its way to each, how many in a row were lost. -/
structure Sa where
 a : A
 b : A
 begun : Bool
 qa : List Ga
 qb : List Ga
 now : Nat
 la : Nat
 lb : Nat
def doneA (s : Sa) : Bool := s.a.st == 3 && s.begun && s.b.st == 3
/-- Where nothing is on its way, a timer comes. -/
def nextA (s : Sa) : Nat := if 0 < s.a.tm ∧ 0 < (if s.begun then s.b.tm else 0) then min s.a.tm (if s.begun then s.b.tm else 0) else max s.a.tm (if s.begun then s.b.tm else 0)
def timeA (s : Sa) : Sa :=
 let n := nextA s
 let x := tickA n s.a
 let y := if s.begun then tickA n s.b else (s.b, [])
 { s with a := x.1, b := y.1, qb := s.qb ++ x.2, qa := s.qa ++ y.2, now := n }
/-- A segment comes to b. -/
def toB (s : Sa) (g : Ga) (r : List Ga) : Sa :=
 if s.begun = false then
   (if g.fl = 2 then { s with begun := true, b := ⟨2, 0, 1, later s.now 4, 4, 0, g.seq + 1⟩, qa := s.qa ++ [⟨18, 0, g.seq + 1⟩], qb := r, lb := 0 } else { s with qb := r, lb := 0 })
 else { s with b := (takeA s.now g s.b).1, qa := s.qa ++ (takeA s.now g s.b).2, qb := r, lb := 0 }
def toA (s : Sa) (g : Ga) (r : List Ga) : Sa := { s with a := (takeA s.now g s.a).1, qb := s.qb ++ (takeA s.now g s.a).2, qa := r, la := 0 }
/-- Numbers are small, flags are those of a beginning; an end that is established has nothing under way. -/
def smallE (a : A) : Bool := decide (a.st ≤ 3 ∧ a.st ≠ 0 ∧ a.una ≤ 100 ∧ a.nx = 1 ∧ a.inn ≤ 100 ∧ a.tm ≤ 100000 ∧ 1 ≤ a.rto ∧ a.rto ≤ 64 ∧ a.tr ≤ 12 ∧ (a.st = 3 → a.una = 1) ∧ (a.st ≠ 3 → a.una = 0))
def smallG (g : Ga) : Bool := decide ((g.fl = 2 ∨ g.fl = 4 ∨ g.fl = 16 ∨ g.fl = 18) ∧ g.seq ≤ 100 ∧ g.ack ≤ 100)
def smallA (s : Sa) : Bool := smallE s.a && (!s.begun || smallE s.b) && s.qa.all smallG && s.qb.all smallG && decide (s.now ≤ 2000) && (s.begun || s.qb.all fun g => g.fl == 2) && decide (s.la ≤ 2 ∧ s.lb ≤ 2)
/-- Whatever is lost, they come together. -/
def comes : Nat → Sa → Bool
 | 0, _ => false
 | k + 1, s =>
   smallA s && if doneA s then s.a.inn == 1 && s.b.inn == 1
   else match s.qb with
     | g :: r => (if s.lb < 2 then comes k { s with qb := r, lb := s.lb + 1 } else true) && comes k (toB s g r)
     | [] => match s.qa with
       | g :: r => (if s.la < 2 then comes k { s with qa := r, la := s.la + 1 } else true) && comes k (toA s g r)
       | [] => decide (nextA s ≠ 0 ∧ nextA s ≤ 2000) && comes k (timeA s)
def startA : Sa := ⟨⟨1, 0, 1, later 1 4, 4, 0, 0⟩, ⟨0, 0, 0, 0, 0, 0, 0⟩, false, [], [⟨2, 0, 0⟩], 1, 0, 0⟩
theorem they_come : comes 200 startA = true := by decide +kernel
end Go.Proofs.Tp
end

section
/-
 Two ends come together (layer 26): what was looked through is what they do. No program in sight.
-/
namespace Go.Proofs.Tp
open Go.Proofs.Wi
/-- An end as it is, with its first number and its peer's. -/
def conA (own peer lo ip po : Nat) (a : A) : T := ⟨a.st, lo, ip, po, own, u32 (own + a.una), u32 (own + a.nx), [], if a.st = 1 then 0 else 256, false, false, ⟨if a.st = 1 then 0 else u32 (peer + a.inn), [], []⟩, false, a.tm, a.rto, a.tr, 0⟩
/-- A segment as it is, from an end with this first number. -/
def conG (own peer lo po : Nat) (g : Ga) : G := ⟨lo, po, u32 (own + g.seq), if has g.fl 16 then u32 (peer + g.ack) else 0, g.fl, 256, []⟩
theorem room_nil (n : Nat) : room ⟨n, [], []⟩ = 256 := by
 unfold room
 rw [chk_empty n [] (Nat.zero_le _), if_pos rfl]
 rfl
theorem dif_small (x a b : Nat) (ha : a ≤ 1000) (hb : b ≤ 1000) : dif (u32 (x + a)) (u32 (x + b)) = (a : Int) - b := by
 unfold dif u32
 split <;> omega
theorem smallE_facts {a : A} (h : smallE a = true) : a.st ≤ 3 ∧ a.st ≠ 0 ∧ a.una ≤ 100 ∧ a.nx = 1 ∧ a.inn ≤ 100 ∧ a.tm ≤ 100000 ∧ 1 ≤ a.rto ∧ a.rto ≤ 64 ∧ a.tr ≤ 12 ∧ (a.st = 3 → a.una = 1) ∧ (a.st ≠ 3 → a.una = 0) := by
 unfold smallE at h
 exact of_decide_eq_true h
theorem flight_con {own peer lo ip po : Nat} {a : A} (h : smallE a = true) : flight (conA own peer lo ip po a) = (a.nx : Int) - a.una := by
 obtain ⟨_, _, h3, h4, _⟩ := smallE_facts h
 exact dif_small own a.nx a.una (by omega) (by omega)
theorem tick_con {own peer lo ip po now : Nat} {a : A} (h : smallE a = true) (hw : (tickA now a).1.st ≠ 0) :
   tick now ⟨conA own peer lo ip po a, []⟩ = ⟨conA own peer lo ip po (tickA now a).1, (tickA now a).2.map (conG own peer lo po)⟩ := by
 obtain ⟨h1, h2, h3, h4, h5, h6, h7, h8, h9, h10, h11⟩ := smallE_facts h
 have hf := flight_con (own := own) (peer := peer) (lo := lo) (ip := ip) (po := po) h
 unfold tickA at hw ⊢
 unfold tick
 by_cases q0 : a.tm = 0 ∨ now < a.tm
 · rw [if_pos q0, if_pos (show (conA own peer lo ip po a).tm = 0 ∨ now < (conA own peer lo ip po a).tm from q0)]; rfl
 · rw [if_neg q0] at hw ⊢
   rw [if_neg (show ¬ ((conA own peer lo ip po a).tm = 0 ∨ now < (conA own peer lo ip po a).tm) from q0), if_neg (show ¬ (conA own peer lo ip po a).st = 9 by show ¬ a.st = 9; omega)]
   by_cases q1 : a.tr = 12
   · rw [if_pos q1] at hw; exact absurd rfl hw
   · rw [if_neg q1, if_neg (show ¬ (conA own peer lo ip po a).tr = 12 from q1)]
     unfold again
     by_cases s1 : a.st = 1
     · rw [if_pos s1, if_pos (show (conA own peer lo ip po a).st = 1 from s1)]
       unfold Tp.send Tp.seg conA conG
       simp [s1, room_nil, has]
     · rw [if_neg s1, if_neg (show ¬ (conA own peer lo ip po a).st = 1 from s1)]
       by_cases s2 : a.st = 2
       · rw [if_pos s2, if_pos (show (conA own peer lo ip po a).st = 2 from s2)]
         unfold Tp.send Tp.seg conA conG
         simp [s2, room_nil, has]
       · rw [if_neg s2, if_neg (show ¬ (conA own peer lo ip po a).st = 2 from s2)]
         have s3 : a.st = 3 := by omega
         have hz : flight (conA own peer lo ip po a) = 0 := by rw [hf, h4, h10 s3]; rfl
         have ho : own ≤ own := Nat.le_refl _
         have hown : Tp.own { (conA own peer lo ip po a) with tr := a.tr + 1, rto := min (2 * a.rto) 64, tm := later now (min (2 * a.rto) 64) } = 0 := by
           unfold Tp.own
           rw [if_neg (by intro h; cases h.1)]
           exact hz
         show (if 0 < Tp.own { (conA own peer lo ip po a) with tr := a.tr + 1, rto := min (2 * a.rto) 64, tm := later now (min (2 * a.rto) 64) } then _ else _) = _
         rw [hown, if_neg (by decide), if_neg (by intro h; cases h.1)]
         unfold conA
         simp [s3]
theorem u32_inj {x a b : Nat} (ha : a ≤ 1000) (hb : b ≤ 1000) : u32 (x + a) = u32 (x + b) ↔ a = b := by
 unfold u32; omega
theorem u32_succ (x a : Nat) : u32 (u32 (x + a) + 1) = u32 (x + (a + 1)) := by
 unfold u32; omega
theorem smallG_facts {g : Ga} (h : smallG g = true) : (g.fl = 2 ∨ g.fl = 4 ∨ g.fl = 16 ∨ g.fl = 18) ∧ g.seq ≤ 100 ∧ g.ack ≤ 100 := by
 unfold smallG at h
 exact of_decide_eq_true h
theorem answered_con {own peer lo ip po now : Nat} {a : A} {g : Ga} (h : smallE a = true) (hg : smallG g = true) (s1 : a.st = 1) (hw : (takeA now g a).1.st ≠ 0) :
   answered now (conG peer own po lo g) ⟨conA own peer lo ip po a, []⟩ = ⟨conA own peer lo ip po (takeA now g a).1, (takeA now g a).2.map (conG own peer lo po)⟩ := by
 obtain ⟨h1, h2, h3, h4, h5, h6, h7, h8, h9, h10, h11⟩ := smallE_facts h
 obtain ⟨g1, g2, g3⟩ := smallG_facts hg
 have hack : u32 (own + g.ack) = u32 (own + a.nx) ↔ g.ack = a.nx := u32_inj (by omega) (by omega)
 have hu := h11 (by omega)
 unfold takeA at hw ⊢
 rw [if_neg (by omega), if_pos s1] at hw
 rw [if_neg (by omega), if_pos s1]
 unfold answered
 rcases g1 with e | e | e | e
 · simp only [conG, e] at *
   simp [has, conA, Tp.send, Tp.seg, Tp.wait, u32_succ, room_nil, s1, conG]
 · simp only [conG, e] at *
   simp [has, conA, Tp.send, Tp.seg, s1, conG]
 · by_cases q : g.ack = a.nx
   · simp only [conG, e] at *
     simp [has, conA, q, s1, conG]
   · have q2 : ¬ u32 (own + g.ack) = u32 (own + a.nx) := fun h => q (hack.1 h)
     simp only [conG, e] at *
     simp [has, conA, Tp.send, Tp.seg, q, q2, s1, conG, room_nil]
 · by_cases q : g.ack = a.nx
   · simp only [conG, e] at *
     simp [has, conA, Tp.send, Tp.seg, ackC, Tp.fresh, q, s1, conG, room_nil, u32_succ]
   · have q2 : ¬ u32 (own + g.ack) = u32 (own + a.nx) := fun h => q (hack.1 h)
     simp only [conG, e] at *
     simp [has, conA, Tp.send, Tp.seg, q, q2, s1, conG, room_nil]
/-- Nothing to be sent, nothing under way. -/
theorem flush_idle {now : Nat} {c : C} (h1 : c.t.data = []) (h2 : c.t.en = false) (h3 : c.t.se = false) (h4 : flight c.t = 0) : flush now c = c := by
 have ho : Tp.own c.t = 0 := by rw [own_noSe h3, h4]
 have hr : room1 c.t ≤ 0 := by unfold room1; rw [h1, ho]; simp only [List.length_nil]; omega
 unfold flush
 split
 · rfl
 · rw [segs_succ, if_pos hr]
   have hf : fin1 c = c := by
     unfold fin1
     rw [if_neg (by rw [h2]; intro h; exact absurd h.2.1 (by decide))]
   show flushT now _ (fin1 c) = c
   rw [hf]
   unfold flushT
   rw [if_neg]
   rw [h1, ho, h4]
   simp
theorem carried_idle {now : Nat} {g : G} {c c1 : C} (hd : g.data = []) (hf : has g.fl 1 = false) (h : Carried now g c c1) : c1 = c := by
 obtain ⟨s', h1, rfl⟩ := h
 rw [hd, if_neg (by simp)] at h1
 subst h1
 show (if has g.fl 1 = false then _ else _ : C) = c
 rw [if_pos hf]
end Go.Proofs.Tp
end

section
/-
 Two ends come together (layer 26): a segment taken. No program in sight.
-/
namespace Go.Proofs.Tp
open Go.Proofs.Wi
set_option maxHeartbeats 4000000 in
theorem taken_con {own peer lo ip po now : Nat} {a : A} {g : Ga} {c' : C} (h : smallE a = true) (hg : smallG g = true) (s23 : a.st = 2 ∨ a.st = 3) (hw : (takeA now g a).1.st ≠ 0)
   (ht : Taken now (conG peer own po lo g) ⟨conA own peer lo ip po a, []⟩ c') : c' = ⟨conA own peer lo ip po (takeA now g a).1, (takeA now g a).2.map (conG own peer lo po)⟩ := by
 obtain ⟨h1, h2, h3, h4, h5, h6, h7, h8, h9, h10, h11⟩ := smallE_facts h
 obtain ⟨g1, g2, g3⟩ := smallG_facts hg
 have s0 : a.st ≠ 0 := by omega
 have s1 : a.st ≠ 1 := by omega
 have hin : (conA own peer lo ip po a).inn.next = u32 (peer + a.inn) := by unfold conA; simp [s1]
 have hfin : has g.fl 1 = false := by rcases g1 with e | e | e | e <;> rw [e] <;> decide
 -- a SYN once more
 have e1 : againSyn (conG peer own po lo g) (conA own peer lo ip po a) = decide (a.st = 2 ∧ (g.fl / 2 % 2 = 1 ∧ g.fl / 4 % 2 = 0 ∧ g.fl / 16 % 2 = 0) ∧ g.seq + 1 = a.inn) := by
   unfold againSyn
   rw [hin]
   show (a.st == 2 && (g.fl / 2 % 2 == 1 && g.fl / 4 % 2 == 0 && g.fl / 16 % 2 == 0) && u32 (u32 (peer + g.seq) + 1) == u32 (peer + a.inn)) = _
   rw [u32_succ]
   have := u32_inj (x := peer) (a := g.seq + 1) (b := a.inn) (by omega) (by omega)
   rw [Bool.eq_iff_iff]
   simp only [Bool.and_eq_true, beq_iff_eq, decide_eq_true_eq, this]
   constructor
   · rintro ⟨⟨q1, ⟨q2, q3⟩, q4⟩, q5⟩; exact ⟨q1, ⟨q2, q3, q4⟩, q5⟩
   · rintro ⟨q1, ⟨q2, q3, q4⟩, q5⟩; exact ⟨⟨q1, ⟨q2, q3⟩, q4⟩, q5⟩
 have hdif : dif (u32 (peer + g.seq)) (u32 (peer + a.inn)) = (g.seq : Int) - a.inn := dif_small peer g.seq a.inn (by omega) (by omega)
 have e2 : fits (conG peer own po lo g) (conA own peer lo ip po a) = decide (a.inn ≤ g.seq ∧ g.seq < a.inn + 256) := by
   unfold fits inside
   rw [hin]
   have hr : room (conA own peer lo ip po a).inn = 256 := room_nil _
   rw [hr]
   show (if lenG (conG peer own po lo g) = 0 then (dif (u32 (peer + g.seq)) (u32 (peer + a.inn)) == 0 || decide (0 ≤ dif (u32 (peer + g.seq)) (u32 (peer + a.inn)) ∧ dif (u32 (peer + g.seq)) (u32 (peer + a.inn)) < 256)) else (decide (0 ≤ dif (u32 (peer + g.seq)) (u32 (peer + a.inn)) ∧ dif (u32 (peer + g.seq)) (u32 (peer + a.inn)) < 256) || decide (0 ≤ dif (u32 (peer + g.seq)) (u32 (peer + a.inn)) + ((lenG (conG peer own po lo g) : Nat) : Int) - 1 ∧ dif (u32 (peer + g.seq)) (u32 (peer + a.inn)) + ((lenG (conG peer own po lo g) : Nat) : Int) - 1 < 256))) = _
   rw [hdif]
   have hl : lenG (conG peer own po lo g) ≤ 1 := by
     unfold lenG
     show ([] : List Nat).length + (if has g.fl 2 then 1 else 0) + (if has g.fl 1 then 1 else 0) ≤ 1
     rw [hfin]
     simp only [List.length_nil, Bool.false_eq_true, if_false]
     split <;> omega
   rw [Bool.eq_iff_iff]
   split
   · simp only [Bool.or_eq_true, beq_iff_eq, decide_eq_true_eq]; omega
   · simp only [Bool.or_eq_true, decide_eq_true_eq]; omega
 unfold Taken at ht
 rw [e1, e2] at ht
 unfold takeA at hw ⊢
 rw [if_neg s0, if_neg s1] at hw ⊢
 by_cases q1 : a.st = 2 ∧ (g.fl / 2 % 2 = 1 ∧ g.fl / 4 % 2 = 0 ∧ g.fl / 16 % 2 = 0) ∧ g.seq + 1 = a.inn
 · rw [if_pos q1]
   rw [if_pos (decide_eq_true q1)] at ht
   rw [ht]
   simp [Tp.send, Tp.seg, conA, conG, has, room_nil, s1]
 · rw [if_neg q1] at hw ⊢
   rw [if_neg (by simpa using q1)] at ht
   by_cases q2 : a.inn ≤ g.seq ∧ g.seq < a.inn + 256
   · rw [if_neg (by simpa using q2)] at hw ⊢
     rw [if_neg (by rw [decide_eq_true q2]; simp)] at ht
     have hf4 : has (conG peer own po lo g).fl 4 = has g.fl 4 := rfl
     have hf2 : has (conG peer own po lo g).fl 2 = has g.fl 2 := rfl
     have hf16 : has (conG peer own po lo g).fl 16 = has g.fl 16 := rfl
     rw [hf4, hf2, hf16] at ht
     by_cases q3 : has g.fl 4 = true
     · rw [if_pos q3] at hw; exact absurd rfl hw
     · rw [if_neg q3] at hw ⊢ ht
       by_cases q4 : has g.fl 2 = true
       · rw [if_pos q4]
         rw [if_pos q4] at ht
         rw [ht]
         simp [ackC, Tp.send, Tp.seg, conA, conG, has, room_nil, s1]
       · rw [if_neg q4] at hw ⊢ ht
         by_cases q5 : has g.fl 16 = false
         · rw [if_pos q5]
           rw [if_pos q5] at ht
           rw [ht]; rfl
         · rw [if_neg q5] at hw ⊢ ht
           have e16 : g.fl = 16 := by
             rcases g1 with e | e | e | e
             · rw [e] at q4; exact absurd rfl q4
             · rw [e] at q3; exact absurd rfl q3
             · exact e
             · rw [e] at q4; exact absurd rfl q4
           have hga : (conG peer own po lo g).ack = u32 (own + g.ack) := by unfold conG; simp [e16, has]
           have hgw : (conG peer own po lo g).wnd = 256 := rfl
           have hin2 := u32_inj (x := own) (a := g.ack) (b := a.nx) (by omega) (by omega)
           rcases s23 with s2 | s3
           · rw [if_pos s2] at hw ⊢
             have hk : acked now (conG peer own po lo g) ⟨conA own peer lo ip po a, []⟩ = joined (conG peer own po lo g) ⟨conA own peer lo ip po a, []⟩ := by
               unfold acked
               rw [if_pos (show (conA own peer lo ip po a).st = 2 from s2)]
             rw [hk] at ht
             unfold joined at ht
             rw [hga] at ht
             by_cases q6 : g.ack = a.nx
             · have q7 : ¬ u32 (own + g.ack) ≠ u32 (own + a.nx) := fun h => h (hin2.2 q6)
               rw [if_neg (by simpa using q6)]
               have ht2 := ht
               rw [if_neg (show ¬ u32 (own + g.ack) ≠ (conA own peer lo ip po a).nx from q7)] at ht2
               simp only [Bool.true_eq_false, if_false] at ht2
               obtain ⟨c1, hc1, rfl⟩ := ht2
               have := carried_idle (g := conG peer own po lo g) rfl hfin hc1
               subst this
               have hfl : flight { (conA own peer lo ip po a) with st := 3, una := u32 (own + g.ack), wnd := 256, rto := 4, tr := 0, tm := 0 } = 0 := by
                 unfold flight
                 show dif (u32 (own + a.nx)) (u32 (own + g.ack)) = 0
                 rw [q6]; exact dif_self _
               have hfi := flush_idle (now := now) (c := Tp.fresh { (⟨conA own peer lo ip po a, []⟩ : C) with t := { (conA own peer lo ip po a) with st := 3, una := u32 (own + g.ack), wnd := 256 } }) rfl rfl rfl hfl
               have hfi2 : flush now (Tp.fresh { t := { (conA own peer lo ip po a) with st := 3, una := (conG peer own po lo g).ack, wnd := (conG peer own po lo g).wnd }, out := [] }) = Tp.fresh { (⟨conA own peer lo ip po a, []⟩ : C) with t := { (conA own peer lo ip po a) with st := 3, una := u32 (own + g.ack), wnd := 256 } } := by rw [hga]; exact hfi
               rw [hga] at hfi2
               rw [hfi2]
               unfold lastAck
               rw [if_neg (by
                 rintro ⟨_, h | h⟩
                 · exact absurd h (by show ¬ 0 < ([] : List Nat).length; decide)
                 · exact absurd (hfin.symm.trans h) (by decide))]
               simp [Tp.fresh, conA, conG, s1]
             · have q7 : u32 (own + g.ack) ≠ u32 (own + a.nx) := fun h => q6 (hin2.1 h)
               rw [if_pos (by simpa using q6)]
               rw [if_pos (show u32 (own + g.ack) ≠ (conA own peer lo ip po a).nx from q7), if_pos rfl] at ht
               rw [ht]
               simp [Tp.send, Tp.seg, conA, conG, has, room_nil, s1]
           · rw [if_neg (by omega)] at hw ⊢
             have hfl0 : flight (conA own peer lo ip po a) = 0 := by rw [flight_con h, h4, h10 s3]; rfl
             have hd0 : dif (conG peer own po lo g).ack (conA own peer lo ip po a).una = (g.ack : Int) - a.una := by
               rw [hga]; exact dif_small own g.ack a.una (by omega) (by omega)
             have hu1 := h10 s3
             have hfin2 : lastAck (conG peer own po lo g) ⟨conA own peer lo ip po a, []⟩ = ⟨conA own peer lo ip po a, []⟩ := by
               unfold lastAck
               rw [if_neg (by
                 rintro ⟨_, h | h⟩
                 · exact absurd h (by show ¬ 0 < ([] : List Nat).length; decide)
                 · exact absurd (hfin.symm.trans h) (by decide))]
             by_cases q6 : a.una < g.ack
             · rw [if_pos q6]
               have hk : acked now (conG peer own po lo g) ⟨conA own peer lo ip po a, []⟩ = (ackC ⟨conA own peer lo ip po a, []⟩, false) := by
                 unfold acked
                 rw [if_neg (show ¬ (conA own peer lo ip po a).st = 2 by show ¬ a.st = 2; omega), if_pos (by rw [hfl0, hd0]; omega)]
               rw [hk, if_pos rfl] at ht
               rw [ht]
               simp [ackC, Tp.send, Tp.seg, conA, conG, has, room_nil, s1]
             · rw [if_neg q6]
               have hk : acked now (conG peer own po lo g) ⟨conA own peer lo ip po a, []⟩ = (⟨conA own peer lo ip po a, []⟩, true) := by
                 unfold acked
                 rw [if_neg (show ¬ (conA own peer lo ip po a).st = 2 by show ¬ a.st = 2; omega), if_neg (by rw [hfl0, hd0]; omega)]
                 by_cases q7 : g.ack < a.una
                 · rw [if_pos (by rw [hd0]; omega)]
                 · rw [if_neg (by rw [hd0]; omega)]
                   show (if 0 < dif (conG peer own po lo g).ack (conA own peer lo ip po a).una then _ else _ : C × Bool) = _
                   rw [if_neg (by rw [hd0]; omega), if_neg (by show ¬ (256 : Nat) = 0; decide)]
                   simp [conA, conG, s1]
               rw [hk] at ht
               simp only [Bool.true_eq_false, if_false] at ht
               obtain ⟨c1, hc1, rfl⟩ := ht
               have := carried_idle (g := conG peer own po lo g) rfl hfin hc1
               subst this
               rw [flush_idle (now := now) (c := ⟨conA own peer lo ip po a, []⟩) rfl rfl rfl hfl0, hfin2]
               rfl
   · rw [if_pos (by simpa using q2)]
     rw [if_pos (by rw [decide_eq_false q2])] at ht
     rw [ht]
     by_cases q3 : has g.fl 4 = true
     · rw [if_pos (show has (conG peer own po lo g).fl 4 = true from q3), if_pos q3]; rfl
     · rw [if_neg (show ¬ has (conG peer own po lo g).fl 4 = true from q3), if_neg q3, if_neg (by
         rintro ⟨h, _⟩
         have : a.st = 9 := h
         omega)]
       simp [ackC, Tp.send, Tp.seg, conA, conG, has, room_nil, s1]
/-- A segment taken, whatever the state. -/
theorem take_con {own peer lo ip po now : Nat} {a : A} {g : Ga} {c' : C} (h : smallE a = true) (hg : smallG g = true) (hl : 1 ≤ lo ∧ lo ≤ 65535) (hp : 1 ≤ po ∧ po ≤ 65535) (hw : (takeA now g a).1.st ≠ 0)
   (ht : Take now (conG peer own po lo g) (conA own peer lo ip po a) c') : c' = ⟨conA own peer lo ip po (takeA now g a).1, (takeA now g a).2.map (conG own peer lo po)⟩ := by
 obtain ⟨h1, h2, _⟩ := smallE_facts h
 obtain ⟨g1, _⟩ := smallG_facts hg
 have hc : chkG (conG peer own po lo g) = true := by
   unfold chkG
   rw [decide_eq_true_eq]
   exact ⟨hp.1, hp.2, hl.1, hl.2, by show g.fl ≤ 31; omega, by show 256 ≤ 65535; decide, Nat.zero_le _⟩
 unfold Take at ht
 rw [if_neg (by
   rintro (q | q | q | q)
   · rw [hc] at q; cases q
   · exact q rfl
   · exact q rfl
   · exact h2 q)] at ht
 by_cases s1 : a.st = 1
 · rw [if_pos (show (conA own peer lo ip po a).st = 1 from s1)] at ht
   rw [ht]; exact answered_con h hg s1 hw
 · rw [if_neg (show ¬ (conA own peer lo ip po a).st = 1 from s1)] at ht
   exact taken_con h hg (by omega) hw ht
end Go.Proofs.Tp
end
