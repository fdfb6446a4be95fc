/-
 The reference (layer 26): what it says of a connection, whichever; what it lets through may be.
-/
import Derived.Test.YthenepdbgeafkaaTcQ
set_option linter.unusedVariables false
namespace Go.Proofs.Ythenepdbgeafkaa
open Go.Proofs.Wi Go.RowKit Go.Proofs Go.Proofs.Tp
theorem RCheck_num {R : LR} {lo po wnd rto tr er : Int} {k ip iss una nx inx tm : Nat} {en se ed : Bool} {da ba pa : Option Addr} {dn dk bn bk pn pk : Nat} {s : St} {l : List PcV} (hs : InS R inx (.slice ba bn bk) (.slice pa pn pk) s l) (hf : fewB s.bytes l = true) (hnx : inx < 4294967296) (hsq : ∀ p ∈ l, p.1 < 4294967296) (h1 : ¬ (k : Int) < 0) (h2 : ¬ (9 : Int) < (k : Int)) (h3 : 1 ≤ lo ∧ lo ≤ 65535) (h4 : 1 ≤ po ∧ po ≤ 65535) (h5 : dn ≤ 256) (h6 : ¬ wnd < 0) (h7 : ¬ 65535 < wnd) (h8 : chk s = true) (c1 : tm ≤ 1099511627776) (c2 : ¬ rto < 1) (c3 : ¬ 64 < rto) (c4 : ¬ tr < 0) (c5 : ¬ 12 < tr) (c6 : ¬ er < 0) (c7 : ¬ 1000 < er) (c8 : se = true → en = true) (hna : nx < 4294967296) (hnb : una < 4294967296) {D : List Nat} (hD : D.length = dn) : ∃ b, (∀ (w0 w : World) (L : LV), Mem w0 w L R → Calls Try.prog 22 #[.agg #[.int .i64 k, .int .i64 lo, .int .u32 ip, .int .i64 po, .int .u32 iss, .int .u32 una, .int .u32 nx, .slice da dn dk, .int .i64 wnd, .bool en, .bool se, .int .u32 inx, .slice ba bn bk, .slice pa pn pk, .bool ed, .int .u64 tm, .int .i64 rto, .int .i64 tr, .int .i64 er]] w fun e w' => e = .returned (.bool b) ∧ New w w') ∧ (b = true → numbers ⟨k, lo.toNat, ip, po.toNat, iss, una, nx, D, wnd.toNat, en, se, s, ed, tm, rto.toNat, tr.toNat, er.toNat⟩ = true) := by
 by_cases hk : k = 0
 · by_cases ht : tm = 0
   · exact ⟨true, fun w0 w L hw9 => RCheck_y hw9 hs hf hnx hsq h1 h2 h3 h4 h5 h6 h7 h8 c1 c2 c3 c4 c5 c6 c7 c8 hna hnb (.y hk ht), fun _ => by unfold numbers; rw [if_pos hk]; simpa using ht⟩
   · exact ⟨false, fun w0 w L hw9 => RCheck_n hw9 hs hf hnx hsq h1 h2 h3 h4 h5 h6 h7 h8 c1 c2 c3 c4 c5 c6 c7 c8 (.z hk ht), fun h => by cases h⟩
 · by_cases hk3 : k = 1 ∨ k = 2
   · by_cases hu : una = iss
     · by_cases hi : nx = Tp.u32 (iss + 1)
       · by_cases hd : dn = 0
         · refine ⟨_, fun w0 w L hw9 => RCheck_n hw9 hs hf hnx hsq h1 h2 h3 h4 h5 h6 h7 h8 c1 c2 c3 c4 c5 c6 c7 c8 (.c4 hk3 hu hi hd), fun h => ?_⟩
           unfold numbers
           rw [if_neg hk, if_pos hk3]
           have hD0 : D = [] := List.eq_nil_of_length_eq_zero (by omega)
           cases se <;> simp_all
         · exact ⟨false, fun w0 w L hw9 => RCheck_n hw9 hs hf hnx hsq h1 h2 h3 h4 h5 h6 h7 h8 c1 c2 c3 c4 c5 c6 c7 c8 (.c3 hk3 hu hi hd), fun h => by cases h⟩
       · exact ⟨false, fun w0 w L hw9 => RCheck_n hw9 hs hf hnx hsq h1 h2 h3 h4 h5 h6 h7 h8 c1 c2 c3 c4 c5 c6 c7 c8 (.c2 hk3 hu hi), fun h => by cases h⟩
     · exact ⟨false, fun w0 w L hw9 => RCheck_n hw9 hs hf hnx hsq h1 h2 h3 h4 h5 h6 h7 h8 c1 c2 c3 c4 c5 c6 c7 c8 (.c1 hk3 hu), fun h => by cases h⟩
   · have k1 : k ≠ 1 := fun h => hk3 (.inl h)
     have k2 : k ≠ 2 := fun h => hk3 (.inr h)
     by_cases hw : ownN nx una se < 0
     · exact ⟨false, fun w0 w L hw9 => RCheck_y hw9 hs hf hnx hsq h1 h2 h3 h4 h5 h6 h7 h8 c1 c2 c3 c4 c5 c6 c7 c8 hna hnb (.d1 hk k1 k2 hw), fun h => by cases h⟩
     · by_cases hw2 : ownN nx una se ≤ dn
       · refine ⟨true, fun w0 w L hw9 => RCheck_y hw9 hs hf hnx hsq h1 h2 h3 h4 h5 h6 h7 h8 c1 c2 c3 c4 c5 c6 c7 c8 hna hnb (.d2 hk k1 k2 (by omega) hw2), fun _ => ?_⟩
         unfold numbers
         rw [if_neg hk, if_neg hk3]
         apply decide_eq_true
         rw [own_N]
         dsimp only
         omega
       · exact ⟨false, fun w0 w L hw9 => RCheck_y hw9 hs hf hnx hsq h1 h2 h3 h4 h5 h6 h7 h8 c1 c2 c3 c4 c5 c6 c7 c8 hna hnb (.d3 hk k1 k2 (by omega) hw2), fun h => by cases h⟩
theorem RCheck_T {R : LR} {st lo po wnd rto tr er : Int} {ip iss una nx inx tm : Nat} {en se ed : Bool} {da ba pa : Option Addr} {dn dk bn bk pn pk : Nat} {s : St} {l : List PcV} (hs : InS R inx (.slice ba bn bk) (.slice pa pn pk) s l) (hf : fewB s.bytes l = true) (hnx : inx < 4294967296) (hsq : ∀ p ∈ l, p.1 < 4294967296) (hna : nx < 4294967296) (hnb : una < 4294967296) {D : List Nat} (hD : D.length = dn) : ∃ b, (∀ (w0 w : World) (L : LV), Mem w0 w L R → Calls Try.prog 22 #[.agg #[.int .i64 st, .int .i64 lo, .int .u32 ip, .int .i64 po, .int .u32 iss, .int .u32 una, .int .u32 nx, .slice da dn dk, .int .i64 wnd, .bool en, .bool se, .int .u32 inx, .slice ba bn bk, .slice pa pn pk, .bool ed, .int .u64 tm, .int .i64 rto, .int .i64 tr, .int .i64 er]] w fun e w' => e = .returned (.bool b) ∧ New w w') ∧ (b = true → ∃ t : T, chkT t = true ∧ st = (t.st : Nat) ∧ lo = (t.lo : Nat) ∧ ip = t.ip ∧ po = (t.po : Nat) ∧ iss = t.iss ∧ una = t.una ∧ nx = t.nx ∧ D = t.data ∧ wnd = (t.wnd : Nat) ∧ en = t.en ∧ se = t.se ∧ s = t.inn ∧ ed = t.ed ∧ tm = t.tm ∧ rto = (t.rto : Nat) ∧ tr = (t.tr : Nat) ∧ er = (t.er : Nat)) := by
 rcases bad_or st lo po wnd rto tr er dn tm en se (chk s) with h | ⟨h1, h2, h3, h4, h5, h6, h7, h8⟩
 · exact ⟨false, fun w0 w L hw9 => RCheck_bad hw9 hs hf hnx hsq h, fun h => by cases h⟩
 rcases badj_or st rto tr er tm en se with h | ⟨c1, c2, c3, c4, c5, c6, c7, c8⟩
 · exact ⟨false, fun w0 w L hw9 => RCheck_badj hw9 hs hf hnx hsq h1 h2 h3 h4 h5 h6 h7 h8 h, fun h => by cases h⟩
 obtain ⟨k, rfl⟩ : ∃ k : Nat, st = k := ⟨st.toNat, by omega⟩
 obtain ⟨b, hb, hn⟩ := RCheck_num hs hf hnx hsq h1 h2 h3 h4 h5 h6 h7 h8 c1 c2 c3 c4 c5 c6 c7 c8 hna hnb (ip := ip) (ed := ed) hD
 refine ⟨b, hb, fun h => ⟨⟨k, lo.toNat, ip, po.toNat, iss, una, nx, D, wnd.toNat, en, se, s, ed, tm, rto.toNat, tr.toNat, er.toNat⟩, ?_, rfl, by show lo = (lo.toNat : Nat); omega, rfl, by show po = (po.toNat : Nat); omega, rfl, rfl, rfl, rfl, by show wnd = (wnd.toNat : Nat); omega, rfl, rfl, rfl, rfl, rfl, by show rto = (rto.toNat : Nat); omega, by show tr = (tr.toNat : Nat); omega, by show er = (er.toNat : Nat); omega⟩⟩
 unfold chkT
 rw [Bool.and_eq_true, Bool.and_eq_true]
 refine ⟨⟨decide_eq_true ⟨?_, ?_, ?_, ?_, ?_, ?_, ?_, c8, ?_, ?_, ?_, ?_, ?_⟩, h8⟩, hn h⟩
 all_goals (try dsimp only)
 all_goals omega
end Go.Proofs.Ythenepdbgeafkaa
