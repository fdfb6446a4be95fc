/-
  The reference's Take.
-/
import Derived.Test.YtpbeemgigpaacaaWiRTakeP
set_option linter.unusedVariables false
set_option linter.unusedSimpArgs false
namespace Go.Proofs.Ytpbeemgigpaacaa
open Go.Proofs.Wi Go.RowKit
theorem wrap64_nat {m : Nat} (h : m < 9223372036854775808) : wrap64 (m : Int) = (m : Int) := by unfold wrap64; omega
theorem out_fin {w0 wz : World} {L O2 : List (Nat × Array Value)} {A R R3 R4 : List (Nat × Value × List Value)} {next : Nat} {pv : Value} {Z : List SpV} (hv : Mem w0 wz (O2 ++ L) (R4 ++ R3)) (hR : A ++ R = R3) (h : OutP next (R4 ++ R3) pv Z O2) :
    ∃ R5, Mem w0 wz L (R5 ++ R) ∧ (2, pv, cellsP (Z.map (pcOf next))) ∈ R5 ++ R ∧ AllP (R5 ++ R) (Z.map (pcOf next)) ∧ ∀ x ∈ R4 ++ R3, x ∈ R5 ++ R := by
  subst hR
  have hrr : R4 ++ (A ++ R) = (R4 ++ A) ++ R := (List.append_assoc ..).symm
  rw [hrr] at hv h ⊢
  rcases h with ⟨rfl, rfl, rfl⟩ | ⟨Zi, z, x0, xd, rfl, hrow, hdrow, rfl, hal⟩
  · exact ⟨(2, Value.slice none 0 0, []) :: (R4 ++ A), hv.fresh (Below.refl _ _) (FR.nil _ _ 2), Mem.z, fun p hp => (List.not_mem_nil hp).elim, fun x hx => Mem.s hx⟩
  · have hv4 := Mem.yield (L1 := []) hv hrow
    have hv5 := Mem.yield (L1 := []) hv4 hdrow
    refine ⟨(1, z.2.1, cellsB z.2.2) :: (2, pv, _) :: (R4 ++ A), hv5, Mem.s Mem.z, fun p hp => ?_, fun x hx => Mem.s (Mem.s hx)⟩
    obtain ⟨q, hq, rfl⟩ := List.mem_map.1 hp
    rcases List.mem_append.1 hq with hq | hq
    · exact Mem.s (Mem.s (hal q hq))
    · rw [List.mem_singleton.1 hq]; exact Mem.z
def zc256H : Array Value := (List.replicate 256 (Value.bool false)).toArray
def zc256Y : Array Value := (List.replicate 256 (Value.int .u8 0)).toArray
theorem zH : zc256H = rowH (List.replicate 256 none) := by kernel_rfl
theorem zB : zc256Y = rowB (List.replicate 256 none) := by kernel_rfl
set_option maxRecDepth 100000 in
set_option maxHeartbeats 4000000 in
theorem RTake_no (next : Nat) (ba pa : Option Addr) (bn bc pn pc : Nat) (bs : List Nat) (l : List PcV) (seq : Nat) (da : Option Addr) (dn dc : Nat) (w0 w : World) (L : List (Nat × Array Value)) (R : List (Nat × Value × List Value)) (hv0 : Mem w0 w L R) (hb : (1, .slice ba bn bc, cellsB bs) ∈ R) (hp : (2, .slice pa pn pc, cellsP l) ∈ R) (hal : AllP R l) (hpn : pn ≤ 1000) (hbn : bs.length ≤ 1000000) (hdl : ∀ p ∈ l, p.2.2.length ≤ 1000000) (hnx : next < 4294967296) (hsq : ∀ p ∈ l, p.1 < 4294967296) (hck : chk (stOf next bs l) = false) : Calls Try.prog 13 #[.agg #[.int .u32 (next : Nat), .slice ba bn bc, .slice pa pn pc], .int .u32 (seq : Nat), .slice da dn dc] w fun e w' => e = .returned (.tuple #[.agg #[.int .u32 (next : Nat), .slice ba bn bc, .slice pa pn pc], .int .i64 0]) ∧ Mem w0 w' L R := by
  have hv := hv0
  have HBM := Lib.hid hb
  have HP := Lib.hid hp
  have HA := Lib.hid hal
  have kC : ∀ w' L' R', Mem w0 w' L' R' → (1, .slice ba bn bc, cellsB bs) ∈ R' → (2, .slice pa pn pc, cellsP l) ∈ R' → AllP R' l → Calls Try.prog 8 #[.agg #[.int .u32 (next : Nat), .slice ba bn bc, .slice pa pn pc]] w' fun e w2 => e = .returned (.bool false) ∧ New w' w2 := fun w' L' R' h1 h2 h3 h4 => by
    have := RCheck_any next ba pa bn bc pn pc bs l w0 w' L' R' h1 h2 h3 h4 hpn hbn hdl hnx hsq
    rwa [hck] at this
  clear hv0 hb hp hal hpn hbn hdl hnx hsq hck
  go_enter Try.func13, Try.ntmps13
  go_wp2_with (first
    | ((with_reducible refine at_box (T := 26) (dst := some 3) ?_); refine wl_newb rfl #[.int .u32 (next : Nat), .slice ba bn bc, .slice pa pn pc] 26 (fun _ => rfl) ?_; intro b3 w2 hm2; replace hv := hv.madeAt hm2; clear hm2)
    | ((with_reducible refine at_alloc (T := 26) (dst := some 6) ?_); refine wl_newb rfl #[.int .u32 0, .slice none 0 0, .slice none 0 0] 26 (fun _ => rfl) ?_; intro b6 w2 hm2; replace hv := hv.madeAt hm2; clear hm2)
    | ((with_reducible refine at_load (T := 26) ?_); refine wl_ldv rfl b3 rfl _ (hv.vars.row (by first | exact .head _ | exact .tail _ (.head _) | exact .tail _ (.tail _ (.head _)) | exact .tail _ (.tail _ (.tail _ (.head _))) | exact .tail _ (.tail _ (.tail _ (.tail _ (.head _)))) | exact .tail _ (.tail _ (.tail _ (.tail _ (.tail _ (.head _))))) | exact .tail _ (.tail _ (.tail _ (.tail _ (.tail _ (.tail _ (.head _)))))) | exact .tail _ (.tail _ (.tail _ (.tail _ (.tail _ (.tail _ (.tail _ (.head _))))))))) 3 _ Try.underlying26 rfl infoStr (by decide) rfl ?_)
    | (go_at_call 8; (with_reducible refine (kC _ _ _ hv HBM.out HP.out HA.out).mono ?_); rintro e w1 ⟨rfl, hn1⟩; replace hv := hv.new hn1; clear hn1)
    | ((with_reducible refine at_store (T := 26) ?_); refine wl_stv rfl b6 rfl _ rfl _ (hv.vars.row (by first | exact .head _ | exact .tail _ (.head _) | exact .tail _ (.tail _ (.head _)) | exact .tail _ (.tail _ (.tail _ (.head _))) | exact .tail _ (.tail _ (.tail _ (.tail _ (.head _)))) | exact .tail _ (.tail _ (.tail _ (.tail _ (.tail _ (.head _))))) | exact .tail _ (.tail _ (.tail _ (.tail _ (.tail _ (.tail _ (.head _)))))) | exact .tail _ (.tail _ (.tail _ (.tail _ (.tail _ (.tail _ (.tail _ (.head _))))))))) (hv.vars.sft (by first | exact .head _ | exact .tail _ (.head _) | exact .tail _ (.tail _ (.head _)) | exact .tail _ (.tail _ (.tail _ (.head _))) | exact .tail _ (.tail _ (.tail _ (.tail _ (.head _)))) | exact .tail _ (.tail _ (.tail _ (.tail _ (.tail _ (.head _))))) | exact .tail _ (.tail _ (.tail _ (.tail _ (.tail _ (.tail _ (.head _)))))) | exact .tail _ (.tail _ (.tail _ (.tail _ (.tail _ (.tail _ (.tail _ (.head _))))))))) 3 infoStr rfl rfl (by simp [Value.oneCell']) ?_; intro w2 hw2; (first | (replace hv := hv.set 0 rfl hw2) | (replace hv := hv.set 1 rfl hw2) | (replace hv := hv.set 2 rfl hw2) | (replace hv := hv.set 3 rfl hw2)); clear hw2; simp only [List.set] at hv))
  refine ret_cell2 Try.results13 rfl (read_row _ b6 26 _ (hv.vars.row (by first | exact .head _ | exact .tail _ (.head _) | exact .tail _ (.tail _ (.head _)) | exact .tail _ (.tail _ (.tail _ (.head _))) | exact .tail _ (.tail _ (.tail _ (.tail _ (.head _)))) | exact .tail _ (.tail _ (.tail _ (.tail _ (.tail _ (.head _))))) | exact .tail _ (.tail _ (.tail _ (.tail _ (.tail _ (.tail _ (.head _)))))) | exact .tail _ (.tail _ (.tail _ (.tail _ (.tail _ (.tail _ (.tail _ (.head _))))))))) 3 _ Try.underlying26 rfl infoStr (by decide) rfl) rfl rfl ⟨rfl, hv.drop.drop⟩
theorem perm_b3 {α : Type} (a b c d : α) (L : List α) : (a :: b :: c :: d :: L).Perm (d :: a :: b :: c :: L) := (List.perm_middle (l₁ := [a, b, c]) (a := d) (l₂ := L))
theorem perm_b2 {α : Type} (a b d : α) (L : List α) : (a :: b :: d :: L).Perm (d :: a :: b :: L) := (List.perm_middle (l₁ := [a, b]) (a := d) (l₂ := L))
theorem perm_z {α : Type} (a : α) (O : List α) (z c d : α) (L : List α) : (a :: (O ++ (c :: d :: z :: L))).Perm (a :: z :: c :: d :: (O ++ L)) := by
  refine List.Perm.cons a ?_
  have h1 : (c :: d :: z :: L).Perm (z :: c :: d :: L) := List.perm_middle (l₁ := [c, d]) (a := z) (l₂ := L)
  have h2 := (h1.append_left O)
  exact h2.trans (List.perm_append_comm_assoc O [z, c, d] L)
set_option maxRecDepth 100000 in
set_option maxHeartbeats 16000000 in
theorem RTake_yes (next : Nat) (ba pa : Option Addr) (bn bc pn pc : Nat) (bs : List Nat) (l : List PcV) (seq : Nat) (da : Option Addr) (dn dc : Nat) (w0 w : World) (L : List (Nat × Array Value)) (R : List (Nat × Value × List Value)) (hv0 : Mem w0 w L R) (hb : (1, .slice ba bn bc, cellsB bs) ∈ R) (hp : (2, .slice pa pn pc, cellsP l) ∈ R) (hal : AllP R l) (hpn : pn ≤ 1000) (hbn : bs.length ≤ 1000000) (hdl : ∀ p ∈ l, p.2.2.length ≤ 1000000) (hnx : next < 4294967296) (hsq : ∀ p ∈ l, p.1 < 4294967296) (hck : chk (stOf next bs l) = true) (data : List Nat) (hd : (1, .slice da dn dc, cellsB data) ∈ R) (hdn : dn ≤ 4096) (hseq : seq < 4294967296) : Calls Try.prog 13 #[.agg #[.int .u32 (next : Nat), .slice ba bn bc, .slice pa pn pc], .int .u32 (seq : Nat), .slice da dn dc] w (TakeS w0 L R (stOf next bs l) seq data) := by
  have hv := hv0
  have HBM := Lib.hid hb
  have HP := Lib.hid hp
  have HA := Lib.hid hal
  have kC : ∀ w' L' R', Mem w0 w' L' R' → (1, .slice ba bn bc, cellsB bs) ∈ R' → (2, .slice pa pn pc, cellsP l) ∈ R' → AllP R' l → Calls Try.prog 8 #[.agg #[.int .u32 (next : Nat), .slice ba bn bc, .slice pa pn pc]] w' fun e w2 => e = .returned (.bool true) ∧ New w' w2 := fun w' L' R' h1 h2 h3 h4 => by
    have := RCheck_any next ba pa bn bc pn pc bs l w0 w' L' R' h1 h2 h3 h4 hpn hbn hdl hnx hsq
    rwa [hck] at this
  have kR : ∀ w' L' R', Mem w0 w' L' R' → (1, .slice ba bn bc, cellsB bs) ∈ R' → (2, .slice pa pn pc, cellsP l) ∈ R' → AllP R' l → Calls Try.prog 18 #[.agg #[.int .u32 (next : Nat), .slice ba bn bc, .slice pa pn pc]] w' fun e w2 => e = .returned (.int .i64 (room (stOf next bs l))) ∧ New w' w2 := fun w' L' R' h1 h2 h3 h4 => RRoom_any next ba pa bn bc pn pc bs l w0 w' L' R' h1 h2 h3 h4 hpn hbn hdl hnx hsq
  have kS : ∀ w', Calls Try.prog 19 #[.int .u32 (seq : Nat), .int .u32 (next : Nat)] w' fun e w2 => e = .returned (.int .i64 (dif seq next)) ∧ w' = w2 := fun w' => RDiff_any seq next hseq hnx w'
  obtain ⟨hs1, hs2, hs3, hs4⟩ := chk_spans hck
  have hbl := len_rd1 (hv0.rd hb)
  have hbs : (stOf next bs l).bytes.length = bn := hbl
  obtain ⟨r, hr⟩ : ∃ r : Nat, 256 - bn = r := ⟨_, rfl⟩
  have hbn256 : bn ≤ 256 := by omega
  have hroom : room (stOf next bs l) = (r : Int) := by omega
  rw [hroom] at kR
  have HDA := Lib.hid hd
  have HDL := Lib.hid (len_rd1 (hv0.rd hd))
  have HPL := Lib.hid (len_rdP (hv0.rd hp))
  have HSP := Lib.hid hs1
  have HSE : Hid (∀ x ∈ spans (stOf next bs l), x.1 + x.2.length ≤ (r : Int)) := Lib.hid (by rw [← hroom]; exact hs2)
  have HSI : Hid (∀ i (h : i < l.length), (spans (stOf next bs l))[i]? = some (dif l[i].1 next, l[i].2.2)) := Lib.hid (fun i h => by
    unfold spans stOf
    simp only [List.map_map]
    rw [List.getElem?_map, List.getElem?_eq_getElem h]; rfl)
  have HSQ := Lib.hid hsq
  have HNX := Lib.hid hnx
  have HCK := Lib.hid hck
  have HRM := Lib.hid hroom
  have HR : Hid (r ≤ 256 ∧ bn ≤ 256 ∧ bs.length = bn) := Lib.hid ⟨by omega, hbn256, hbl⟩
  have HPN := Lib.hid hpn
  have HDN := Lib.hid hdn
  obtain ⟨S, hS⟩ : ∃ S, spans (stOf next bs l) = S := ⟨_, rfl⟩
  rw [hS] at HSP HSE HSI
  have HS := Lib.hid hS
  clear hv0 hb hp hal hpn hbn hdl hnx hsq hck hd hdn hseq hs1 hs2 hs3 hs4 hbl hbs hr hbn256 hroom hS
  go_enter Try.func13, Try.ntmps13
  go_wp2_with (first
    | ((with_reducible refine at_box (T := 26) (dst := some 3) ?_); refine wl_newb rfl #[.int .u32 (next : Nat), .slice ba bn bc, .slice pa pn pc] 26 (fun _ => rfl) ?_; intro b3 w2 hm2; replace hv := hv.madeAt hm2; clear hm2)
    | ((with_reducible refine at_alloc (T := 26) (dst := some 6) ?_); refine wl_newb rfl #[.int .u32 0, .slice none 0 0, .slice none 0 0] 26 (fun _ => rfl) ?_; intro b6 w2 hm2; replace hv := hv.madeAt hm2; clear hm2)
    | ((with_reducible refine at_load (T := 26) ?_); refine wl_ldv rfl b3 rfl _ (hv.vars.row (by first | exact .head _ | exact .tail _ (.head _) | exact .tail _ (.tail _ (.head _)) | exact .tail _ (.tail _ (.tail _ (.head _))) | exact .tail _ (.tail _ (.tail _ (.tail _ (.head _)))) | exact .tail _ (.tail _ (.tail _ (.tail _ (.tail _ (.head _))))) | exact .tail _ (.tail _ (.tail _ (.tail _ (.tail _ (.tail _ (.head _)))))) | exact .tail _ (.tail _ (.tail _ (.tail _ (.tail _ (.tail _ (.tail _ (.head _))))))))) 3 _ Try.underlying26 rfl infoStr (by decide) rfl ?_)
    | (go_at_call 8; (with_reducible refine (kC _ _ _ hv HBM.out HP.out HA.out).mono ?_); rintro e w1 ⟨rfl, hn1⟩; replace hv := hv.new hn1; clear hn1)
    | ((with_reducible refine at_alloc (T := 57) (dst := some 8) ?_); refine wl_newb rfl zc256H 57 (fun _ => by kernel_rfl) ?_; intro b8 w2 hm2; replace hv := hv.madeAt hm2; clear hm2)
    | ((with_reducible refine at_alloc (T := 58) (dst := some 9) ?_); refine wl_newb rfl zc256Y 58 (fun _ => by kernel_rfl) ?_; intro b9 w2 hm2; replace hv := hv.madeAt hm2; clear hm2))
  rw [zH, zB] at hv
  go_loopw [10] (fun iv wr => ∃ (i : Nat) (g : List (Option Nat)), i ≤ pn ∧ iv = .int .i64 (i : Nat) ∧ Mem w0 wr ((b9, rowB g) :: (b8, rowH g) :: (b6, #[.int .u32 0, .slice none 0 0, .slice none 0 0]) :: (b3, #[.int .u32 (next : Nat), .slice ba bn bc, .slice pa pn pc]) :: L) R ∧ Hid (Holds g (cont (S.take i)))) (fun iv _ => pn - (intOf iv).toNat)
  case atStart => exact ⟨0, _, Nat.zero_le _, rfl, hv, Lib.hid (Holds.start.congr fun j _ => rfl)⟩
  case round =>
    clear hv
    obtain ⟨i, g, hi0, rfl, hv, HG⟩ := hrel
    by_cases hi2 : i < pn
    · have hki : (i : Int) < (pn : Int) := by omega
      have hib : (i : Int) ≤ 5000 := by have := HPN.out; omega
      have HIK := Lib.hid hi2
      have hil : i < l.length := by rw [HPL.out]; exact hi2
      obtain ⟨⟨sq, dv, d1⟩, hx⟩ : ∃ z, l[i] = z := ⟨_, rfl⟩
      have hsi := HSI.out i hil
      have hdm := HA.out l[i] (List.getElem_mem hil)
      have hga := cellsP_get l hil
      have hsq := HSQ.out l[i] (List.getElem_mem hil)
      rw [hx] at hsi hdm hga hsq
      simp only at hsi hdm hga hsq
      obtain ⟨hsl, hse⟩ := List.getElem?_eq_some_iff.1 hsi
      have hmem : (dif sq next, d1) ∈ S := List.mem_of_getElem? hsi
      have hlo := HSP.out.lo _ hmem
      have hhi := HSE.out _ hmem
      have hne : d1 ≠ [] := by
        intro e
        have h0 : ∀ (T : List Sp) (a : Int), Sep a T → ∀ y ∈ T, y.2 ≠ [] := by
          intro T
          induction T with
          | nil => intro a _ y hy; cases hy
          | cons z r ih => intro a h y hy; exact (List.mem_cons.1 hy).elim (fun e => e ▸ h.2.1) (ih _ h.2.2 y)
        exact h0 S 0 HSP.out _ hmem e
      simp only at hlo hhi
      obtain ⟨fr, hfr⟩ : ∃ fr : Nat, dif sq next = (fr : Int) := ⟨(dif sq next).toNat, by omega⟩
      rw [hfr] at hlo hhi
      have kD : ∀ w', Calls Try.prog 19 #[.int .u32 (sq : Nat), .int .u32 (next : Nat)] w' fun e w2 => e = .returned (.int .i64 (fr : Int)) ∧ w' = w2 := fun w' => by
        have := RDiff_any sq next hsq HNX.out w'
        rwa [hfr] at this
      obtain ⟨db, dof, d1n, d1c, rfl, _⟩ := (hv.rd hdm).some (by rw [cellsB_len]; exact List.length_pos_iff.2 hne)
      have hd1 : d1.length = d1n := len_rd1 (hv.rd hdm)
      have HDM := Lib.hid hdm
      have HK0 := Lib.hid hga.1
      have HK1 := Lib.hid hga.2
      have HFR : Hid (fr + d1n ≤ 256 ∧ d1.length = d1n) := Lib.hid ⟨by have := HR.out; omega, hd1⟩
      have HTK : Hid (S.take (i + 1) = S.take i ++ [((fr : Int), d1)]) := Lib.hid (by rw [List.take_succ_eq_append_getElem hsl, hse, hfr])
      obtain ⟨pb, po, _, _, e, _⟩ := (hv.rd HP.out).some (by rw [cellsP_len]; omega)
      cases e
      replace hv := hv.perm (perm_b3 _ _ _ _ L)
      have HPR := Lib.hid (Any.rd_start (hv.keep (List.sublist_append_left [(b3, #[.int .u32 (next : Nat), .slice ba bn bc, .slice (some ⟨pb, po, none⟩) pn pc])] ((b9, rowB g) :: (b8, rowH g) :: (b6, #[.int .u32 0, .slice none 0 0, .slice none 0 0]) :: L))) HP.out)
      clear hx hil hga hsi hsl hse hmem hlo hhi hne hd1 hdm hsq hfr
      go_wp2_with (first
        | ((with_reducible refine at_load (T := 24) ?_); refine wl_ldc rfl b3 (2) rfl _ (hv.vars.row (by first | exact .head _ | exact .tail _ (.head _) | exact .tail _ (.tail _ (.head _)) | exact .tail _ (.tail _ (.tail _ (.head _))) | exact .tail _ (.tail _ (.tail _ (.tail _ (.head _)))) | exact .tail _ (.tail _ (.tail _ (.tail _ (.tail _ (.head _))))) | exact .tail _ (.tail _ (.tail _ (.tail _ (.tail _ (.tail _ (.head _)))))) | exact .tail _ (.tail _ (.tail _ (.tail _ (.tail _ (.tail _ (.tail _ (.head _))))))))) _ Try.underlying24 rfl _ rfl ?_))
      refine Any.wp_region_walk [⟨[], none⟩, ⟨[1000], none⟩, ⟨[], none⟩, ⟨[], none⟩, ⟨[], none⟩, ⟨[], none⟩, ⟨[], none⟩, ⟨[1000], none⟩, ⟨[], none⟩, ⟨[], none⟩] [.val, .val, .val, .val, .val, .val, .val, .val, .val, .val] (by kernel_rfl) (by kernel_rfl) (hv.vars.keep (List.sublist_append_left [(b3, #[.int .u32 (next : Nat), .slice ba bn bc, .slice (some ⟨pb, po, none⟩) pn pc])] ((b9, rowB g) :: (b8, rowH g) :: (b6, #[.int .u32 0, .slice none 0 0, .slice none 0 0]) :: L))) ?_
      simp only [List.length_cons, List.length_nil, Nat.zero_add, Any.someVals]
      iterate 10 apply Exists.intro
      repeat (first
        | (refine Any.E_off rfl ?_; simp only [Act.put, List.setIfInBounds_toArray, List.set_cons_succ, List.set_cons_zero])
        | (apply Any.E_pureq rfl rfl rfl
           case h => intro K hK; go_big_quiet_op; (refine hK _ ?_; rfl)
           case hr => exact fun _ => rfl
           simp only [Act.put, List.setIfInBounds_toArray, List.set_cons_succ, List.set_cons_zero])
        | (apply Any.E_val rfl rfl rfl rfl
           case h =>
             intro E' hA K hK
             first
               | ((with_reducible refine Any.at_qload (T := 24) ?_); refine Any.q_ldc 1000 hA (by decide) rfl rfl _ Try.underlying24 rfl _ rfl ?_; refine hK _ ?_; rfl)
               | ((with_reducible refine Any.at_qload (T := 22) ?_); refine Any.q_rd HPR.out (i * 2) rfl _ Try.underlying22 rfl (.int .u32 (sq : Nat)) HK0.out ?_; refine hK _ ?_; rfl)
               | ((with_reducible refine Any.at_qload (T := 22) ?_); refine Any.q_ldc 1000 hA (by decide) rfl rfl _ Try.underlying22 rfl _ rfl ?_; refine hK _ ?_; rfl)
               | (go_big_quiet_op; first
                 | (refine hK _ ?_; rfl)
                 | (refine ⟨_, fun _ _ => rfl, ?_⟩; refine hK _ ?_; rfl)
                 | (apply Exists.intro; refine ⟨fun w1 hw1 => ?_, ?_⟩; · (first
                     | (go_at_call 19; exact Any.calls_VEq (kD _) hw1))
                    refine hK _ ?_; rfl))
           case hD => rfl
           simp only [Act.put, List.setIfInBounds_toArray, List.set_cons_succ, List.set_cons_zero])
        | ((with_reducible refine Any.at_ealloc ?_); refine Any.E_lay rfl rfl rfl (fun _ => rfl) ?_; intro B; simp only [Act.put, List.setIfInBounds_toArray, List.set_cons_succ, List.set_cons_zero]))
      try any_goals exact undef
      refine Any.E_nil ?_
      intro w9 hE9
      replace hv : Mem w0 w9 ([(b3, #[.int .u32 (next : Nat), .slice ba bn bc, .slice (some ⟨pb, po, none⟩) pn pc])] ++ ((b9, rowB g) :: (b8, rowH g) :: (b6, #[.int .u32 0, .slice none 0 0, .slice none 0 0]) :: L)) R := hE9.memr hv [1000] (by decide)
      clear hE9
      simp only [List.cons_append, List.nil_append] at hv
      replace hv := hv.perm (perm_b3 _ _ _ _ L).symm
      go_wp2
      go_loopw [12] (fun kv wr => ∃ (k : Nat) (g : List (Option Nat)), k ≤ d1n ∧ kv = .int .i64 (k : Nat) ∧ Mem w0 wr ((b9, rowB g) :: (b8, rowH g) :: (b6, #[.int .u32 0, .slice none 0 0, .slice none 0 0]) :: (b3, #[.int .u32 (next : Nat), .slice ba bn bc, .slice (some ⟨pb, po, none⟩) pn pc]) :: L) R ∧ Hid (Holds g (inP (cont (S.take i)) fr k d1))) (fun kv _ => d1n - (intOf kv).toNat)
      case atStart => exact ⟨0, g, Nat.zero_le _, rfl, hv, Lib.hid (HG.out.congr fun j _ => (inP_zero _ _ _ j).symm)⟩
      case round =>
        clear hv HG
        obtain ⟨k, g, hk0, rfl, hv, HG⟩ := hrel
        by_cases hk2 : k < d1n
        · have hkk : (k : Int) < (d1n : Int) := by omega
          have hfo := HFR.out.1
          have hkb : (k : Int) ≤ 5000 := by omega
          have HKK := Lib.hid hk2
          have hkl : k < d1.length := by rw [HFR.out.2]; exact hk2
          obtain ⟨v, hv1⟩ : ∃ v, d1[k] = v := ⟨_, rfl⟩
          have HV : Hid ((cellsB d1)[k]? = some (.int .u8 (v : Nat))) := Lib.hid (by unfold cellsB; rw [List.getElem?_map, List.getElem?_eq_getElem hkl, hv1]; rfl)
          have HVV : Hid (d1[k]? = some v) := Lib.hid (by rw [List.getElem?_eq_getElem hkl, hv1])
          have HAB : Hid (fr + k < 256) := Lib.hid (by omega)
          have s1 : IntKind.i64.wrap ((fr : Int) + (k : Int)) = (fr : Int) + (k : Int) := IntWalk.i64_in _ (by omega)
          have s2 : (fr : Int) + (k : Int) < 256 := by omega
          have s3 : 0 ≤ (fr : Int) + (k : Int) := by omega
          clear hv1 hkl hfo hk2 hk0
          go_wp2_with (first
            | ((with_reducible refine at_load (T := 24) ?_); refine wl_ldc rfl b3 (2) rfl _ (hv.vars.row (by first | exact .head _ | exact .tail _ (.head _) | exact .tail _ (.tail _ (.head _)) | exact .tail _ (.tail _ (.tail _ (.head _))) | exact .tail _ (.tail _ (.tail _ (.tail _ (.head _)))) | exact .tail _ (.tail _ (.tail _ (.tail _ (.tail _ (.head _))))) | exact .tail _ (.tail _ (.tail _ (.tail _ (.tail _ (.tail _ (.head _)))))) | exact .tail _ (.tail _ (.tail _ (.tail _ (.tail _ (.tail _ (.tail _ (.head _))))))))) _ Try.underlying24 rfl _ rfl ?_)
            | ((with_reducible refine at_load (T := 23) ?_); refine wl_rd rfl (c := cellsP l) (hv.rd HP.out) (i * 2 + 1) rfl _ Try.underlying23 rfl (.slice (some ⟨db, dof, none⟩) d1n d1c) HK1.out ?_)
            | ((with_reducible refine at_load (T := 5) ?_); refine wl_rd rfl (c := cellsB d1) (hv.rd HDM.out) k rfl _ Try.underlying5 rfl (.int .u8 (v : Nat)) HV.out ?_)
            | ((with_reducible refine at_store (T := 4) ?_); refine wl_stc rfl b8 (fr + k) rfl (.bool true) rfl _ (hv.vars.row (by first | exact .head _ | exact .tail _ (.head _) | exact .tail _ (.tail _ (.head _)) | exact .tail _ (.tail _ (.tail _ (.head _))) | exact .tail _ (.tail _ (.tail _ (.tail _ (.head _)))) | exact .tail _ (.tail _ (.tail _ (.tail _ (.tail _ (.head _))))) | exact .tail _ (.tail _ (.tail _ (.tail _ (.tail _ (.tail _ (.head _)))))) | exact .tail _ (.tail _ (.tail _ (.tail _ (.tail _ (.tail _ (.tail _ (.head _))))))))) (hv.vars.sft (by first | exact .head _ | exact .tail _ (.head _) | exact .tail _ (.tail _ (.head _)) | exact .tail _ (.tail _ (.tail _ (.head _))) | exact .tail _ (.tail _ (.tail _ (.tail _ (.head _)))) | exact .tail _ (.tail _ (.tail _ (.tail _ (.tail _ (.head _))))) | exact .tail _ (.tail _ (.tail _ (.tail _ (.tail _ (.tail _ (.head _)))))) | exact .tail _ (.tail _ (.tail _ (.tail _ (.tail _ (.tail _ (.tail _ (.head _))))))))) (by kernel_rfl) rfl (by rw [rowH_size, HG.out.1]; exact HAB.out) ?_; intro w2 hw2; (first | (replace hv := hv.set 0 rfl hw2) | (replace hv := hv.set 1 rfl hw2) | (replace hv := hv.set 2 rfl hw2) | (replace hv := hv.set 3 rfl hw2)); clear hw2; simp only [List.set] at hv; rw [rowH_set g (fr + k) v] at hv)
            | ((with_reducible refine at_store (T := 5) ?_); refine wl_stc rfl b9 (fr + k) rfl (.int .u8 (v : Nat)) rfl _ (hv.vars.row (by first | exact .head _ | exact .tail _ (.head _) | exact .tail _ (.tail _ (.head _)) | exact .tail _ (.tail _ (.tail _ (.head _))) | exact .tail _ (.tail _ (.tail _ (.tail _ (.head _)))) | exact .tail _ (.tail _ (.tail _ (.tail _ (.tail _ (.head _))))) | exact .tail _ (.tail _ (.tail _ (.tail _ (.tail _ (.tail _ (.head _)))))) | exact .tail _ (.tail _ (.tail _ (.tail _ (.tail _ (.tail _ (.tail _ (.head _))))))))) (hv.vars.sft (by first | exact .head _ | exact .tail _ (.head _) | exact .tail _ (.tail _ (.head _)) | exact .tail _ (.tail _ (.tail _ (.head _))) | exact .tail _ (.tail _ (.tail _ (.tail _ (.head _)))) | exact .tail _ (.tail _ (.tail _ (.tail _ (.tail _ (.head _))))) | exact .tail _ (.tail _ (.tail _ (.tail _ (.tail _ (.tail _ (.head _)))))) | exact .tail _ (.tail _ (.tail _ (.tail _ (.tail _ (.tail _ (.tail _ (.head _))))))))) (by kernel_rfl) rfl (by rw [rowB_size, HG.out.1]; exact HAB.out) ?_; intro w2 hw2; (first | (replace hv := hv.set 0 rfl hw2) | (replace hv := hv.set 1 rfl hw2) | (replace hv := hv.set 2 rfl hw2) | (replace hv := hv.set 3 rfl hw2)); clear hw2; simp only [List.set] at hv; rw [rowB_set g (fr + k) v] at hv))
          have hkn := HKK.out
          refine ⟨?_, ?measure⟩
          repeat apply Exists.intro
          refine ⟨?rel, rfl⟩
          case rel => exact ⟨k + 1, _, by omega, by go_num, hv, Lib.hid ((HG.out.set (fr + k) v).congr fun j _ => inP_step _ fr k d1 HVV.out j)⟩
          case measure => simp [intOf]; omega
        · have hkk : ¬ (k : Int) < (d1n : Int) := by omega
          have hkd : k = d1.length := by rw [HFR.out.2]; omega
          have HKD := Lib.hid hkd
          clear hkd hk0 hk2
          go_wp2_with (first
            | ((with_reducible refine at_load (T := 24) ?_); refine wl_ldc rfl b3 (2) rfl _ (hv.vars.row (by first | exact .head _ | exact .tail _ (.head _) | exact .tail _ (.tail _ (.head _)) | exact .tail _ (.tail _ (.tail _ (.head _))) | exact .tail _ (.tail _ (.tail _ (.tail _ (.head _)))) | exact .tail _ (.tail _ (.tail _ (.tail _ (.tail _ (.head _))))) | exact .tail _ (.tail _ (.tail _ (.tail _ (.tail _ (.tail _ (.head _)))))) | exact .tail _ (.tail _ (.tail _ (.tail _ (.tail _ (.tail _ (.tail _ (.head _))))))))) _ Try.underlying24 rfl _ rfl ?_)
            | ((with_reducible refine at_load (T := 23) ?_); refine wl_rd rfl (c := cellsP l) (hv.rd HP.out) (i * 2 + 1) rfl _ Try.underlying23 rfl (.slice (some ⟨db, dof, none⟩) d1n d1c) HK1.out ?_))
          have hin := HIK.out
          go_roundw
          case rel => exact ⟨i + 1, g, by omega, by go_num, hv, Lib.hid (HG.out.congr fun j _ => by
            rw [HKD.out, HTK.out]
            refine inP_all (x := ((fr : Int), d1)) ?_ rfl j
            rw [← HTK.out]
            exact HSP.out.ord.dis.sublist (List.take_sublist _ _))⟩
          case measure => simp [intOf]; omega
    · have hki : ¬ (i : Int) < (pn : Int) := by omega
      have HG1 : Hid (Holds g (cont S)) := Lib.hid (by
        have := HG.out
        rwa [List.take_of_length_le (by
          have : S.length = l.length := by rw [← HS.out]; simp [spans, stOf]
          rw [this, HPL.out]; omega)] at this)
      clear HG hi0 hi2
      obtain ⟨dd, hdd⟩ : ∃ dd, dif seq next = dd := ⟨_, rfl⟩
      have hdl := dif_lo seq next
      have hdh := dif_hi seq next
      rw [hdd] at kS hdl hdh
      have HDD := Lib.hid hdd
      clear hdd
      go_wp2_with (first
        | ((with_reducible refine at_load (T := 24) ?_); refine wl_ldc rfl b3 (2) rfl _ (hv.vars.row (by first | exact .head _ | exact .tail _ (.head _) | exact .tail _ (.tail _ (.head _)) | exact .tail _ (.tail _ (.tail _ (.head _))) | exact .tail _ (.tail _ (.tail _ (.tail _ (.head _)))) | exact .tail _ (.tail _ (.tail _ (.tail _ (.tail _ (.head _))))) | exact .tail _ (.tail _ (.tail _ (.tail _ (.tail _ (.tail _ (.head _)))))) | exact .tail _ (.tail _ (.tail _ (.tail _ (.tail _ (.tail _ (.tail _ (.head _))))))))) _ Try.underlying24 rfl _ rfl ?_)
        | ((with_reducible refine at_load (T := 26) ?_); refine wl_ldv rfl b3 rfl _ (hv.vars.row (by first | exact .head _ | exact .tail _ (.head _) | exact .tail _ (.tail _ (.head _)) | exact .tail _ (.tail _ (.tail _ (.head _))) | exact .tail _ (.tail _ (.tail _ (.tail _ (.head _)))) | exact .tail _ (.tail _ (.tail _ (.tail _ (.tail _ (.head _))))) | exact .tail _ (.tail _ (.tail _ (.tail _ (.tail _ (.tail _ (.head _)))))) | exact .tail _ (.tail _ (.tail _ (.tail _ (.tail _ (.tail _ (.tail _ (.head _))))))))) 3 _ Try.underlying26 rfl infoStr (by decide) rfl ?_)
        | (go_at_call 18; (with_reducible refine (kR _ _ _ hv HBM.out HP.out HA.out).mono ?_); rintro e w1 ⟨rfl, hn1⟩; replace hv := hv.new hn1; clear hn1))
      go_loopw [14] (fun kv wr => ∃ (k : Nat) (g : List (Option Nat)), k ≤ dn ∧ kv = .int .i64 (k : Nat) ∧ Mem w0 wr ((b9, rowB g) :: (b8, rowH g) :: (b6, #[.int .u32 0, .slice none 0 0, .slice none 0 0]) :: (b3, #[.int .u32 (next : Nat), .slice ba bn bc, .slice pa pn pc]) :: L) R ∧ Hid (Holds g (inD (cont S) r dd k data))) (fun kv _ => dn - (intOf kv).toNat)
      case atStart => exact ⟨0, g, Nat.zero_le _, rfl, hv, Lib.hid (HG1.out.congr fun j _ => (inD_zero _ _ _ _ j).symm)⟩
      case round =>
        clear hv HG1
        obtain ⟨k, g, hk0, rfl, hv, HG⟩ := hrel
        by_cases hk2 : k < dn
        · have hkk : (k : Int) < (dn : Int) := by omega
          have hkk4 : (k : Int) < 4096 := by have := HDN.out; omega
          have HKK := Lib.hid hk2
          have hkl : k < data.length := by rw [HDL.out]; exact hk2
          have s0 : IntKind.i64.wrap (dd + (k : Int)) = dd + (k : Int) := IntWalk.i64_in _ (by omega)
          by_cases hA : dd + (k : Int) < 0
          · have s1 : ¬ 0 ≤ dd + (k : Int) := by omega
            have s2 : decide (0 ≤ dd + (k : Int)) = false := decide_eq_false s1
            have HAA := Lib.hid hA
            clear hkl hk2 hk0 hA
            go_wp2_with (first
              | ((with_reducible refine at_load (T := 22) ?_); refine wl_ldc rfl b3 (0) rfl _ (hv.vars.row (by first | exact .head _ | exact .tail _ (.head _) | exact .tail _ (.tail _ (.head _)) | exact .tail _ (.tail _ (.tail _ (.head _))) | exact .tail _ (.tail _ (.tail _ (.tail _ (.head _)))) | exact .tail _ (.tail _ (.tail _ (.tail _ (.tail _ (.head _))))) | exact .tail _ (.tail _ (.tail _ (.tail _ (.tail _ (.tail _ (.head _)))))) | exact .tail _ (.tail _ (.tail _ (.tail _ (.tail _ (.tail _ (.tail _ (.head _))))))))) _ Try.underlying22 rfl _ rfl ?_)
              | (go_at_call 19; (with_reducible refine (kS _).mono ?_); rintro e w1 ⟨rfl, rfl⟩))
            have hkn := HKK.out
            go_roundw
            case rel => exact ⟨k + 1, g, by omega, by go_num, hv, Lib.hid (HG.out.congr fun j _ => inD_skip _ _ _ _ _ (.inl HAA.out) j)⟩
            case measure => simp [intOf]; omega
          · by_cases hB : (r : Int) ≤ dd + (k : Int)
            · have s1 : 0 ≤ dd + (k : Int) := by omega
              have s2 : decide (0 ≤ dd + (k : Int)) = true := decide_eq_true s1
              have s3 : ¬ dd + (k : Int) < (r : Int) := by omega
              have s4 : decide (dd + (k : Int) < (r : Int)) = false := decide_eq_false s3
              have HBB := Lib.hid hB
              clear hkl hk2 hk0 hA hB
              go_wp2_with (first
                | ((with_reducible refine at_load (T := 22) ?_); refine wl_ldc rfl b3 (0) rfl _ (hv.vars.row (by first | exact .head _ | exact .tail _ (.head _) | exact .tail _ (.tail _ (.head _)) | exact .tail _ (.tail _ (.tail _ (.head _))) | exact .tail _ (.tail _ (.tail _ (.tail _ (.head _)))) | exact .tail _ (.tail _ (.tail _ (.tail _ (.tail _ (.head _))))) | exact .tail _ (.tail _ (.tail _ (.tail _ (.tail _ (.tail _ (.head _)))))) | exact .tail _ (.tail _ (.tail _ (.tail _ (.tail _ (.tail _ (.tail _ (.head _))))))))) _ Try.underlying22 rfl _ rfl ?_)
                | (go_at_call 19; (with_reducible refine (kS _).mono ?_); rintro e w1 ⟨rfl, rfl⟩))
              have hkn := HKK.out
              go_roundw
              case rel => exact ⟨k + 1, g, by omega, by go_num, hv, Lib.hid (HG.out.congr fun j _ => inD_skip _ _ _ _ _ (.inr HBB.out) j)⟩
              case measure => simp [intOf]; omega
            · obtain ⟨a, ha⟩ : ∃ a : Nat, dd + (k : Int) = (a : Int) := ⟨(dd + (k : Int)).toNat, by omega⟩
              have har : (a : Int) < (r : Int) := by omega
              have har2 : a < r := by omega
              have haf := HG.out.2 a (by have := HR.out; omega)
              have HAB : Hid (a < 256) := Lib.hid (by have := HR.out; omega)
              have s1 : decide ((a : Int) < (r : Int)) = true := decide_eq_true har
              have a256 : (a : Int) < 256 := by have := HR.out; omega
              rw [ha] at s0
              have HAE := Lib.hid ha
              have HAR := Lib.hid har
              cases ho : inD (cont S) r dd k data a with
              | some u =>
                rw [ho] at haf
                have HAF := Lib.hid (rowH_get g haf)
                have HOO : Hid ((inD (cont S) r dd k data a).isSome = true) := Lib.hid (by rw [ho]; rfl)
                clear hkl hk2 hk0 hA hB haf ho
                go_wp2_with (first
                  | ((with_reducible refine at_load (T := 22) ?_); refine wl_ldc rfl b3 (0) rfl _ (hv.vars.row (by first | exact .head _ | exact .tail _ (.head _) | exact .tail _ (.tail _ (.head _)) | exact .tail _ (.tail _ (.tail _ (.head _))) | exact .tail _ (.tail _ (.tail _ (.tail _ (.head _)))) | exact .tail _ (.tail _ (.tail _ (.tail _ (.tail _ (.head _))))) | exact .tail _ (.tail _ (.tail _ (.tail _ (.tail _ (.tail _ (.head _)))))) | exact .tail _ (.tail _ (.tail _ (.tail _ (.tail _ (.tail _ (.tail _ (.head _))))))))) _ Try.underlying22 rfl _ rfl ?_)
                  | (go_at_call 19; (with_reducible refine (kS _).mono ?_); rintro e w1 ⟨rfl, rfl⟩)
                  | ((with_reducible refine at_load (T := 4) ?_); refine wl_ldc rfl b8 (a) rfl _ (hv.vars.row (by first | exact .head _ | exact .tail _ (.head _) | exact .tail _ (.tail _ (.head _)) | exact .tail _ (.tail _ (.tail _ (.head _))) | exact .tail _ (.tail _ (.tail _ (.tail _ (.head _)))) | exact .tail _ (.tail _ (.tail _ (.tail _ (.tail _ (.head _))))) | exact .tail _ (.tail _ (.tail _ (.tail _ (.tail _ (.tail _ (.head _)))))) | exact .tail _ (.tail _ (.tail _ (.tail _ (.tail _ (.tail _ (.tail _ (.head _))))))))) _ Try.underlying4 rfl (.bool true) HAF.out ?_))
                have hkn := HKK.out
                go_roundw
                case rel => exact ⟨k + 1, g, by omega, by go_num, hv, Lib.hid (HG.out.congr fun j _ => inD_had _ _ _ _ a _ HAE.out HOO.out j)⟩
                case measure => simp [intOf]; omega
              | none =>
                rw [ho] at haf
                have HAF := Lib.hid (rowH_get g haf)
                have HOO := Lib.hid ho
                obtain ⟨v, hv1⟩ : ∃ v, data[k] = v := ⟨_, rfl⟩
                have HV : Hid ((cellsB data)[k]? = some (.int .u8 (v : Nat))) := Lib.hid (by unfold cellsB; rw [List.getElem?_map, List.getElem?_eq_getElem hkl, hv1]; rfl)
                have HVV : Hid (data[k]? = some v) := Lib.hid (by rw [List.getElem?_eq_getElem hkl, hv1])
                obtain ⟨dab, dao, _, _, e, _⟩ := (hv.rd HDA.out).some (by rw [cellsB_len]; omega)
                cases e
                clear hkl hk2 hk0 hA hB haf ho hv1
                go_wp2_with (first
                  | ((with_reducible refine at_load (T := 22) ?_); refine wl_ldc rfl b3 (0) rfl _ (hv.vars.row (by first | exact .head _ | exact .tail _ (.head _) | exact .tail _ (.tail _ (.head _)) | exact .tail _ (.tail _ (.tail _ (.head _))) | exact .tail _ (.tail _ (.tail _ (.tail _ (.head _)))) | exact .tail _ (.tail _ (.tail _ (.tail _ (.tail _ (.head _))))) | exact .tail _ (.tail _ (.tail _ (.tail _ (.tail _ (.tail _ (.head _)))))) | exact .tail _ (.tail _ (.tail _ (.tail _ (.tail _ (.tail _ (.tail _ (.head _))))))))) _ Try.underlying22 rfl _ rfl ?_)
                  | (go_at_call 19; (with_reducible refine (kS _).mono ?_); rintro e w1 ⟨rfl, rfl⟩)
                  | ((with_reducible refine at_load (T := 4) ?_); refine wl_ldc rfl b8 (a) rfl _ (hv.vars.row (by first | exact .head _ | exact .tail _ (.head _) | exact .tail _ (.tail _ (.head _)) | exact .tail _ (.tail _ (.tail _ (.head _))) | exact .tail _ (.tail _ (.tail _ (.tail _ (.head _)))) | exact .tail _ (.tail _ (.tail _ (.tail _ (.tail _ (.head _))))) | exact .tail _ (.tail _ (.tail _ (.tail _ (.tail _ (.tail _ (.head _)))))) | exact .tail _ (.tail _ (.tail _ (.tail _ (.tail _ (.tail _ (.tail _ (.head _))))))))) _ Try.underlying4 rfl (.bool false) HAF.out ?_)
                  | ((with_reducible refine at_load (T := 5) ?_); refine wl_rd rfl (c := cellsB data) (hv.rd HDA.out) k rfl _ Try.underlying5 rfl (.int .u8 (v : Nat)) HV.out ?_)
                  | ((with_reducible refine at_store (T := 4) ?_); refine wl_stc rfl b8 (a) rfl (.bool true) rfl _ (hv.vars.row (by first | exact .head _ | exact .tail _ (.head _) | exact .tail _ (.tail _ (.head _)) | exact .tail _ (.tail _ (.tail _ (.head _))) | exact .tail _ (.tail _ (.tail _ (.tail _ (.head _)))) | exact .tail _ (.tail _ (.tail _ (.tail _ (.tail _ (.head _))))) | exact .tail _ (.tail _ (.tail _ (.tail _ (.tail _ (.tail _ (.head _)))))) | exact .tail _ (.tail _ (.tail _ (.tail _ (.tail _ (.tail _ (.tail _ (.head _))))))))) (hv.vars.sft (by first | exact .head _ | exact .tail _ (.head _) | exact .tail _ (.tail _ (.head _)) | exact .tail _ (.tail _ (.tail _ (.head _))) | exact .tail _ (.tail _ (.tail _ (.tail _ (.head _)))) | exact .tail _ (.tail _ (.tail _ (.tail _ (.tail _ (.head _))))) | exact .tail _ (.tail _ (.tail _ (.tail _ (.tail _ (.tail _ (.head _)))))) | exact .tail _ (.tail _ (.tail _ (.tail _ (.tail _ (.tail _ (.tail _ (.head _))))))))) (by kernel_rfl) rfl (by rw [rowH_size, HG.out.1]; exact HAB.out) ?_; intro w2 hw2; (first | (replace hv := hv.set 0 rfl hw2) | (replace hv := hv.set 1 rfl hw2) | (replace hv := hv.set 2 rfl hw2) | (replace hv := hv.set 3 rfl hw2)); clear hw2; simp only [List.set] at hv; rw [rowH_set g (a) v] at hv)
                  | ((with_reducible refine at_store (T := 5) ?_); refine wl_stc rfl b9 (a) rfl (.int .u8 (v : Nat)) rfl _ (hv.vars.row (by first | exact .head _ | exact .tail _ (.head _) | exact .tail _ (.tail _ (.head _)) | exact .tail _ (.tail _ (.tail _ (.head _))) | exact .tail _ (.tail _ (.tail _ (.tail _ (.head _)))) | exact .tail _ (.tail _ (.tail _ (.tail _ (.tail _ (.head _))))) | exact .tail _ (.tail _ (.tail _ (.tail _ (.tail _ (.tail _ (.head _)))))) | exact .tail _ (.tail _ (.tail _ (.tail _ (.tail _ (.tail _ (.tail _ (.head _))))))))) (hv.vars.sft (by first | exact .head _ | exact .tail _ (.head _) | exact .tail _ (.tail _ (.head _)) | exact .tail _ (.tail _ (.tail _ (.head _))) | exact .tail _ (.tail _ (.tail _ (.tail _ (.head _)))) | exact .tail _ (.tail _ (.tail _ (.tail _ (.tail _ (.head _))))) | exact .tail _ (.tail _ (.tail _ (.tail _ (.tail _ (.tail _ (.head _)))))) | exact .tail _ (.tail _ (.tail _ (.tail _ (.tail _ (.tail _ (.tail _ (.head _))))))))) (by kernel_rfl) rfl (by rw [rowB_size, HG.out.1]; exact HAB.out) ?_; intro w2 hw2; (first | (replace hv := hv.set 0 rfl hw2) | (replace hv := hv.set 1 rfl hw2) | (replace hv := hv.set 2 rfl hw2) | (replace hv := hv.set 3 rfl hw2)); clear hw2; simp only [List.set] at hv; rw [rowB_set g (a) v] at hv))
                have hkn := HKK.out
                go_roundw
                case rel => exact ⟨k + 1, _, by omega, by go_num, hv, Lib.hid ((HG.out.set a v).congr fun j _ => inD_new _ _ _ _ a v _ HAE.out HAR.out HVV.out HOO.out j)⟩
                case measure => simp [intOf]; omega
        · have hkk : ¬ (k : Int) < (dn : Int) := by omega
          obtain ⟨G, hG⟩ : ∃ G, gF (stOf next bs l) seq data = G := ⟨_, rfl⟩
          have HGG := Lib.hid hG
          have HGF : Hid (Holds g G) := Lib.hid (by
            have hkd : k = data.length := by rw [HDL.out]; omega
            rw [hkd, ← HS.out, ← HRM.out, ← HDD.out] at HG
            rw [← hG]
            exact HG.out.congr fun j _ => inD_all HCK.out (by rw [HDL.out]; exact HDN.out) j)
          have HGO : Hid (∀ j, r ≤ j → G j = none) := Lib.hid (fun j hj => by
            rw [← hG]
            exact gF_out (by rw [HRM.out]; omega))
          clear HG hk0 hk2 hG
          go_wp2
          go_loopw [16] (fun nv wr => ∃ (n : Nat), n ≤ r ∧ nv = .int .i64 (n : Nat) ∧ Mem w0 wr ((b9, rowB g) :: (b8, rowH g) :: (b6, #[.int .u32 0, .slice none 0 0, .slice none 0 0]) :: (b3, #[.int .u32 (next : Nat), .slice ba bn bc, .slice pa pn pc]) :: L) R ∧ Hid (∀ j, j < n → (G j).isSome = true)) (fun nv _ => r - (intOf nv).toNat)
          case atStart => exact ⟨0, Nat.zero_le _, rfl, hv, Lib.hid (fun j hj => absurd hj (Nat.not_lt_zero _))⟩
          case round =>
            clear hv
            obtain ⟨n, hn0, rfl, hv, HGN⟩ := hrel
            by_cases hn2 : n < r
            · have hnn : (n : Int) < (r : Int) := by omega
              have n256 : (n : Int) < 256 := by have := HR.out; omega
              have hnf := HGF.out.2 n (by omega)
              have HNK := Lib.hid hn2
              cases ho : G n with
              | some u =>
                rw [ho] at hnf
                have HAF := Lib.hid (rowH_get g hnf)
                have HOO : Hid ((G n).isSome = true) := Lib.hid (by rw [ho]; rfl)
                clear hn2 hn0 hnf ho
                go_wp2_with (first
                  | ((with_reducible refine at_load (T := 4) ?_); refine wl_ldc rfl b8 (n) rfl _ (hv.vars.row (by first | exact .head _ | exact .tail _ (.head _) | exact .tail _ (.tail _ (.head _)) | exact .tail _ (.tail _ (.tail _ (.head _))) | exact .tail _ (.tail _ (.tail _ (.tail _ (.head _)))) | exact .tail _ (.tail _ (.tail _ (.tail _ (.tail _ (.head _))))) | exact .tail _ (.tail _ (.tail _ (.tail _ (.tail _ (.tail _ (.head _)))))) | exact .tail _ (.tail _ (.tail _ (.tail _ (.tail _ (.tail _ (.tail _ (.head _))))))))) _ Try.underlying4 rfl (.bool true) HAF.out ?_))
                have hkn := HNK.out
                go_roundw
                case rel => exact ⟨n + 1, by omega, by go_num, hv, Lib.hid (fun j hj => by
                  rcases Nat.lt_or_ge j n with h | h
                  · exact HGN.out j h
                  · rw [show j = n from by omega]; exact HOO.out)⟩
                case measure => simp [intOf]; omega
              | none =>
                rw [ho] at hnf
                have HAF := Lib.hid (rowH_get g hnf)
                have HOO := Lib.hid ho
                have HN0 := Lib.hid hn0
                clear hn2 hn0 hnf ho
                go_wp2_with (first
                  | ((with_reducible refine at_load (T := 4) ?_); refine wl_ldc rfl b8 (n) rfl _ (hv.vars.row (by first | exact .head _ | exact .tail _ (.head _) | exact .tail _ (.tail _ (.head _)) | exact .tail _ (.tail _ (.tail _ (.head _))) | exact .tail _ (.tail _ (.tail _ (.tail _ (.head _)))) | exact .tail _ (.tail _ (.tail _ (.tail _ (.tail _ (.head _))))) | exact .tail _ (.tail _ (.tail _ (.tail _ (.tail _ (.tail _ (.head _)))))) | exact .tail _ (.tail _ (.tail _ (.tail _ (.tail _ (.tail _ (.tail _ (.head _))))))))) _ Try.underlying4 rfl (.bool false) HAF.out ?_))
                have hnr := HN0.out
                have hr256 := HR.out.1
                have HN256 : Hid (n ≤ 256) := Lib.hid (by omega)
                obtain ⟨bl, hbl⟩ : ∃ bl, valsB g n = bl := ⟨_, rfl⟩
                have hvb := valsB_get HGF.out (show n ≤ 256 by omega) HGN.out
                rw [hbl] at hvb
                have HVB := Lib.hid hvb
                obtain ⟨nx1, hnx1⟩ : ∃ nx1, (next + n) % 4294967296 = nx1 := ⟨_, rfl⟩
                have HNX1 := Lib.hid hnx1
                have e1 : IntKind.u32.wrap (n : Int) = (n : Int) := u32_nat (by omega)
                have e2 : IntKind.u32.wrap ((next : Int) + (n : Int)) = (nx1 : Int) := by rw [u32_add, hnx1]
                replace hv := Mem.yield (L1 := []) hv (AppRow.arr b9 (rowB g) (by rw [rowB_size, HGF.out.1]))
                simp only [List.nil_append] at hv
                replace hv := hv.sliced Mem.z (l := 0) (h := n) (m := 256) (Nat.zero_le _) (by omega) (by omega) (Nat.le_refl _)
                rw [show sliced (some ⟨b9, 0, none⟩) 0 n 256 1 = .slice (some ⟨b9, 0, none⟩) n 256 from by unfold sliced; rw [if_neg (by omega)]; rfl, show (((rowB g).toList.drop (0 * 1)).take ((n - 0) * 1)) = cellsB bl from by rw [← hbl, valsB_cells]; simp] at hv
                replace hv := hv.perm (perm_b2 _ _ _ L)
                have HE1 := Lib.hid (Any.rd_start (hv.keep (List.sublist_append_left [(b3, #[.int .u32 (next : Nat), .slice ba bn bc, .slice pa pn pc])] ((b8, rowH g) :: (b6, #[.int .u32 0, .slice none 0 0, .slice none 0 0]) :: L))) (Mem.s (Mem.s HBM.out)))
                have HE2 := Lib.hid (Any.rd_start (hv.keep (List.sublist_append_left [(b3, #[.int .u32 (next : Nat), .slice ba bn bc, .slice pa pn pc])] ((b8, rowH g) :: (b6, #[.int .u32 0, .slice none 0 0, .slice none 0 0]) :: L))) Mem.z)
                have hb1 := HR.out.2.1
                have hb2 := HR.out.2.2
                have HF1 : Hid ((([] : List Value).length + (cellsB bs).length) / 1 ≤ maxLen) := Lib.hid (by rw [cellsB_len, List.length_nil]; unfold maxLen; omega)
                have HF2 : Hid ((([] : List Value).length + (cellsB bs).length) / 1 * 1 ≤ 140737488355328) := Lib.hid (by rw [cellsB_len, List.length_nil]; omega)
                have HH1 : Hid (((([] : List Value) ++ cellsB bs).length + (cellsB bl).length) / 1 ≤ maxLen) := Lib.hid (by have := HVB.out.1; rw [List.nil_append, cellsB_len, cellsB_len]; unfold maxLen; omega)
                have HH2 : Hid (((([] : List Value) ++ cellsB bs).length + (cellsB bl).length) / 1 * 1 ≤ 140737488355328) := Lib.hid (by have := HVB.out.1; rw [List.nil_append, cellsB_len, cellsB_len]; omega)
                clear hnr hr256 hbl hvb hnx1 hb1 hb2
                refine Any.wp_region_walk [⟨[], none⟩, ⟨[1000], none⟩, ⟨[], none⟩, ⟨[], none⟩, ⟨[], none⟩, ⟨[], some 6⟩, ⟨[], none⟩, ⟨[1000], none⟩, ⟨[], some 6⟩, ⟨[], none⟩, ⟨[], none⟩, ⟨[], some 6⟩, ⟨[], none⟩, ⟨[], some 5⟩, ⟨[5], some 5⟩] [.val, .val, .val, .val, .val, .bsl 0 #[], .val, .val, .own (AppRow · 1 ([] ++ cellsB bs)), .val, .val, .own (AppRow · 1 ([] ++ cellsB bs ++ cellsB bl)), .pure, .lay #[.int .u32 0, .slice none 0 0, .slice none 0 0], .put] (by kernel_rfl) (by kernel_rfl) (hv.vars.keep (List.sublist_append_left [(b3, #[.int .u32 (next : Nat), .slice ba bn bc, .slice pa pn pc])] ((b8, rowH g) :: (b6, #[.int .u32 0, .slice none 0 0, .slice none 0 0]) :: L))) ?_
                simp only [List.length_cons, List.length_nil, Nat.zero_add, Any.someVals]
                iterate 15 apply Exists.intro
                repeat (first
                  | (refine Any.E_off rfl ?_; simp only [Act.put, List.setIfInBounds_toArray, List.set_cons_succ, List.set_cons_zero])
                  | (apply Any.E_pureq rfl rfl rfl
                     case h => intro K hK; go_big_quiet_op; (refine hK _ ?_; rfl)
                     case hr => exact fun _ => rfl
                     simp only [Act.put, List.setIfInBounds_toArray, List.set_cons_succ, List.set_cons_zero])
                  | (apply Any.E_val rfl rfl rfl rfl
                     case h =>
                       intro E' hA K hK
                       first
                         | ((with_reducible refine Any.at_qload (T := 22) ?_); refine Any.q_ldc 1000 hA (by decide) rfl rfl _ Try.underlying22 rfl _ rfl ?_; refine hK _ ?_; rfl)
                         | ((with_reducible refine Any.at_qload (T := 23) ?_); refine Any.q_ldc 1000 hA (by decide) rfl rfl _ Try.underlying23 rfl _ rfl ?_; refine hK _ ?_; rfl)
                         | ((with_reducible refine Any.at_qslice (T := 58) ?_); refine Any.q_slicearr (N := 256) (n := n) rfl Try.underlying58 infoB1 rfl HN256.out (by omega) ?_; refine hK _ ?_; rfl)
                         | (go_big_quiet_op; first
                           | (refine hK _ ?_; rfl)
                           | (refine ⟨_, fun _ _ => rfl, ?_⟩; refine hK _ ?_; rfl)
                           | (apply Exists.intro; refine ⟨fun w1 hw1 => ?_, ?_⟩; · (first
                               | fail)
                              refine hK _ ?_; rfl))
                     case hD => rfl
                     simp only [Act.put, List.setIfInBounds_toArray, List.set_cons_succ, List.set_cons_zero])
                  | ((with_reducible refine Any.at_ealloc ?_); refine Any.E_lay rfl rfl rfl (fun _ => rfl) ?_; intro b17; simp only [Act.put, List.setIfInBounds_toArray, List.set_cons_succ, List.set_cons_zero])
                  | ((with_reducible refine Any.at_eapp (t := 23) ?_); refine Any.E_appR rfl rfl rfl rfl rfl (AppRow.nul Bz) rfl HE1.out (.int .u8 0) 1 Try.underlying23 info8z rfl (by decide) (cellsB_one _) HF1.out HF2.out ?_; intro v8 x8 hW8; obtain ⟨n8, c8, rfl, g8⟩ := id hW8; replace g8 := Lib.hid g8; replace hW8 := Lib.hid hW8; simp only [Act.put, List.setIfInBounds_toArray, List.set_cons_succ, List.set_cons_zero])
                  | ((with_reducible refine Any.at_eapp (t := 23) ?_); refine Any.E_appR rfl rfl rfl rfl rfl hW8.out rfl HE2.out (.int .u8 0) 1 Try.underlying23 info8z rfl (by decide) (cellsB_one _) HH1.out HH2.out ?_; intro v9 x9 hW9; obtain ⟨n9, c9, rfl, g9⟩ := id hW9; replace g9 := Lib.hid g9; replace hW9 := Lib.hid hW9; simp only [Act.put, List.setIfInBounds_toArray, List.set_cons_succ, List.set_cons_zero])
                  | ((with_reducible refine Any.at_ebsl ?_); refine Any.E_bsl (n := 0) (z := #[]) (t := 5) rfl rfl rfl (fun w' => (by unfold execOp; go_simp)) ?_; intro Bz; simp only [Act.put, List.setIfInBounds_toArray, List.set_cons_succ, List.set_cons_zero])
                  | ((with_reducible refine Any.at_ebuild (T := 26) ?_); refine Any.E_build rfl rfl rfl _ rfl (built_str _ _ _ _) ?_; simp only [Act.put, List.setIfInBounds_toArray, List.set_cons_succ, List.set_cons_zero])
                  | ((with_reducible refine Any.at_estore (T := 26) ?_); refine Any.E_putv (T := 26) rfl rfl rfl rfl rfl rfl 3 infoStr rfl rfl (by simp [Value.oneCell']) ?_; simp only [Act.put, List.setIfInBounds_toArray, List.set_cons_succ, List.set_cons_zero]))
                try any_goals exact undef
                refine Any.E_nil ?_
                intro w9 hE9
                replace hv : Mem w0 w9 ([(b17, #[.int .u32 (nx1 : Nat), .slice (some ⟨x9.1, 0, none⟩) n9 c9, .slice none 0 0]), x9, (b3, #[.int .u32 (next : Nat), .slice ba bn bc, .slice pa pn pc])] ++ ((b8, rowH g) :: (b6, #[.int .u32 0, .slice none 0 0, .slice none 0 0]) :: L)) _ := hE9.memr hv [5, 6, 1000] (by decide)
                clear hE9
                simp only [List.cons_append, List.nil_append] at hv
                replace hv := Mem.yield (L1 := [_]) hv hW9.out
                rw [show ([] : List Value) ++ cellsB bs ++ cellsB bl = cellsB (bs ++ bl) from by rw [List.nil_append, cellsB_app]] at hv
                simp only [List.cons_append, List.nil_append] at hv
                obtain ⟨R3, hR3⟩ : ∃ R3 : List (Nat × Value × List Value), (1, Value.slice (some ⟨x9.1, 0, none⟩) n9 c9, cellsB (bs ++ bl)) :: (1, Value.slice (some ⟨b9, 0, none⟩) n 256, cellsB bl) :: (1, Value.slice (some ⟨b9, 0, none⟩) 256 256, (rowB g).toList) :: R = R3 := ⟨_, rfl⟩
                rw [hR3] at hv
                have HR3 := Lib.hid hR3
                have HB9 : Hid ((1, Value.slice (some ⟨b9, 0, none⟩) 256 256, (rowB g).toList) ∈ R3) := Lib.hid (by rw [← hR3]; exact Mem.s (Mem.s Mem.z))
                clear hR3
                go_wp2
                go_loopw [18] (fun kv wr => ∃ (k : Nat) (pv : Value) (Z : List SpV) (O2 : List (Nat × Array Value)) (R4 : List (Nat × Value × List Value)), n ≤ k ∧ k ≤ r ∧ kv = .int .i64 (k : Nat) ∧ Mem w0 wr ((b17, #[.int .u32 (nx1 : Nat), .slice (some ⟨x9.1, 0, none⟩) n9 c9, pv]) :: (O2 ++ ((b3, #[.int .u32 (next : Nat), .slice ba bn bc, .slice pa pn pc]) :: ((b8, rowH g) :: (b6, #[.int .u32 0, .slice none 0 0, .slice none 0 0]) :: L)))) (R4 ++ R3) ∧ Hid (OutP next (R4 ++ R3) pv Z O2) ∧ Hid (RunInv G n k (spOf Z)) ∧ Hid (Z.length ≤ k)) (fun kv _ => r - (intOf kv).toNat)
                case atStart => exact ⟨n, .slice none 0 0, [], [], [], Nat.le_refl _, HN0.out, rfl, hv, Lib.hid (.inl ⟨rfl, rfl, rfl⟩), Lib.hid (RunInv.start G n), Lib.hid (Nat.zero_le _)⟩
                case round =>
                  clear hv
                  obtain ⟨k, pv, Z, O2, R4, hnk, hk0, rfl, hv, HOP, HRI, HZK⟩ := hrel
                  by_cases hk2 : k < r
                  · have hki : (k : Int) < (r : Int) := by omega
                    have hr256 := HR.out.1
                    have hkb : (k : Int) ≤ 5000 := by omega
                    have k256 : (k : Int) < 256 := by omega
                    have HKK := Lib.hid hk2
                    have hkf := HGF.out.2 k (by omega)
                    cases ho : G k with
                    | none =>
                      rw [ho] at hkf
                      have HAF := Lib.hid (rowH_get g hkf)
                      have HON := Lib.hid ho
                      have HNK2 := Lib.hid hnk
                      clear hkf ho hk2 hk0 hr256
                      go_wp2_with (first
                        | ((with_reducible refine at_load (T := 4) ?_); refine wl_ldc rfl b8 (k) rfl _ (hv.vars.row (.tail _ (List.mem_append_right _ (.tail _ (.head _))))) _ Try.underlying4 rfl (.bool false) HAF.out ?_))
                      try rw [Exit.noGoto_ret]
                      have hkn := HKK.out
                      go_roundw
                      case rel => exact ⟨k + 1, pv, Z, O2, R4, by have := HNK2.out; omega, by omega, by go_num, hv, HOP, Lib.hid (by
                        have := HRI.out.step HOO.out
                        rwa [runs_none HON.out] at this), Lib.hid (by have := HZK.out; omega)⟩
                      case measure => simp [intOf]; omega
                    | some v =>
                      have hne : k ≠ n := fun e => by rw [e, HOO.out] at ho; cases ho
                      obtain ⟨km, hkk⟩ : ∃ km, km + 1 = k := ⟨k - 1, by omega⟩
                      have hmf := HGF.out.2 km (by omega)
                      rw [ho] at hkf
                      have HAF := Lib.hid (rowH_get g hkf)
                      have HKV : Hid ((rowB g).toList[k]? = some (.int .u8 (v : Nat))) := Lib.hid (by rw [Array.getElem?_toList]; exact rowB_get g hkf)
                      have HON := Lib.hid ho
                      have HNK2 : Hid (n ≤ k ∧ km + 1 = k) := Lib.hid ⟨hnk, hkk⟩
                      have m1 : (k : Int) - 1 = (km : Int) := by omega
                      have m2 : IntKind.i64.wrap ((k : Int) - 1) = (km : Int) := by rw [m1]; exact IntWalk.i64_in _ (by omega)
                      have m3 : (km : Int) < 256 := by omega
                      have HKM : Hid (k - 1 = km) := Lib.hid (by omega)
                      have hB3 : 1 ≤ maxLen := by unfold maxLen; omega
                      cases hm : G km with
                      | some u =>
                        rw [hm] at hmf
                        have HMF := Lib.hid (rowH_get g hmf)
                        have HSO : Hid ((G (k - 1)).isSome = true) := Lib.hid (by rw [HKM.out, hm]; rfl)
                        obtain ⟨p0, z0, hp0, _⟩ := HRI.out.last (by omega) HSO.out
                        rcases HOP.out with ⟨hZ, _, _⟩ | ⟨Zi, z, x0, xd, rfl, hrow, hdrow, rfl, hal⟩
                        · rw [hZ] at hp0
                          have := congrArg List.length hp0
                          simp [spOf] at this
                        · obtain ⟨zx, zv, zd⟩ := z
                          clear HOP
                          have hrw2 := hrow
                          rw [cellsP_map_snoc] at hrw2
                          obtain ⟨⟨jc, rfl⟩, hsz, hge⟩ := app_lastP hrw2
                          rw [List.length_map] at hsz hge
                          obtain ⟨m, hmm⟩ : ∃ m, Zi.length = m := ⟨_, rfl⟩
                          obtain ⟨M, hM⟩ : ∃ M, m + 1 = M := ⟨_, rfl⟩
                          have hMM : (Zi.map (pcOf next)).length + 1 = M := by rw [List.length_map, hmm, hM]
                          rw [hMM] at hv hrow
                          rw [hmm] at hsz hge
                          obtain ⟨dl, dcp, rfl, _⟩ := id hdrow
                          have HSZ := Lib.hid hsz
                          have HGE := Lib.hid hge
                          have HRW := Lib.hid hrow
                          have HDR := Lib.hid hdrow
                          have HAL := Lib.hid hal
                          have HMM : Hid (Zi.length = m ∧ m + 1 = M) := Lib.hid ⟨hmm, hM⟩
                          have hzl := HZK.out
                          rw [List.length_append, List.length_singleton] at hzl
                          have c1 : (M : Int) - 1 = (m : Int) := by omega
                          have c2 : IntKind.i64.wrap ((M : Int) - 1) = (m : Int) := by rw [c1]; exact IntWalk.i64_in _ (by omega)
                          have c3 : (m : Int) < (M : Int) := by omega
                          have c4 : wrap64 (m : Int) = (m : Int) := wrap64_nat (by omega)
                          have hzd : zd.length ≤ 256 := by
                            have := HRI.out.le ((zx, zd) : Sp) (by simp [spOf])
                            have := HRI.out.sep.lo ((zx, zd) : Sp) (by simp [spOf])
                            simp only at *
                            omega
                          have HO1 : Hid (∀ y ∈ ([.int .u8 (v : Nat)] : List Value), y.oneCell' = true) := Lib.hid (fun y hy => by rw [List.mem_singleton.1 hy]; rfl)
                          have HD1 : Hid (((cellsB zd).length + ([.int .u8 (v : Nat)] : List Value).length) / 1 ≤ maxLen) := Lib.hid (by rw [cellsB_len]; simp only [List.length_cons, List.length_nil]; unfold maxLen; omega)
                          have HD2 : Hid (((cellsB zd).length + ([.int .u8 (v : Nat)] : List Value).length) / 1 * 1 ≤ 140737488355328) := Lib.hid (by rw [cellsB_len]; simp only [List.length_cons, List.length_nil]; omega)
                          have HRB := Lib.hid (Any.rd_start (hv.keep (List.sublist_append_left [(b17, #[.int .u32 (nx1 : Nat), .slice (some ⟨x9.1, 0, none⟩) n9 c9, (.slice (some ⟨x0.1, 0, none⟩) M jc)]), x0, xd] ((b3, #[.int .u32 (next : Nat), .slice ba bn bc, .slice pa pn pc]) :: ((b8, rowH g) :: (b6, #[.int .u32 0, .slice none 0 0, .slice none 0 0]) :: L)))) (List.mem_append_right R4 HB9.out))
                          simp only [List.cons_append, List.nil_append] at hv
                          clear hkf hmf ho hm hk2 hk0 hr256 hne hp0 hrw2 hsz hge hrow hdrow hal hmm hM hzl hzd
                          go_wp2_with (first
                            | ((with_reducible refine at_load (T := 4) ?_); refine wl_ldc rfl b8 (k) rfl _ (hv.vars.row (by first | exact .head _ | exact .tail _ (.head _) | exact .tail _ (.tail _ (.head _)) | exact .tail _ (.tail _ (.tail _ (.head _))) | exact .tail _ (.tail _ (.tail _ (.tail _ (.head _)))) | exact .tail _ (.tail _ (.tail _ (.tail _ (.tail _ (.head _))))) | exact .tail _ (.tail _ (.tail _ (.tail _ (.tail _ (.tail _ (.head _)))))) | exact .tail _ (.tail _ (.tail _ (.tail _ (.tail _ (.tail _ (.tail _ (.head _))))))))) _ Try.underlying4 rfl (.bool true) HAF.out ?_)
                            | ((with_reducible refine at_load (T := 4) ?_); refine wl_ldc rfl b8 (km) rfl _ (hv.vars.row (by first | exact .head _ | exact .tail _ (.head _) | exact .tail _ (.tail _ (.head _)) | exact .tail _ (.tail _ (.tail _ (.head _))) | exact .tail _ (.tail _ (.tail _ (.tail _ (.head _)))) | exact .tail _ (.tail _ (.tail _ (.tail _ (.tail _ (.head _))))) | exact .tail _ (.tail _ (.tail _ (.tail _ (.tail _ (.tail _ (.head _)))))) | exact .tail _ (.tail _ (.tail _ (.tail _ (.tail _ (.tail _ (.tail _ (.head _))))))))) _ Try.underlying4 rfl (.bool true) HMF.out ?_)
                            | ((with_reducible refine at_load (T := 24) ?_); refine wl_ldc rfl b17 (2) rfl _ (hv.vars.row (by first | exact .head _ | exact .tail _ (.head _) | exact .tail _ (.tail _ (.head _)) | exact .tail _ (.tail _ (.tail _ (.head _))) | exact .tail _ (.tail _ (.tail _ (.tail _ (.head _)))) | exact .tail _ (.tail _ (.tail _ (.tail _ (.tail _ (.head _))))) | exact .tail _ (.tail _ (.tail _ (.tail _ (.tail _ (.tail _ (.head _)))))) | exact .tail _ (.tail _ (.tail _ (.tail _ (.tail _ (.tail _ (.tail _ (.head _))))))))) _ Try.underlying24 rfl _ rfl ?_))
                          refine Any.wp_region_walk [⟨[], none⟩, ⟨[1000], none⟩, ⟨[], none⟩, ⟨[], none⟩, ⟨[1000], none⟩, ⟨[], none⟩, ⟨[], none⟩, ⟨[], none⟩, ⟨[1001], none⟩, ⟨[], none⟩, ⟨[], none⟩, ⟨[], none⟩, ⟨[], some 6⟩, ⟨[6], some 1002⟩, ⟨[], none⟩, ⟨[], none⟩, ⟨[1001], some 1001⟩] [.val, .val, .val, .val, .val, .val, .val, .val, .val, .val, .val, .val, .bsl 1 #[.int .u8 (v : Nat)], .own (AppRow · 1 (cellsB zd ++ [.int .u8 (v : Nat)])), .val, .val, .put] (by kernel_rfl) (by kernel_rfl) (hv.vars.keep (List.sublist_append_left [(b17, #[.int .u32 (nx1 : Nat), .slice (some ⟨x9.1, 0, none⟩) n9 c9, (.slice (some ⟨x0.1, 0, none⟩) M jc)]), x0, xd] ((b3, #[.int .u32 (next : Nat), .slice ba bn bc, .slice pa pn pc]) :: ((b8, rowH g) :: (b6, #[.int .u32 0, .slice none 0 0, .slice none 0 0]) :: L)))) ?_
                          simp only [List.length_cons, List.length_nil, Nat.zero_add, Any.someVals]
                          iterate 17 apply Exists.intro
                          repeat (first
                            | (refine Any.E_off rfl ?_; simp only [Act.put, List.setIfInBounds_toArray, List.set_cons_succ, List.set_cons_zero])
                            | (apply Any.E_pureq rfl rfl rfl
                               case h => intro K hK; go_big_quiet_op; (refine hK _ ?_; rfl)
                               case hr => exact fun _ => rfl
                               simp only [Act.put, List.setIfInBounds_toArray, List.set_cons_succ, List.set_cons_zero])
                            | (apply Any.E_val rfl rfl rfl rfl
                               case h =>
                                 intro E' hA K hK
                                 first
                                   | ((with_reducible refine Any.at_qload (T := 24) ?_); refine Any.q_ldc 1000 hA (by decide) rfl rfl _ Try.underlying24 rfl _ rfl ?_; refine hK _ ?_; rfl)
                                   | ((with_reducible refine Any.at_qload (T := 23) ?_); refine Any.q_ldc 1001 hA (by decide) rfl rfl _ Try.underlying23 rfl _ HGE.out ?_; refine hK _ ?_; rfl)
                                   | ((with_reducible refine Any.at_qload (T := 5) ?_); refine Any.q_rd HRB.out k (by rw [Nat.zero_add]; rfl) _ Try.underlying5 rfl (.int .u8 (v : Nat)) HKV.out ?_; refine hK _ ?_; rfl)
                                   | (go_big_quiet_op; first
                                     | (refine hK _ ?_; rfl)
                                     | (refine ⟨_, fun _ _ => rfl, ?_⟩; refine hK _ ?_; rfl)
                                     | (apply Exists.intro; refine ⟨fun w1 hw1 => ?_, ?_⟩; · (first
                                         | fail)
                                        refine hK _ ?_; rfl))
                               case hD => rfl
                               simp only [Act.put, List.setIfInBounds_toArray, List.set_cons_succ, List.set_cons_zero])
                            | ((with_reducible refine Any.at_ealloc ?_); refine Any.E_lay rfl rfl rfl (fun _ => rfl) ?_; intro B; simp only [Act.put, List.setIfInBounds_toArray, List.set_cons_succ, List.set_cons_zero])
                            | ((with_reducible refine Any.at_eapp (t := 23) ?_); refine Any.E_app (j := 6) rfl rfl rfl rfl rfl HDR.out rfl (by decide) rfl rfl rfl hB3 (.int .u8 0) 1 Try.underlying23 info8z rfl (by decide) HO1.out HD1.out HD2.out ?_; intro v7 x7 hW7; obtain ⟨n7, c7, rfl, g7⟩ := id hW7; replace g7 := Lib.hid g7; replace hW7 := Lib.hid hW7; simp only [Act.put, List.setIfInBounds_toArray, List.set_cons_succ, List.set_cons_zero])
                            | ((with_reducible refine Any.at_ebsl ?_); refine Any.E_bsl (n := 1) (z := #[.int .u8 (v : Nat)]) (t := 5) rfl rfl rfl (fun w' => (by unfold execOp; go_simp)) ?_; intro B6; simp only [Act.put, List.setIfInBounds_toArray, List.set_cons_succ, List.set_cons_zero])
                            | ((with_reducible refine Any.at_estore (T := 23) ?_); refine Any.E_putc (T := 23) rfl rfl rfl rfl rfl rfl (by kernel_rfl) rfl (Nat.lt_of_lt_of_le (Nat.lt_succ_self _) HSZ.out) ?_; simp only [Act.put, List.setIfInBounds_toArray, List.set_cons_succ, List.set_cons_zero]))
                          try any_goals exact undef
                          refine Any.E_nil ?_
                          intro w9 hE9
                          replace hv : Mem w0 w9 ([(b17, #[.int .u32 (nx1 : Nat), .slice (some ⟨x9.1, 0, none⟩) n9 c9, (.slice (some ⟨x0.1, 0, none⟩) M jc)]), (x0.1, _), x7] ++ ((b3, #[.int .u32 (next : Nat), .slice ba bn bc, .slice pa pn pc]) :: ((b8, rowH g) :: (b6, #[.int .u32 0, .slice none 0 0, .slice none 0 0]) :: L))) _ := hE9.memr hv [1000, 1001, 1002] (by decide)
                          clear hE9
                          simp only [List.cons_append, List.nil_append] at hv
                          go_wp2
                          have hkn := HKK.out
                          go_roundw
                          case rel => exact ⟨k + 1, _, Zi ++ [(zx, .slice (some ⟨x7.1, 0, none⟩) n7 c7, zd ++ [v])], [(x0.1, x0.2.setIfInBounds (m * 2 + 1) (.slice (some ⟨x7.1, 0, none⟩) n7 c7)), x7], R4, by have := HNK2.out.1; omega, by omega, by go_num, hv, Lib.hid (.inr ⟨Zi, _, _, _, rfl, by
                            have h := AppRow.setc HRW.out (m * 2 + 1) (.slice (some ⟨x7.1, 0, none⟩) n7 c7)
                            have h2 := cellsP_set (Zi.map (pcOf next)) (pcOf next (zx, .slice (some ⟨xd.1, 0, none⟩) dl dcp, zd)).1 (.slice (some ⟨xd.1, 0, none⟩) dl dcp) (.slice (some ⟨x7.1, 0, none⟩) n7 c7) zd (zd ++ [v])
                            rw [List.length_map, HMM.out.1] at h2
                            rw [cellsP_map_snoc] at h ⊢
                            rw [show Zi.map (pcOf next) ++ [pcOf next (zx, .slice (some ⟨xd.1, 0, none⟩) dl dcp, zd)] = Zi.map (pcOf next) ++ [((pcOf next (zx, .slice (some ⟨xd.1, 0, none⟩) dl dcp, zd)).1, .slice (some ⟨xd.1, 0, none⟩) dl dcp, zd)] from rfl, h2] at h
                            exact h, by rw [cellsB_app]; exact hW7.out, rfl, HAL.out⟩), Lib.hid (by
                            have := HRI.out.step HOO.out
                            rw [spOf_ap, show spOf [((zx, .slice (some ⟨xd.1, 0, none⟩) dl dcp, zd) : SpV)] = [(zx, zd)] from rfl, runs_more HON.out HSO.out] at this
                            rw [spOf_ap]
                            exact this), Lib.hid (by have := HZK.out; rw [List.length_append] at this ⊢; simp only [List.length_singleton] at this ⊢; omega)⟩
                          case measure => simp [intOf]; omega
                      | none =>
                        rw [hm] at hmf
                        have HMF := Lib.hid (rowH_get g hmf)
                        have HSO : Hid (G (k - 1) = none) := Lib.hid (by rw [HKM.out, hm])
                        obtain ⟨sq, hsq⟩ : ∃ sq, (next + k) % 4294967296 = sq := ⟨_, rfl⟩
                        have HSQ2 := Lib.hid hsq
                        have c1 : IntKind.u32.wrap (k : Int) = (k : Int) := u32_nat (by omega)
                        have c2 : IntKind.u32.wrap ((next : Int) + (k : Int)) = (sq : Int) := by rw [u32_add, hsq]
                        have HO2 : Hid (∀ (B7 : Nat), ∀ y ∈ ([.int .u32 (sq : Nat), .slice (some ⟨B7, 0, none⟩) 1 1] : List Value), y.oneCell' = true) := Lib.hid (fun B7 y hy => by
                          rcases List.mem_cons.1 hy with rfl | hy
                          · rfl
                          · rw [List.mem_singleton.1 hy]; rfl)
                        rcases HOP.out with ⟨rfl, rfl, rfl⟩ | ⟨Zi, z, x0, xd, rfl, hrow, hdrow, rfl, hal⟩
                        · clear HOP
                          have HP1 : Hid ((0 + 1 + 1) / 2 ≤ maxLen) := Lib.hid (by unfold maxLen; omega)
                          have HP2 : Hid ((0 + 1 + 1) / 2 * 32 ≤ 140737488355328) := Lib.hid (by omega)
                          simp only [List.nil_append] at hv
                          have HRB := Lib.hid (Any.rd_start (hv.keep (List.sublist_append_left [(b17, #[.int .u32 (nx1 : Nat), .slice (some ⟨x9.1, 0, none⟩) n9 c9, (.slice none 0 0)]), (b3, #[.int .u32 (next : Nat), .slice ba bn bc, .slice pa pn pc])] ((b8, rowH g) :: (b6, #[.int .u32 0, .slice none 0 0, .slice none 0 0]) :: L))) (List.mem_append_right R4 HB9.out))
                          clear hkf hmf ho hm hk2 hk0 hr256 hne hsq
                          go_wp2_with (first
                            | ((with_reducible refine at_load (T := 4) ?_); refine wl_ldc rfl b8 (k) rfl _ (hv.vars.row (by first | exact .head _ | exact .tail _ (.head _) | exact .tail _ (.tail _ (.head _)) | exact .tail _ (.tail _ (.tail _ (.head _))) | exact .tail _ (.tail _ (.tail _ (.tail _ (.head _)))) | exact .tail _ (.tail _ (.tail _ (.tail _ (.tail _ (.head _))))) | exact .tail _ (.tail _ (.tail _ (.tail _ (.tail _ (.tail _ (.head _)))))) | exact .tail _ (.tail _ (.tail _ (.tail _ (.tail _ (.tail _ (.tail _ (.head _))))))))) _ Try.underlying4 rfl (.bool true) HAF.out ?_)
                            | ((with_reducible refine at_load (T := 4) ?_); refine wl_ldc rfl b8 (km) rfl _ (hv.vars.row (by first | exact .head _ | exact .tail _ (.head _) | exact .tail _ (.tail _ (.head _)) | exact .tail _ (.tail _ (.tail _ (.head _))) | exact .tail _ (.tail _ (.tail _ (.tail _ (.head _)))) | exact .tail _ (.tail _ (.tail _ (.tail _ (.tail _ (.head _))))) | exact .tail _ (.tail _ (.tail _ (.tail _ (.tail _ (.tail _ (.head _)))))) | exact .tail _ (.tail _ (.tail _ (.tail _ (.tail _ (.tail _ (.tail _ (.head _))))))))) _ Try.underlying4 rfl (.bool false) HMF.out ?_))
                          refine Any.wp_region_walk [⟨[], none⟩, ⟨[1000], none⟩, ⟨[], none⟩, ⟨[1001], none⟩, ⟨[], none⟩, ⟨[], none⟩, ⟨[], none⟩, ⟨[], none⟩, ⟨[], none⟩, ⟨[], none⟩, ⟨[], some 7⟩, ⟨[], none⟩, ⟨[], some 8⟩, ⟨[8], some 6⟩, ⟨[], none⟩, ⟨[1000], some 1000⟩] [.val, .val, .val, .val, .val, .val, .val, .val, .val, .val, .bsl 1 #[.int .u8 (v : Nat)], .pure, .laidBy (fun B => .slice (some ⟨B, 0, none⟩) 1 1), .env 8 (fun zs v x => AppRow v 2 zs.toList x), .val, .put] (by kernel_rfl) (by kernel_rfl) (hv.vars.keep (List.sublist_append_left [(b17, #[.int .u32 (nx1 : Nat), .slice (some ⟨x9.1, 0, none⟩) n9 c9, (.slice none 0 0)]), (b3, #[.int .u32 (next : Nat), .slice ba bn bc, .slice pa pn pc])] ((b8, rowH g) :: (b6, #[.int .u32 0, .slice none 0 0, .slice none 0 0]) :: L))) ?_
                          simp only [List.length_cons, List.length_nil, Nat.zero_add, Any.someVals]
                          iterate 16 apply Exists.intro
                          repeat (first
                            | (refine Any.E_off rfl ?_; simp only [Act.put, List.setIfInBounds_toArray, List.set_cons_succ, List.set_cons_zero])
                            | (apply Any.E_pureq rfl rfl rfl
                               case h => intro K hK; go_big_quiet_op; (refine hK _ ?_; rfl)
                               case hr => exact fun _ => rfl
                               simp only [Act.put, List.setIfInBounds_toArray, List.set_cons_succ, List.set_cons_zero])
                            | (apply Any.E_val rfl rfl rfl rfl
                               case h =>
                                 intro E' hA K hK
                                 first
                                   | ((with_reducible refine Any.at_qload (T := 24) ?_); refine Any.q_ldc 1000 hA (by decide) rfl rfl _ Try.underlying24 rfl _ rfl ?_; refine hK _ ?_; rfl)
                                   | ((with_reducible refine Any.at_qload (T := 22) ?_); refine Any.q_ldc 1001 hA (by decide) rfl rfl _ Try.underlying22 rfl _ rfl ?_; refine hK _ ?_; rfl)
                                   | ((with_reducible refine Any.at_qload (T := 5) ?_); refine Any.q_rd HRB.out k (by rw [Nat.zero_add]; rfl) _ Try.underlying5 rfl (.int .u8 (v : Nat)) HKV.out ?_; refine hK _ ?_; rfl)
                                   | (go_big_quiet_op; first
                                     | (refine hK _ ?_; rfl)
                                     | (refine ⟨_, fun _ _ => rfl, ?_⟩; refine hK _ ?_; rfl)
                                     | (apply Exists.intro; refine ⟨fun w1 hw1 => ?_, ?_⟩; · (first
                                         | fail)
                                        refine hK _ ?_; rfl))
                               case hD => rfl
                               simp only [Act.put, List.setIfInBounds_toArray, List.set_cons_succ, List.set_cons_zero])
                            | ((with_reducible refine Any.at_ealloc ?_); refine Any.E_lay rfl rfl rfl (fun _ => rfl) ?_; intro B; simp only [Act.put, List.setIfInBounds_toArray, List.set_cons_succ, List.set_cons_zero])
                            | ((with_reducible refine Any.at_ebsl ?_); refine Any.E_bsl (n := 1) (z := #[.int .u8 (v : Nat)]) (t := 5) rfl rfl rfl (fun w' => (by unfold execOp; go_simp)) ?_; intro B7; simp only [Act.put, List.setIfInBounds_toArray, List.set_cons_succ, List.set_cons_zero])
                            | ((with_reducible refine Any.at_ebuild (T := 45) ?_); refine Any.E_build rfl rfl rfl _ rfl (built_pc _ _ _ _) ?_; simp only [Act.put, List.setIfInBounds_toArray, List.set_cons_succ, List.set_cons_zero])
                            | ((with_reducible refine Any.at_eapp (t := 24) ?_); refine Any.E_appnilE (j := 8) rfl rfl rfl rfl rfl (by decide) rfl rfl rfl hB3 (List.cons_ne_nil _ _) (.agg #[.int .u32 0, .slice none 0 0]) 32 Try.underlying24 infoPcz rfl (by decide) (HO2.out _) HP1.out HP2.out ?_; intro v8 x8 hW8; obtain ⟨n8, c8, rfl, g8⟩ := id hW8; replace g8 := Lib.hid g8; replace hW8 := Lib.hid hW8; simp only [Act.put, List.setIfInBounds_toArray, List.set_cons_succ, List.set_cons_zero])
                            | ((with_reducible refine Any.at_estore (T := 24) ?_); refine Any.E_putc (T := 24) rfl rfl rfl rfl rfl rfl (by kernel_rfl) rfl (by simp) ?_; simp only [Act.put, List.setIfInBounds_toArray, List.set_cons_succ, List.set_cons_zero])
                            | ((with_reducible refine Any.at_ebsl ?_); refine Any.E_bslA (z := #[.int .u32 (sq : Nat), .slice (some ⟨B7, 0, none⟩) 1 1]) (t := 45) rfl rfl rfl (fun w' => (by unfold execOp; go_simp)) ?_; intro B8; simp only [Act.put, List.setIfInBounds_toArray, List.set_cons_succ, List.set_cons_zero]))
                          try any_goals exact undef
                          refine Any.E_nil ?_
                          intro w9 hE9
                          replace hv : Mem w0 w9 ([(b17, #[.int .u32 (nx1 : Nat), .slice (some ⟨x9.1, 0, none⟩) n9 c9, .slice (some ⟨x8.1, 0, none⟩) n8 c8]), x8, (B7, #[.int .u8 (v : Nat)]), (b3, #[.int .u32 (next : Nat), .slice ba bn bc, .slice pa pn pc])] ++ ((b8, rowH g) :: (b6, #[.int .u32 0, .slice none 0 0, .slice none 0 0]) :: L)) _ := hE9.memr hv [1000, 6, 7, 1001] (by decide)
                          clear hE9
                          simp only [List.cons_append, List.nil_append] at hv
                          go_wp2
                          have hkn := HKK.out
                          go_roundw
                          case rel => exact ⟨k + 1, _, [((k : Int), .slice (some ⟨B7, 0, none⟩) 1 1, [v])], [x8, (B7, #[.int .u8 (v : Nat)])], R4, by have := HNK2.out.1; omega, by omega, by go_num, hv, Lib.hid (.inr ⟨[], _, _, _, rfl, by
                            have h := hW8.out
                            rw [← HSQ2.out] at h
                            exact h, AppRow.one B7 _, rfl, fun p hp => (List.not_mem_nil hp).elim⟩), Lib.hid (by
                            have := HRI.out.step HOO.out
                            rw [runs_new HON.out HSO.out] at this
                            exact this), Lib.hid (by simp)⟩
                          case measure => simp [intOf]; omega
                        · obtain ⟨zx, zv, zd⟩ := z
                          clear HOP
                          have hrw2 := hrow
                          rw [cellsP_map_snoc] at hrw2
                          obtain ⟨⟨jc, rfl⟩, _, _⟩ := app_lastP hrw2
                          obtain ⟨M, hM⟩ : ∃ M, (Zi.map (pcOf next)).length + 1 = M := ⟨_, rfl⟩
                          rw [hM] at hv hrow
                          obtain ⟨dl, dcp, rfl, _⟩ := id hdrow
                          have HPR := Lib.hid hrow
                          have HDR := Lib.hid hdrow
                          have HAL := Lib.hid hal
                          have hzl := HZK.out
                          have hpl : (cellsP ((Zi ++ [((zx, .slice (some ⟨xd.1, 0, none⟩) dl dcp, zd) : SpV)]).map (pcOf next))).length = (Zi.length + 1) * 2 := by rw [cellsP_len, List.length_map, List.length_append, List.length_singleton]
                          rw [List.length_append, List.length_singleton] at hzl
                          have HP1 : Hid (((cellsP ((Zi ++ [((zx, .slice (some ⟨xd.1, 0, none⟩) dl dcp, zd) : SpV)]).map (pcOf next))).length + (0 + 1 + 1)) / 2 ≤ maxLen) := Lib.hid (by rw [hpl]; unfold maxLen; omega)
                          have HP2 : Hid (((cellsP ((Zi ++ [((zx, .slice (some ⟨xd.1, 0, none⟩) dl dcp, zd) : SpV)]).map (pcOf next))).length + (0 + 1 + 1)) / 2 * 32 ≤ 140737488355328) := Lib.hid (by rw [hpl]; omega)
                          simp only [List.cons_append, List.nil_append] at hv
                          have HRB := Lib.hid (Any.rd_start (hv.keep (List.sublist_append_left [(b17, #[.int .u32 (nx1 : Nat), .slice (some ⟨x9.1, 0, none⟩) n9 c9, (.slice (some ⟨x0.1, 0, none⟩) M jc)]), x0, xd, (b3, #[.int .u32 (next : Nat), .slice ba bn bc, .slice pa pn pc])] ((b8, rowH g) :: (b6, #[.int .u32 0, .slice none 0 0, .slice none 0 0]) :: L))) (List.mem_append_right R4 HB9.out))
                          clear hkf hmf ho hm hk2 hk0 hr256 hne hsq hrw2 hM hrow hdrow hal hzl hpl
                          go_wp2_with (first
                            | ((with_reducible refine at_load (T := 4) ?_); refine wl_ldc rfl b8 (k) rfl _ (hv.vars.row (by first | exact .head _ | exact .tail _ (.head _) | exact .tail _ (.tail _ (.head _)) | exact .tail _ (.tail _ (.tail _ (.head _))) | exact .tail _ (.tail _ (.tail _ (.tail _ (.head _)))) | exact .tail _ (.tail _ (.tail _ (.tail _ (.tail _ (.head _))))) | exact .tail _ (.tail _ (.tail _ (.tail _ (.tail _ (.tail _ (.head _)))))) | exact .tail _ (.tail _ (.tail _ (.tail _ (.tail _ (.tail _ (.tail _ (.head _))))))))) _ Try.underlying4 rfl (.bool true) HAF.out ?_)
                            | ((with_reducible refine at_load (T := 4) ?_); refine wl_ldc rfl b8 (km) rfl _ (hv.vars.row (by first | exact .head _ | exact .tail _ (.head _) | exact .tail _ (.tail _ (.head _)) | exact .tail _ (.tail _ (.tail _ (.head _))) | exact .tail _ (.tail _ (.tail _ (.tail _ (.head _)))) | exact .tail _ (.tail _ (.tail _ (.tail _ (.tail _ (.head _))))) | exact .tail _ (.tail _ (.tail _ (.tail _ (.tail _ (.tail _ (.head _)))))) | exact .tail _ (.tail _ (.tail _ (.tail _ (.tail _ (.tail _ (.tail _ (.head _))))))))) _ Try.underlying4 rfl (.bool false) HMF.out ?_))
                          refine Any.wp_region_walk [⟨[], none⟩, ⟨[1000], none⟩, ⟨[], none⟩, ⟨[1003], none⟩, ⟨[], none⟩, ⟨[], none⟩, ⟨[], none⟩, ⟨[], none⟩, ⟨[], none⟩, ⟨[], none⟩, ⟨[], some 7⟩, ⟨[], none⟩, ⟨[], some 8⟩, ⟨[8], some 1001⟩, ⟨[], none⟩, ⟨[1000], some 1000⟩] [.val, .val, .val, .val, .val, .val, .val, .val, .val, .val, .bsl 1 #[.int .u8 (v : Nat)], .pure, .laidBy (fun B => .slice (some ⟨B, 0, none⟩) 1 1), .env 8 (fun zs v x => AppRow v 2 (cellsP ((Zi ++ [((zx, .slice (some ⟨xd.1, 0, none⟩) dl dcp, zd) : SpV)]).map (pcOf next)) ++ zs.toList) x), .val, .put] (by kernel_rfl) (by kernel_rfl) (hv.vars.keep (List.sublist_append_left [(b17, #[.int .u32 (nx1 : Nat), .slice (some ⟨x9.1, 0, none⟩) n9 c9, (.slice (some ⟨x0.1, 0, none⟩) M jc)]), x0, xd, (b3, #[.int .u32 (next : Nat), .slice ba bn bc, .slice pa pn pc])] ((b8, rowH g) :: (b6, #[.int .u32 0, .slice none 0 0, .slice none 0 0]) :: L))) ?_
                          simp only [List.length_cons, List.length_nil, Nat.zero_add, Any.someVals]
                          iterate 16 apply Exists.intro
                          repeat (first
                            | (refine Any.E_off rfl ?_; simp only [Act.put, List.setIfInBounds_toArray, List.set_cons_succ, List.set_cons_zero])
                            | (apply Any.E_pureq rfl rfl rfl
                               case h => intro K hK; go_big_quiet_op; (refine hK _ ?_; rfl)
                               case hr => exact fun _ => rfl
                               simp only [Act.put, List.setIfInBounds_toArray, List.set_cons_succ, List.set_cons_zero])
                            | (apply Any.E_val rfl rfl rfl rfl
                               case h =>
                                 intro E' hA K hK
                                 first
                                   | ((with_reducible refine Any.at_qload (T := 24) ?_); refine Any.q_ldc 1000 hA (by decide) rfl rfl _ Try.underlying24 rfl _ rfl ?_; refine hK _ ?_; rfl)
                                   | ((with_reducible refine Any.at_qload (T := 22) ?_); refine Any.q_ldc 1003 hA (by decide) rfl rfl _ Try.underlying22 rfl _ rfl ?_; refine hK _ ?_; rfl)
                                   | ((with_reducible refine Any.at_qload (T := 5) ?_); refine Any.q_rd HRB.out k (by rw [Nat.zero_add]; rfl) _ Try.underlying5 rfl (.int .u8 (v : Nat)) HKV.out ?_; refine hK _ ?_; rfl)
                                   | (go_big_quiet_op; first
                                     | (refine hK _ ?_; rfl)
                                     | (refine ⟨_, fun _ _ => rfl, ?_⟩; refine hK _ ?_; rfl)
                                     | (apply Exists.intro; refine ⟨fun w1 hw1 => ?_, ?_⟩; · (first
                                         | fail)
                                        refine hK _ ?_; rfl))
                               case hD => rfl
                               simp only [Act.put, List.setIfInBounds_toArray, List.set_cons_succ, List.set_cons_zero])
                            | ((with_reducible refine Any.at_ealloc ?_); refine Any.E_lay rfl rfl rfl (fun _ => rfl) ?_; intro B; simp only [Act.put, List.setIfInBounds_toArray, List.set_cons_succ, List.set_cons_zero])
                            | ((with_reducible refine Any.at_ebsl ?_); refine Any.E_bsl (n := 1) (z := #[.int .u8 (v : Nat)]) (t := 5) rfl rfl rfl (fun w' => (by unfold execOp; go_simp)) ?_; intro B7; simp only [Act.put, List.setIfInBounds_toArray, List.set_cons_succ, List.set_cons_zero])
                            | ((with_reducible refine Any.at_ebuild (T := 45) ?_); refine Any.E_build rfl rfl rfl _ rfl (built_pc _ _ _ _) ?_; simp only [Act.put, List.setIfInBounds_toArray, List.set_cons_succ, List.set_cons_zero])
                            | ((with_reducible refine Any.at_eapp (t := 24) ?_); refine Any.E_appE (j := 8) rfl rfl rfl rfl rfl HPR.out rfl (by decide) rfl rfl rfl hB3 (.agg #[.int .u32 0, .slice none 0 0]) 32 Try.underlying24 infoPcz rfl (by decide) (HO2.out _) HP1.out HP2.out ?_; intro v8 x8 hW8; obtain ⟨n8, c8, rfl, g8⟩ := id hW8; replace g8 := Lib.hid g8; replace hW8 := Lib.hid hW8; simp only [Act.put, List.setIfInBounds_toArray, List.set_cons_succ, List.set_cons_zero])
                            | ((with_reducible refine Any.at_estore (T := 24) ?_); refine Any.E_putc (T := 24) rfl rfl rfl rfl rfl rfl (by kernel_rfl) rfl (by simp) ?_; simp only [Act.put, List.setIfInBounds_toArray, List.set_cons_succ, List.set_cons_zero])
                            | ((with_reducible refine Any.at_ebsl ?_); refine Any.E_bslA (z := #[.int .u32 (sq : Nat), .slice (some ⟨B7, 0, none⟩) 1 1]) (t := 45) rfl rfl rfl (fun w' => (by unfold execOp; go_simp)) ?_; intro B8; simp only [Act.put, List.setIfInBounds_toArray, List.set_cons_succ, List.set_cons_zero]))
                          try any_goals exact undef
                          refine Any.E_nil ?_
                          intro w9 hE9
                          replace hv : Mem w0 w9 ([(b17, #[.int .u32 (nx1 : Nat), .slice (some ⟨x9.1, 0, none⟩) n9 c9, .slice (some ⟨x8.1, 0, none⟩) n8 c8]), x8, (B7, #[.int .u8 (v : Nat)]), xd, (b3, #[.int .u32 (next : Nat), .slice ba bn bc, .slice pa pn pc])] ++ ((b8, rowH g) :: (b6, #[.int .u32 0, .slice none 0 0, .slice none 0 0]) :: L)) _ := hE9.memr hv [1000, 1001, 7, 1002, 1003] (by decide)
                          clear hE9
                          simp only [List.cons_append, List.nil_append] at hv
                          go_wp2
                          replace hv := Mem.yield (L1 := [_, _, _]) hv HDR.out
                          simp only [List.cons_append, List.nil_append] at hv
                          have hkn := HKK.out
                          go_roundw
                          case rel => exact ⟨k + 1, _, (Zi ++ [((zx, .slice (some ⟨xd.1, 0, none⟩) dl dcp, zd) : SpV)]) ++ [((k : Int), .slice (some ⟨B7, 0, none⟩) 1 1, [v])], [x8, (B7, #[.int .u8 (v : Nat)])], (1, Value.slice (some ⟨xd.1, 0, none⟩) dl dcp, cellsB zd) :: R4, by have := HNK2.out.1; omega, by omega, by go_num, hv, Lib.hid (.inr ⟨_, _, _, _, rfl, by
                            have h := hW8.out
                            rw [← HSQ2.out] at h
                            rw [cellsP_map_snoc next (Zi ++ [((zx, .slice (some ⟨xd.1, 0, none⟩) dl dcp, zd) : SpV)]), cellsP_snoc]
                            exact h, AppRow.one B7 _, rfl, fun p hp => by
                              rcases List.mem_append.1 hp with hp | hp
                              · exact Mem.s (HAL.out p hp)
                              · rw [List.mem_singleton.1 hp]; exact Mem.z⟩), Lib.hid (by
                            have := HRI.out.step HOO.out
                            rw [runs_new HON.out HSO.out] at this
                            rw [spOf_ap]
                            exact this), Lib.hid (by have := HZK.out; rw [List.length_append, List.length_singleton]; omega)⟩
                          case measure => simp [intOf]; omega
                  · have hki : ¬ (k : Int) < (r : Int) := by omega
                    obtain rfl : k = r := by omega
                    have HVL := HVB.out.1
                    have htk : Took G bl (spOf Z) := took_of_runs (r := k) HGO.out (fun j hj => HVB.out.2 j (by omega)) (by rw [HVL]; exact HOO.out) (by rw [HVL]; exact HRI.out)
                    have HTK2 := Lib.hid htk
                    have hpv : ∃ pa' pn' pc', pv = .slice pa' pn' pc' := by
                      rcases HOP.out with ⟨_, rfl, _⟩ | ⟨_, _, x0, _, _, hrow, _, _, _⟩
                      · exact ⟨_, _, _, rfl⟩
                      · obtain ⟨_, _, rfl, _⟩ := hrow
                        exact ⟨_, _, _, rfl⟩
                    obtain ⟨pa', pn', pc', rfl⟩ := hpv
                    have HVL2 := Lib.hid HVL
                    clear htk HVL
                    replace hv := hv.perm (perm_z _ _ (b6, #[.int .u32 0, .slice none 0 0, .slice none 0 0]) (b3, #[.int .u32 (next : Nat), .slice ba bn bc, .slice pa pn pc]) (b8, rowH g) L)
                    go_wp2_with (first
                      | ((with_reducible refine at_load (T := 26) ?_); refine wl_ldv rfl b17 rfl _ (hv.vars.row (by first | exact .head _ | exact .tail _ (.head _) | exact .tail _ (.tail _ (.head _)) | exact .tail _ (.tail _ (.tail _ (.head _))) | exact .tail _ (.tail _ (.tail _ (.tail _ (.head _)))) | exact .tail _ (.tail _ (.tail _ (.tail _ (.tail _ (.head _))))) | exact .tail _ (.tail _ (.tail _ (.tail _ (.tail _ (.tail _ (.head _)))))) | exact .tail _ (.tail _ (.tail _ (.tail _ (.tail _ (.tail _ (.tail _ (.head _))))))))) 3 _ Try.underlying26 rfl infoStr (by decide) rfl ?_)
                      | ((with_reducible refine at_store (T := 26) ?_); refine wl_stv rfl b6 rfl _ rfl _ (hv.vars.row (by first | exact .head _ | exact .tail _ (.head _) | exact .tail _ (.tail _ (.head _)) | exact .tail _ (.tail _ (.tail _ (.head _))) | exact .tail _ (.tail _ (.tail _ (.tail _ (.head _)))) | exact .tail _ (.tail _ (.tail _ (.tail _ (.tail _ (.head _))))) | exact .tail _ (.tail _ (.tail _ (.tail _ (.tail _ (.tail _ (.head _)))))) | exact .tail _ (.tail _ (.tail _ (.tail _ (.tail _ (.tail _ (.tail _ (.head _))))))))) (hv.vars.sft (by first | exact .head _ | exact .tail _ (.head _) | exact .tail _ (.tail _ (.head _)) | exact .tail _ (.tail _ (.tail _ (.head _))) | exact .tail _ (.tail _ (.tail _ (.tail _ (.head _)))) | exact .tail _ (.tail _ (.tail _ (.tail _ (.tail _ (.head _))))) | exact .tail _ (.tail _ (.tail _ (.tail _ (.tail _ (.tail _ (.head _)))))) | exact .tail _ (.tail _ (.tail _ (.tail _ (.tail _ (.tail _ (.tail _ (.head _))))))))) 3 infoStr rfl rfl (by simp [Value.oneCell']) ?_; intro w2 hw2; (first | (replace hv := hv.set 0 rfl hw2) | (replace hv := hv.set 1 rfl hw2) | (replace hv := hv.set 2 rfl hw2) | (replace hv := hv.set 3 rfl hw2)); clear hw2; simp only [List.set] at hv))
                    refine ret_cell2 Try.results13 rfl (read_row _ b6 26 _ (hv.vars.row (by first | exact .head _ | exact .tail _ (.head _) | exact .tail _ (.tail _ (.head _)) | exact .tail _ (.tail _ (.tail _ (.head _))) | exact .tail _ (.tail _ (.tail _ (.tail _ (.head _)))) | exact .tail _ (.tail _ (.tail _ (.tail _ (.tail _ (.head _))))) | exact .tail _ (.tail _ (.tail _ (.tail _ (.tail _ (.tail _ (.head _)))))) | exact .tail _ (.tail _ (.tail _ (.tail _ (.tail _ (.tail _ (.tail _ (.head _))))))))) 3 _ Try.underlying26 rfl infoStr (by decide) rfl) rfl rfl ?_
                    obtain ⟨R5, hv6, hm1, hm2, hm4⟩ := out_fin hv.drop.drop.drop.drop (A := [_, _, _]) HR3.out HOP.out
                    have hm3 := hm4 (1, Value.slice (some ⟨x9.1, 0, none⟩) n9 c9, cellsB (bs ++ bl)) (List.mem_append_right _ (by rw [← HR3.out]; exact Mem.z))
                    rw [← HGG.out] at HTK2
                    refine ⟨nx1, _, n9, c9, pa', pn', pc', Z.map (pcOf next), R5, bl, spOf Z, by rw [HVL2.out]; rfl, hv6, ⟨hm3, hm1, hm2, ?_⟩, HTK2.out⟩
                    unfold stOf outS
                    simp only [List.map_map]
                    rw [HVL2.out, HNX1.out]
                    congr 1
                    unfold spOf
                    rw [List.map_map]
                    rfl
            · have hnn : ¬ (n : Int) < (r : Int) := by omega
              have HOO : Hid (G n = none) := Lib.hid (HGO.out n (by omega))
              have HN0 := Lib.hid hn0
              clear hn2 hn0
              go_wp2
              have hnr := HN0.out
              have hr256 := HR.out.1
              have HN256 : Hid (n ≤ 256) := Lib.hid (by omega)
              obtain ⟨bl, hbl⟩ : ∃ bl, valsB g n = bl := ⟨_, rfl⟩
              have hvb := valsB_get HGF.out (show n ≤ 256 by omega) HGN.out
              rw [hbl] at hvb
              have HVB := Lib.hid hvb
              obtain ⟨nx1, hnx1⟩ : ∃ nx1, (next + n) % 4294967296 = nx1 := ⟨_, rfl⟩
              have HNX1 := Lib.hid hnx1
              have e1 : IntKind.u32.wrap (n : Int) = (n : Int) := u32_nat (by omega)
              have e2 : IntKind.u32.wrap ((next : Int) + (n : Int)) = (nx1 : Int) := by rw [u32_add, hnx1]
              replace hv := Mem.yield (L1 := []) hv (AppRow.arr b9 (rowB g) (by rw [rowB_size, HGF.out.1]))
              simp only [List.nil_append] at hv
              replace hv := hv.sliced Mem.z (l := 0) (h := n) (m := 256) (Nat.zero_le _) (by omega) (by omega) (Nat.le_refl _)
              rw [show sliced (some ⟨b9, 0, none⟩) 0 n 256 1 = .slice (some ⟨b9, 0, none⟩) n 256 from by unfold sliced; rw [if_neg (by omega)]; rfl, show (((rowB g).toList.drop (0 * 1)).take ((n - 0) * 1)) = cellsB bl from by rw [← hbl, valsB_cells]; simp] at hv
              replace hv := hv.perm (perm_b2 _ _ _ L)
              have HE1 := Lib.hid (Any.rd_start (hv.keep (List.sublist_append_left [(b3, #[.int .u32 (next : Nat), .slice ba bn bc, .slice pa pn pc])] ((b8, rowH g) :: (b6, #[.int .u32 0, .slice none 0 0, .slice none 0 0]) :: L))) (Mem.s (Mem.s HBM.out)))
              have HE2 := Lib.hid (Any.rd_start (hv.keep (List.sublist_append_left [(b3, #[.int .u32 (next : Nat), .slice ba bn bc, .slice pa pn pc])] ((b8, rowH g) :: (b6, #[.int .u32 0, .slice none 0 0, .slice none 0 0]) :: L))) Mem.z)
              have hb1 := HR.out.2.1
              have hb2 := HR.out.2.2
              have HF1 : Hid ((([] : List Value).length + (cellsB bs).length) / 1 ≤ maxLen) := Lib.hid (by rw [cellsB_len, List.length_nil]; unfold maxLen; omega)
              have HF2 : Hid ((([] : List Value).length + (cellsB bs).length) / 1 * 1 ≤ 140737488355328) := Lib.hid (by rw [cellsB_len, List.length_nil]; omega)
              have HH1 : Hid (((([] : List Value) ++ cellsB bs).length + (cellsB bl).length) / 1 ≤ maxLen) := Lib.hid (by have := HVB.out.1; rw [List.nil_append, cellsB_len, cellsB_len]; unfold maxLen; omega)
              have HH2 : Hid (((([] : List Value) ++ cellsB bs).length + (cellsB bl).length) / 1 * 1 ≤ 140737488355328) := Lib.hid (by have := HVB.out.1; rw [List.nil_append, cellsB_len, cellsB_len]; omega)
              clear hnr hr256 hbl hvb hnx1 hb1 hb2
              refine Any.wp_region_walk [⟨[], none⟩, ⟨[1000], none⟩, ⟨[], none⟩, ⟨[], none⟩, ⟨[], none⟩, ⟨[], some 6⟩, ⟨[], none⟩, ⟨[1000], none⟩, ⟨[], some 6⟩, ⟨[], none⟩, ⟨[], none⟩, ⟨[], some 6⟩, ⟨[], none⟩, ⟨[], some 5⟩, ⟨[5], some 5⟩] [.val, .val, .val, .val, .val, .bsl 0 #[], .val, .val, .own (AppRow · 1 ([] ++ cellsB bs)), .val, .val, .own (AppRow · 1 ([] ++ cellsB bs ++ cellsB bl)), .pure, .lay #[.int .u32 0, .slice none 0 0, .slice none 0 0], .put] (by kernel_rfl) (by kernel_rfl) (hv.vars.keep (List.sublist_append_left [(b3, #[.int .u32 (next : Nat), .slice ba bn bc, .slice pa pn pc])] ((b8, rowH g) :: (b6, #[.int .u32 0, .slice none 0 0, .slice none 0 0]) :: L))) ?_
              simp only [List.length_cons, List.length_nil, Nat.zero_add, Any.someVals]
              iterate 15 apply Exists.intro
              repeat (first
                | (refine Any.E_off rfl ?_; simp only [Act.put, List.setIfInBounds_toArray, List.set_cons_succ, List.set_cons_zero])
                | (apply Any.E_pureq rfl rfl rfl
                   case h => intro K hK; go_big_quiet_op; (refine hK _ ?_; rfl)
                   case hr => exact fun _ => rfl
                   simp only [Act.put, List.setIfInBounds_toArray, List.set_cons_succ, List.set_cons_zero])
                | (apply Any.E_val rfl rfl rfl rfl
                   case h =>
                     intro E' hA K hK
                     first
                       | ((with_reducible refine Any.at_qload (T := 22) ?_); refine Any.q_ldc 1000 hA (by decide) rfl rfl _ Try.underlying22 rfl _ rfl ?_; refine hK _ ?_; rfl)
                       | ((with_reducible refine Any.at_qload (T := 23) ?_); refine Any.q_ldc 1000 hA (by decide) rfl rfl _ Try.underlying23 rfl _ rfl ?_; refine hK _ ?_; rfl)
                       | ((with_reducible refine Any.at_qslice (T := 58) ?_); refine Any.q_slicearr (N := 256) (n := n) rfl Try.underlying58 infoB1 rfl HN256.out (by omega) ?_; refine hK _ ?_; rfl)
                       | (go_big_quiet_op; first
                         | (refine hK _ ?_; rfl)
                         | (refine ⟨_, fun _ _ => rfl, ?_⟩; refine hK _ ?_; rfl)
                         | (apply Exists.intro; refine ⟨fun w1 hw1 => ?_, ?_⟩; · (first
                             | fail)
                            refine hK _ ?_; rfl))
                   case hD => rfl
                   simp only [Act.put, List.setIfInBounds_toArray, List.set_cons_succ, List.set_cons_zero])
                | ((with_reducible refine Any.at_ealloc ?_); refine Any.E_lay rfl rfl rfl (fun _ => rfl) ?_; intro b17; simp only [Act.put, List.setIfInBounds_toArray, List.set_cons_succ, List.set_cons_zero])
                | ((with_reducible refine Any.at_eapp (t := 23) ?_); refine Any.E_appR rfl rfl rfl rfl rfl (AppRow.nul Bz) rfl HE1.out (.int .u8 0) 1 Try.underlying23 info8z rfl (by decide) (cellsB_one _) HF1.out HF2.out ?_; intro v8 x8 hW8; obtain ⟨n8, c8, rfl, g8⟩ := id hW8; replace g8 := Lib.hid g8; replace hW8 := Lib.hid hW8; simp only [Act.put, List.setIfInBounds_toArray, List.set_cons_succ, List.set_cons_zero])
                | ((with_reducible refine Any.at_eapp (t := 23) ?_); refine Any.E_appR rfl rfl rfl rfl rfl hW8.out rfl HE2.out (.int .u8 0) 1 Try.underlying23 info8z rfl (by decide) (cellsB_one _) HH1.out HH2.out ?_; intro v9 x9 hW9; obtain ⟨n9, c9, rfl, g9⟩ := id hW9; replace g9 := Lib.hid g9; replace hW9 := Lib.hid hW9; simp only [Act.put, List.setIfInBounds_toArray, List.set_cons_succ, List.set_cons_zero])
                | ((with_reducible refine Any.at_ebsl ?_); refine Any.E_bsl (n := 0) (z := #[]) (t := 5) rfl rfl rfl (fun w' => (by unfold execOp; go_simp)) ?_; intro Bz; simp only [Act.put, List.setIfInBounds_toArray, List.set_cons_succ, List.set_cons_zero])
                | ((with_reducible refine Any.at_ebuild (T := 26) ?_); refine Any.E_build rfl rfl rfl _ rfl (built_str _ _ _ _) ?_; simp only [Act.put, List.setIfInBounds_toArray, List.set_cons_succ, List.set_cons_zero])
                | ((with_reducible refine Any.at_estore (T := 26) ?_); refine Any.E_putv (T := 26) rfl rfl rfl rfl rfl rfl 3 infoStr rfl rfl (by simp [Value.oneCell']) ?_; simp only [Act.put, List.setIfInBounds_toArray, List.set_cons_succ, List.set_cons_zero]))
              try any_goals exact undef
              refine Any.E_nil ?_
              intro w9 hE9
              replace hv : Mem w0 w9 ([(b17, #[.int .u32 (nx1 : Nat), .slice (some ⟨x9.1, 0, none⟩) n9 c9, .slice none 0 0]), x9, (b3, #[.int .u32 (next : Nat), .slice ba bn bc, .slice pa pn pc])] ++ ((b8, rowH g) :: (b6, #[.int .u32 0, .slice none 0 0, .slice none 0 0]) :: L)) _ := hE9.memr hv [5, 6, 1000] (by decide)
              clear hE9
              simp only [List.cons_append, List.nil_append] at hv
              replace hv := Mem.yield (L1 := [_]) hv hW9.out
              rw [show ([] : List Value) ++ cellsB bs ++ cellsB bl = cellsB (bs ++ bl) from by rw [List.nil_append, cellsB_app]] at hv
              simp only [List.cons_append, List.nil_append] at hv
              obtain ⟨R3, hR3⟩ : ∃ R3 : List (Nat × Value × List Value), (1, Value.slice (some ⟨x9.1, 0, none⟩) n9 c9, cellsB (bs ++ bl)) :: (1, Value.slice (some ⟨b9, 0, none⟩) n 256, cellsB bl) :: (1, Value.slice (some ⟨b9, 0, none⟩) 256 256, (rowB g).toList) :: R = R3 := ⟨_, rfl⟩
              rw [hR3] at hv
              have HR3 := Lib.hid hR3
              have HB9 : Hid ((1, Value.slice (some ⟨b9, 0, none⟩) 256 256, (rowB g).toList) ∈ R3) := Lib.hid (by rw [← hR3]; exact Mem.s (Mem.s Mem.z))
              clear hR3
              go_wp2
              go_loopw [18] (fun kv wr => ∃ (k : Nat) (pv : Value) (Z : List SpV) (O2 : List (Nat × Array Value)) (R4 : List (Nat × Value × List Value)), n ≤ k ∧ k ≤ r ∧ kv = .int .i64 (k : Nat) ∧ Mem w0 wr ((b17, #[.int .u32 (nx1 : Nat), .slice (some ⟨x9.1, 0, none⟩) n9 c9, pv]) :: (O2 ++ ((b3, #[.int .u32 (next : Nat), .slice ba bn bc, .slice pa pn pc]) :: ((b8, rowH g) :: (b6, #[.int .u32 0, .slice none 0 0, .slice none 0 0]) :: L)))) (R4 ++ R3) ∧ Hid (OutP next (R4 ++ R3) pv Z O2) ∧ Hid (RunInv G n k (spOf Z)) ∧ Hid (Z.length ≤ k)) (fun kv _ => r - (intOf kv).toNat)
              case atStart => exact ⟨n, .slice none 0 0, [], [], [], Nat.le_refl _, HN0.out, rfl, hv, Lib.hid (.inl ⟨rfl, rfl, rfl⟩), Lib.hid (RunInv.start G n), Lib.hid (Nat.zero_le _)⟩
              case round =>
                clear hv
                obtain ⟨k, pv, Z, O2, R4, hnk, hk0, rfl, hv, HOP, HRI, HZK⟩ := hrel
                by_cases hk2 : k < r
                · exfalso
                  omega
                · have hki : ¬ (k : Int) < (r : Int) := by omega
                  obtain rfl : k = r := by omega
                  have HVL := HVB.out.1
                  have htk : Took G bl (spOf Z) := took_of_runs (r := k) HGO.out (fun j hj => HVB.out.2 j (by omega)) (by rw [HVL]; exact HOO.out) (by rw [HVL]; exact HRI.out)
                  have HTK2 := Lib.hid htk
                  have hpv : ∃ pa' pn' pc', pv = .slice pa' pn' pc' := by
                    rcases HOP.out with ⟨_, rfl, _⟩ | ⟨_, _, x0, _, _, hrow, _, _, _⟩
                    · exact ⟨_, _, _, rfl⟩
                    · obtain ⟨_, _, rfl, _⟩ := hrow
                      exact ⟨_, _, _, rfl⟩
                  obtain ⟨pa', pn', pc', rfl⟩ := hpv
                  have HVL2 := Lib.hid HVL
                  clear htk HVL
                  replace hv := hv.perm (perm_z _ _ (b6, #[.int .u32 0, .slice none 0 0, .slice none 0 0]) (b3, #[.int .u32 (next : Nat), .slice ba bn bc, .slice pa pn pc]) (b8, rowH g) L)
                  go_wp2_with (first
                    | ((with_reducible refine at_load (T := 26) ?_); refine wl_ldv rfl b17 rfl _ (hv.vars.row (by first | exact .head _ | exact .tail _ (.head _) | exact .tail _ (.tail _ (.head _)) | exact .tail _ (.tail _ (.tail _ (.head _))) | exact .tail _ (.tail _ (.tail _ (.tail _ (.head _)))) | exact .tail _ (.tail _ (.tail _ (.tail _ (.tail _ (.head _))))) | exact .tail _ (.tail _ (.tail _ (.tail _ (.tail _ (.tail _ (.head _)))))) | exact .tail _ (.tail _ (.tail _ (.tail _ (.tail _ (.tail _ (.tail _ (.head _))))))))) 3 _ Try.underlying26 rfl infoStr (by decide) rfl ?_)
                    | ((with_reducible refine at_store (T := 26) ?_); refine wl_stv rfl b6 rfl _ rfl _ (hv.vars.row (by first | exact .head _ | exact .tail _ (.head _) | exact .tail _ (.tail _ (.head _)) | exact .tail _ (.tail _ (.tail _ (.head _))) | exact .tail _ (.tail _ (.tail _ (.tail _ (.head _)))) | exact .tail _ (.tail _ (.tail _ (.tail _ (.tail _ (.head _))))) | exact .tail _ (.tail _ (.tail _ (.tail _ (.tail _ (.tail _ (.head _)))))) | exact .tail _ (.tail _ (.tail _ (.tail _ (.tail _ (.tail _ (.tail _ (.head _))))))))) (hv.vars.sft (by first | exact .head _ | exact .tail _ (.head _) | exact .tail _ (.tail _ (.head _)) | exact .tail _ (.tail _ (.tail _ (.head _))) | exact .tail _ (.tail _ (.tail _ (.tail _ (.head _)))) | exact .tail _ (.tail _ (.tail _ (.tail _ (.tail _ (.head _))))) | exact .tail _ (.tail _ (.tail _ (.tail _ (.tail _ (.tail _ (.head _)))))) | exact .tail _ (.tail _ (.tail _ (.tail _ (.tail _ (.tail _ (.tail _ (.head _))))))))) 3 infoStr rfl rfl (by simp [Value.oneCell']) ?_; intro w2 hw2; (first | (replace hv := hv.set 0 rfl hw2) | (replace hv := hv.set 1 rfl hw2) | (replace hv := hv.set 2 rfl hw2) | (replace hv := hv.set 3 rfl hw2)); clear hw2; simp only [List.set] at hv))
                  refine ret_cell2 Try.results13 rfl (read_row _ b6 26 _ (hv.vars.row (by first | exact .head _ | exact .tail _ (.head _) | exact .tail _ (.tail _ (.head _)) | exact .tail _ (.tail _ (.tail _ (.head _))) | exact .tail _ (.tail _ (.tail _ (.tail _ (.head _)))) | exact .tail _ (.tail _ (.tail _ (.tail _ (.tail _ (.head _))))) | exact .tail _ (.tail _ (.tail _ (.tail _ (.tail _ (.tail _ (.head _)))))) | exact .tail _ (.tail _ (.tail _ (.tail _ (.tail _ (.tail _ (.tail _ (.head _))))))))) 3 _ Try.underlying26 rfl infoStr (by decide) rfl) rfl rfl ?_
                  obtain ⟨R5, hv6, hm1, hm2, hm4⟩ := out_fin hv.drop.drop.drop.drop (A := [_, _, _]) HR3.out HOP.out
                  have hm3 := hm4 (1, Value.slice (some ⟨x9.1, 0, none⟩) n9 c9, cellsB (bs ++ bl)) (List.mem_append_right _ (by rw [← HR3.out]; exact Mem.z))
                  rw [← HGG.out] at HTK2
                  refine ⟨nx1, _, n9, c9, pa', pn', pc', Z.map (pcOf next), R5, bl, spOf Z, by rw [HVL2.out]; rfl, hv6, ⟨hm3, hm1, hm2, ?_⟩, HTK2.out⟩
                  unfold stOf outS
                  simp only [List.map_map]
                  rw [HVL2.out, HNX1.out]
                  congr 1
                  unfold spOf
                  rw [List.map_map]
                  rfl
end Go.Proofs.Ytpbeemgigpaacaa
