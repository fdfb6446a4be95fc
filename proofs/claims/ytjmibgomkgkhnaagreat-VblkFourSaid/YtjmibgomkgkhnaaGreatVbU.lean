import Derived.Test.YtjmibgomkgkhnaaGreatQuRV
import Derived.Test.YtjmibgomkgkhnaaGreatQuNx
import Derived.Test.YtjmibgomkgkhnaaGreatBnp
import Derived.Test.YtjmibgomkgkhnaaGreatQuAd
import Derived.Test.YtjmibgomkgkhnaaGreatQuBk
import Derived.Shelf.Spec.SlicesGrow
set_option linter.unusedSimpArgs false
set_option linter.unusedVariables false
set_option maxRecDepth 100000
set_option maxHeartbeats 4000000
section
/-
 A disk (layer 5): what may be, what is written.
-/
namespace Go.Proofs.Qu
open Go Go.RowKit Go.Proofs.Nm
abbrev Wr := Nat × Value × List Nat
def encW (c : Wr) : List Value := [.int .i64 (c.1 : Nat), c.2.1]
def cellsW (cs : List Wr) : List Value := cs.flatMap encW
theorem cellsW_len (l : List Wr) : (cellsW l).length = l.length * 2 := len_flat (en := encW) (fun _ => rfl) l
theorem cellsW_part (l : List Wr) {k : Nat} (hk : k < l.length) : ((cellsW l).drop (k * 2)).take 2 = [.int .i64 ((l[k]'hk).1 : Nat), (l[k]'hk).2.1] := part_flat (k := 2) (en := encW) (fun _ => rfl) l k hk
theorem cellsW_snoc (l : List Wr) (c : Wr) : cellsW (l ++ [c]) = cellsW l ++ encW c := by unfold cellsW; simp
structure DiskQ (R : List (Nat × Value × List Value)) (sv cv : Value) (ss : List (Value × List Nat)) (cs : List Wr) : Prop where
 s : (1, sv, ss.map (·.1)) ∈ R
 c : (2, cv, cellsW cs) ∈ R
 sd : ∀ x ∈ ss, (1, x.1, cellsB x.2) ∈ R ∧ x.2.length = 256 ∧ goodB x.2
 cd : ∀ x ∈ cs, x.1 < ss.length ∧ (1, x.2.1, cellsB x.2.2) ∈ R ∧ x.2.2.length = 256 ∧ goodB x.2.2
 sl : ss.length ≤ 256
 cl : cs.length < 512
theorem DiskQ.mono {R R' : List (Nat × Value × List Value)} {sv cv : Value} {ss : List (Value × List Nat)} {cs : List Wr} (h : DiskQ R sv cv ss cs) (hs : ∀ x ∈ R, x ∈ R') : DiskQ R' sv cv ss cs :=
 ⟨hs _ h.s, hs _ h.c, fun x hx => ⟨hs _ (h.sd x hx).1, (h.sd x hx).2⟩, fun x hx => ⟨(h.cd x hx).1, hs _ (h.cd x hx).2.1, (h.cd x hx).2.2⟩, h.sl, h.cl⟩
theorem rd_256 {w : World} {v : Value} {D : List Nat} (h : Rd w 1 v (cellsB D)) (hd : D.length = 256) : ∃ b o c, v = .slice (some ⟨b, o, none⟩) 256 c := by
 obtain ⟨b, o, n, c, rfl, _⟩ := h.some (by rw [cellsB_len]; omega)
 obtain ⟨_, n', _, e, g, _⟩ := h
 cases e
 rw [cellsB_len, hd, Nat.mul_one] at g
 exact ⟨b, o, c, by rw [g]⟩
theorem rd_len {w : World} {k n cap : Nat} {a : Option Addr} {c : List Value} (h : Rd w k (.slice a n cap) c) : c.length = n * k := by
 obtain ⟨_, _, _, e, g, _⟩ := h
 cases e; exact g
end Go.Proofs.Qu
namespace Go.Proofs.YtjmibgomkgkhnaaGreat
open Go.Proofs.Qu Go.Proofs.Nm Go.RowKit Go.Proofs
theorem infoD2 : (Tryz.prog.info? 63).map (·.size) = some 2 := by kernel_rfl
theorem infoWr2 : (Tryz.prog.info? 120).map (·.size) = some 2 := by kernel_rfl
theorem infoW2z : (Tryz.prog.info? 120).map (fun i => (i.zero, i.size, i.bytes)) = some (some (.agg #[.int .i64 0, .slice none 0 0]), 2, 32) := by kernel_rfl
theorem built_wr (x : Int) (a : Option Addr) (n c : Nat) : Tryz.prog.built 120 [(0, .int .i64 x), (1, .slice a n c)] = some #[.int .i64 x, .slice a n c] := by kernel_rfl
theorem whole_256 (a : Option Addr) (c : Nat) (w : World) : Calls Tryz.prog 113 #[.slice a 256 c] w fun e w' => e = .returned (.bool true) ∧ New w w' := by
 have hv := Mem.nil w
 go_enter Tryz.func113, Tryz.ntmps113
 go_wp2
 go_ret
 exact ⟨rfl, hv.below⟩
theorem torn_256 (a : Option Addr) (c : Nat) (w : World) : Calls Tryz.prog 122 #[.slice a 256 c] w fun e w' => e = .returned (.bool false) ∧ New w w' := by
 have hv := Mem.nil w
 go_enter Tryz.func122, Tryz.ntmps122
 go_wp2_with (first
   | (go_at_call 113; (with_reducible refine (whole_256 _ _ _).mono ?_); rintro e w1 ⟨rfl, hn1⟩; replace hv := hv.new hn1; clear hn1))
 go_ret
 exact ⟨rfl, hv.below⟩
theorem has_yes (sa : Option Addr) (sn sc at_ : Nat) (cv : Value) (h : at_ < sn) (w : World) : Calls Tryz.prog 124 #[.agg #[.slice sa sn sc, cv], .int .i64 at_] w fun e w' => e = .returned (.bool true) ∧ New w w' := by
 have hv := Mem.nil w
 have y1 : decide ((at_ : Int) < (sn : Int)) = true := decide_eq_true (by omega)
 have z1 : decide (at_ < sn) = true := decide_eq_true h
 have y2 : (0 : Int) ≤ (at_ : Int) := by omega
 clear h
 go_enter Tryz.func124, Tryz.ntmps124
 go_wp2_with (first
   | ((with_reducible refine at_box (T := 63) (dst := some 2) ?_); refine wl_newb rfl #[.slice sa sn sc, cv] 63 (fun _ => rfl) ?_; intro b_2 w2 hm2; replace hv := hv.madeAt hm2; clear hm2)
   | ((with_reducible refine at_load (T := 46) ?_); refine wl_ldc rfl b_2 0 rfl _ hv.vars.ro _ Tryz.underlying46 rfl (.slice sa sn sc) rfl ?_))
 go_ret
 exact ⟨rfl, hv.below⟩
theorem has_no (sa : Option Addr) (sn sc at_ : Nat) (cv : Value) (h : ¬ at_ < sn) (w : World) : Calls Tryz.prog 124 #[.agg #[.slice sa sn sc, cv], .int .i64 at_] w fun e w' => e = .returned (.bool false) ∧ New w w' := by
 have hv := Mem.nil w
 have y1 : decide ((at_ : Int) < (sn : Int)) = false := decide_eq_false (by omega)
 have z1 : decide (at_ < sn) = false := decide_eq_false h
 have y2 : (0 : Int) ≤ (at_ : Int) := by omega
 clear h
 go_enter Tryz.func124, Tryz.ntmps124
 go_wp2_with (first
   | ((with_reducible refine at_box (T := 63) (dst := some 2) ?_); refine wl_newb rfl #[.slice sa sn sc, cv] 63 (fun _ => rfl) ?_; intro b_2 w2 hm2; replace hv := hv.madeAt hm2; clear hm2)
   | ((with_reducible refine at_load (T := 46) ?_); refine wl_ldc rfl b_2 0 rfl _ hv.vars.ro _ Tryz.underlying46 rfl (.slice sa sn sc) rfl ?_))
 go_ret
 exact ⟨rfl, hv.below⟩
theorem lost_no (sa da : Option Addr) (sn sc at_ dc bd : Nat) (cv : Value) (h : at_ < sn) (w : World) (hrow : w.rowD bd = #[.slice sa sn sc, cv]) (hlt : bd < w.heap.size) : Calls Tryz.prog 123 #[.agg #[.int .i64 at_, .slice da 256 dc], .pointer (some ⟨bd, 0, none⟩)] w fun e w' => e = .returned (.bool false) ∧ New w w' := by
 have hv := Mem.nil w
 have HROW := Lib.hid hrow
 have HLT := Lib.hid hlt
 have HH := Lib.hid h
 clear h hrow hlt
 go_enter Tryz.func123, Tryz.ntmps123
 go_wp2_with (first
   | ((with_reducible refine at_box (T := 120) (dst := some 2) ?_); refine wl_newb rfl #[.int .i64 at_, .slice da 256 dc] 120 (fun _ => rfl) ?_; intro b_2 w2 hm2; replace hv := hv.madeAt hm2; clear hm2)
   | ((with_reducible refine at_load (T := 63) ?_); refine wl_ldv rfl bd rfl _ ((New.row hv.below HLT.out).trans HROW.out) 2 _ Tryz.underlying63 rfl infoD2 (by decide) rfl ?_)
   | ((with_reducible refine at_load (T := 3) ?_); refine wl_ldc rfl b_2 0 rfl _ hv.vars.ro _ Tryz.underlying3 rfl (.int .i64 at_) rfl ?_)
   | (go_at_call 124; (with_reducible refine (has_yes _ _ _ _ _ HH.out _).mono ?_); rintro e w1 ⟨rfl, hn1⟩; replace hv := hv.new hn1; clear hn1)
   | ((with_reducible refine at_load (T := 24) ?_); refine wl_ldc rfl b_2 1 rfl _ hv.vars.ro _ Tryz.underlying24 rfl (.slice da 256 dc) rfl ?_)
   | (go_at_call 113; (with_reducible refine (whole_256 _ _ _).mono ?_); rintro e w1 ⟨rfl, hn1⟩; replace hv := hv.new hn1; clear hn1))
 go_ret
 exact ⟨rfl, hv.below⟩
theorem IxS_no {v : Value} {l : List (Value × List Nat)} (hl100 : l.length ≤ 100000) {f : FuncId} {cap : Array Value} (hE : Enters Tryz.prog f) (w : World) (hr : Rd w 1 v (l.map (·.1))) (hdo : ∀ p ∈ l, ∀ w1, New w w1 → Calls Tryz.prog f (#[p.1] ++ cap) w1 fun e w' => e = .returned (.bool false) ∧ New w1 w') :
   Calls Tryz.prog 141 #[v, .func (.func f) #[] cap] w fun e w' => e = .returned (.int .i64 (-1)) ∧ New w w' := by
 have hv := (Mem.nil w).old hr
 obtain ⟨aa, an, ac, rfl, _⟩ := id hr
 have HL : Hid ((1, Value.slice aa an ac, l.map (·.1)) ∈ [(1, Value.slice aa an ac, l.map (·.1))]) := Lib.hid Mem.z
 have HE := Lib.hid hE
 have HDO := Lib.hid hdo
 have hln : l.length = an := by have := rd_len hr; rw [List.length_map] at this; omega
 have HLN := Lib.hid hln
 have HAB : Hid (an ≤ 100000) := Lib.hid (by omega)
 clear hl100 hE hdo hr hln
 go_enter Tryz.func141, Tryz.ntmps141
 go_wp2
 go_loopw [8] (fun kv wr => ∃ k : Nat, k ≤ an ∧ kv = .int .i64 k ∧ Mem w wr [] [(1, Value.slice aa an ac, l.map (·.1))]) (fun kv _ => an - (intOf kv).toNat)
 case atStart => exact ⟨0, Nat.zero_le _, rfl, hv⟩
 case round =>
   clear hv
   obtain ⟨k, hk0, rfl, hv⟩ := hrel
   by_cases hk : k < an
   · have hki : (k : Int) < (an : Int) := by omega
     have hkb : (k : Int) ≤ 100000 := by have := HAB.out; omega
     have hkl : k < l.length := by rw [HLN.out]; exact hk
     obtain ⟨p, hc⟩ : ∃ c, l[k] = c := ⟨_, rfl⟩
     have HKC : Hid ((l.map (·.1))[k]? = some p.1) := Lib.hid (by rw [List.getElem?_map, List.getElem?_eq_getElem hkl, hc]; rfl)
     have HP : Hid (∀ w1, New w w1 → Calls Tryz.prog f (#[p.1] ++ cap) w1 fun e w' => e = .returned (.bool false) ∧ New w1 w') := Lib.hid (fun w1 hn => by
       have := HDO.out l[k] (List.getElem_mem _) w1 hn
       rw [hc] at this; exact this)
     obtain ⟨xb, xo, _, _, e, hq⟩ := (hv.rd HL.out).some (by rw [List.length_map] ; omega)
     clear hq
     cases e
     have HKN := Lib.hid hk
     clear hkl hc hk0 hk
     go_wp2_with (first
       | ((with_reducible refine at_load (T := 24) ?_); refine wl_rd rfl (c := l.map (·.1)) (hv.rd HL.out) k rfl _ Tryz.underlying24 rfl p.1 HKC.out ?_)
       | ((with_reducible refine at_call ?_); refine wl_callv rfl HE.out rfl [p.1] rfl (HP.out _ hv.below) ?_; rintro e w1 ⟨rfl, hn1⟩; refine ⟨_, rfl, ?_⟩; replace hv := hv.new hn1; clear hn1))
     have hkn := HKN.out
     go_roundw
     case rel => exact ⟨k + 1, by omega, by go_num, hv⟩
     case measure => simp [intOf]; omega
   · have hki : ¬ (k : Int) < (an : Int) := by omega
     clear hk hk0
     go_wp2
     go_ret
     exact ⟨rfl, hv.below⟩
theorem IxS_none {v : Value} {l : List (Value × List Nat)} (hl100 : l.length ≤ 100000) {f : FuncId} {cap : Array Value} (hE : Enters Tryz.prog f) (w : World) (hr : Rd w 1 v (l.map (·.1))) (hdo : ∀ p ∈ l, ∀ w1, New w w1 → Calls Tryz.prog f (#[p.1] ++ cap) w1 fun e w' => e = .returned (.bool false) ∧ New w1 w') :
   Calls Tryz.prog 125 #[v, .func (.func f) #[] cap] w fun e w' => e = .returned (.bool false) ∧ New w w' := by
 have hv := Mem.nil w
 have HX := Lib.hid (IxS_no hl100 hE w hr hdo)
 clear hl100 hE hdo hr
 go_enter Tryz.func125, Tryz.ntmps125
 go_wp2_with (first
   | (go_at_call 141; (with_reducible refine (HX.out).mono ?_); rintro e w1 ⟨rfl, hn1⟩; replace hv := hv.new hn1; clear hn1))
 go_ret
 exact ⟨rfl, hv.below⟩
theorem IxW_no {v : Value} {l : List Wr} (hl100 : l.length ≤ 100000) {f : FuncId} {cap : Array Value} (hE : Enters Tryz.prog f) (w : World) (hr : Rd w 2 v (cellsW l)) (hdo : ∀ p ∈ l, ∀ w1, New w w1 → Calls Tryz.prog f (#[.agg #[.int .i64 (p.1 : Nat), p.2.1]] ++ cap) w1 fun e w' => e = .returned (.bool false) ∧ New w1 w') :
   Calls Tryz.prog 142 #[v, .func (.func f) #[] cap] w fun e w' => e = .returned (.int .i64 (-1)) ∧ New w w' := by
 have hv := (Mem.nil w).old hr
 obtain ⟨aa, an, ac, rfl, _⟩ := id hr
 have HL : Hid ((2, Value.slice aa an ac, cellsW l) ∈ [(2, Value.slice aa an ac, cellsW l)]) := Lib.hid Mem.z
 have HE := Lib.hid hE
 have HDO := Lib.hid hdo
 have hln : l.length = an := by have := rd_len hr; rw [cellsW_len] at this; omega
 have HLN := Lib.hid hln
 have HAB : Hid (an ≤ 100000) := Lib.hid (by omega)
 clear hl100 hE hdo hr hln
 go_enter Tryz.func142, Tryz.ntmps142
 go_wp2
 go_loopw [8] (fun kv wr => ∃ k : Nat, k ≤ an ∧ kv = .int .i64 k ∧ Mem w wr [] [(2, Value.slice aa an ac, cellsW l)]) (fun kv _ => an - (intOf kv).toNat)
 case atStart => exact ⟨0, Nat.zero_le _, rfl, hv⟩
 case round =>
   clear hv
   obtain ⟨k, hk0, rfl, hv⟩ := hrel
   by_cases hk : k < an
   · have hki : (k : Int) < (an : Int) := by omega
     have hkb : (k : Int) ≤ 100000 := by have := HAB.out; omega
     have hkl : k < l.length := by rw [HLN.out]; exact hk
     obtain ⟨p, hc⟩ : ∃ c, l[k] = c := ⟨_, rfl⟩
     have HKC : Hid (((cellsW l).drop (k * 2)).take 2 = [.int .i64 (p.1 : Nat), p.2.1]) := Lib.hid (by
       have := cellsW_part l hkl
       rw [hc] at this; exact this)
     have HP : Hid (∀ w1, New w w1 → Calls Tryz.prog f (#[.agg #[.int .i64 (p.1 : Nat), p.2.1]] ++ cap) w1 fun e w' => e = .returned (.bool false) ∧ New w1 w') := Lib.hid (fun w1 hn => by
       have := HDO.out l[k] (List.getElem_mem _) w1 hn
       rw [hc] at this; exact this)
     obtain ⟨xb, xo, _, _, e, hq⟩ := (hv.rd HL.out).some (by rw [cellsW_len] ; omega)
     clear hq
     cases e
     have HKN := Lib.hid hk
     clear hkl hc hk0 hk
     go_wp2_with (first
       | ((with_reducible refine at_load (T := 120) ?_); refine wl_rdv rfl (hv.rd HL.out) (k * 2) rfl 2 _ Tryz.underlying120 rfl infoWr2 (by decide) #[.int .i64 (p.1 : Nat), p.2.1] HKC.out rfl ?_)
       | ((with_reducible refine at_call ?_); refine wl_callv rfl HE.out rfl [.agg #[.int .i64 (p.1 : Nat), p.2.1]] rfl (HP.out _ hv.below) ?_; rintro e w1 ⟨rfl, hn1⟩; refine ⟨_, rfl, ?_⟩; replace hv := hv.new hn1; clear hn1))
     have hkn := HKN.out
     go_roundw
     case rel => exact ⟨k + 1, by omega, by go_num, hv⟩
     case measure => simp [intOf]; omega
   · have hki : ¬ (k : Int) < (an : Int) := by omega
     clear hk hk0
     go_wp2
     go_ret
     exact ⟨rfl, hv.below⟩
theorem IxW_none {v : Value} {l : List Wr} (hl100 : l.length ≤ 100000) {f : FuncId} {cap : Array Value} (hE : Enters Tryz.prog f) (w : World) (hr : Rd w 2 v (cellsW l)) (hdo : ∀ p ∈ l, ∀ w1, New w w1 → Calls Tryz.prog f (#[.agg #[.int .i64 (p.1 : Nat), p.2.1]] ++ cap) w1 fun e w' => e = .returned (.bool false) ∧ New w1 w') :
   Calls Tryz.prog 126 #[v, .func (.func f) #[] cap] w fun e w' => e = .returned (.bool false) ∧ New w w' := by
 have hv := Mem.nil w
 have HX := Lib.hid (IxW_no hl100 hE w hr hdo)
 clear hl100 hE hdo hr
 go_enter Tryz.func126, Tryz.ntmps126
 go_wp2_with (first
   | (go_at_call 142; (with_reducible refine (HX.out).mono ?_); rintro e w1 ⟨rfl, hn1⟩; replace hv := hv.new hn1; clear hn1))
 go_ret
 exact ⟨rfl, hv.below⟩
theorem DCheck_ok {w0 w : World} {L : List (Nat × Array Value)} {R : List (Nat × Value × List Value)} (hv : Mem w0 w L R) {sa ca : Option Addr} {sn sc cn cc : Nat} {ss : List (Value × List Nat)} {cs : List Wr} (hd : DiskQ R (.slice sa sn sc) (.slice ca cn cc) ss cs) : Calls Tryz.prog 109 #[.agg #[.slice sa sn sc, .slice ca cn cc]] w fun e w' => e = .returned (.bool true) ∧ New w w' := by
 have hv0 := hv
 clear hv
 have hv : Mem w w [] R := ⟨Vars.nil w, fun x hx => ⟨(hv0.rds x hx).1, fun _ _ _ _ _ _ p hp => (List.not_mem_nil hp).elim⟩⟩
 have hsl := hd.sl
 have hcl := hd.cl
 have es := rd_len (hv.rd hd.s)
 have ec := rd_len (hv.rd hd.c)
 rw [List.length_map] at es
 rw [cellsW_len] at ec
 have y1 : decide ((256 : Int) < (sn : Int)) = false := decide_eq_false (by omega)
 have z1 : decide (256 < sn) = false := decide_eq_false (by omega)
 have y2 : decide ((512 : Int) < (cn : Int)) = false := decide_eq_false (by omega)
 have z2 : decide (512 < cn) = false := decide_eq_false (by omega)
 have HD := Lib.hid hd
 have HS1 : Hid (ss.length ≤ 100000) := Lib.hid (by omega)
 have HC1 : Hid (cs.length ≤ 100000) := Lib.hid (by omega)
 have HDS : Hid (∀ (w0 : World) (p : Value × List Nat), p ∈ ss → ∀ w1, New w0 w1 → Calls Tryz.prog 122 (#[p.1] ++ #[]) w1 fun e w' => e = .returned (.bool false) ∧ New w1 w') := Lib.hid (fun w0 p hp w1 _ => by
   obtain ⟨b, o, c, e⟩ := rd_256 (hv.rd (hd.sd p hp).1) (hd.sd p hp).2.1
   rw [e]
   exact torn_256 _ _ _)
 have HDC : Hid (∀ (w0 : World) (bd : Nat), w0.rowD bd = #[.slice sa sn sc, .slice ca cn cc] → bd < w0.heap.size → ∀ p : Wr, p ∈ cs → ∀ w1, New w0 w1 → Calls Tryz.prog 123 (#[.agg #[.int .i64 (p.1 : Nat), p.2.1]] ++ #[.pointer (some ⟨bd, 0, none⟩)]) w1 fun e w' => e = .returned (.bool false) ∧ New w1 w') := Lib.hid (fun w0 bd h1 h2 p hp w1 hn => by
   obtain ⟨g0, g1, g2, _⟩ := hd.cd p hp
   obtain ⟨b, o, c, e⟩ := rd_256 (hv.rd g1) g2
   rw [e]
   exact lost_no sa (some ⟨b, o, none⟩) sn sc p.1 c bd (.slice ca cn cc) (by omega) w1 ((New.row hn h2).trans h1) (Nat.lt_of_lt_of_le h2 hn.size))
 clear hv0 hd hsl hcl es ec
 go_enter Tryz.func109, Tryz.ntmps109
 go_wp2_with (first
   | ((with_reducible refine at_box (T := 63) (dst := some 1) ?_); refine wl_newb rfl #[.slice sa sn sc, .slice ca cn cc] 63 (fun _ => rfl) ?_; intro b_1 w2 hm2; replace hv := hv.madeAt hm2; clear hm2)
   | ((with_reducible refine at_load (T := 46) ?_); refine wl_ldc rfl b_1 0 rfl _ hv.vars.ro _ Tryz.underlying46 rfl (.slice sa sn sc) rfl ?_)
   | ((with_reducible refine at_load (T := 61) ?_); refine wl_ldc rfl b_1 1 rfl _ hv.vars.ro _ Tryz.underlying61 rfl (.slice ca cn cc) rfl ?_)
   | (go_at_call 125; (refine (IxS_none HS1.out (f := 122) (cap := #[]) (Go.Proofs.enters_of Tryz.func122 (by kernel_rfl) rfl) _ (hv.rd HD.out.s) (HDS.out _)).mono ?_); rintro e w1 ⟨rfl, hn1⟩; replace hv := hv.new hn1; clear hn1)
   | (go_at_call 126; (refine (IxW_none HC1.out (f := 123) (cap := #[.pointer (some ⟨b_1, 0, none⟩)]) (Go.Proofs.enters_of Tryz.func123 (by kernel_rfl) rfl) _ (hv.rd HD.out.c) (HDC.out _ b_1 (hv.vars.ro (b := b_1)) (hv.vars.lt (b := b_1) (by repeat first | exact mz | apply ms)))).mono ?_); rintro e w1 ⟨rfl, hn1⟩; replace hv := hv.new hn1; clear hn1))
 go_ret
 exact ⟨rfl, hv.below⟩
theorem DAsked_ok {w0 w : World} {L : List (Nat × Array Value)} {R : List (Nat × Value × List Value)} (hv : Mem w0 w L R) {sa ca : Option Addr} {sn sc cn cc : Nat} {ss : List (Value × List Nat)} {cs : List Wr} (hd : DiskQ R (.slice sa sn sc) (.slice ca cn cc) ss cs) {at_ : Nat} (h : at_ < sn) : Calls Tryz.prog 112 #[.agg #[.slice sa sn sc, .slice ca cn cc], .int .i64 at_] w fun e w' => e = .returned (.int .i64 0) ∧ New w w' := by
 have hv0 := hv
 clear hv
 have hv : Mem w w [] R := ⟨Vars.nil w, fun x hx => ⟨(hv0.rds x hx).1, fun _ _ _ _ _ _ p hp => (List.not_mem_nil hp).elim⟩⟩
 have HD := Lib.hid hd
 have HH := Lib.hid h
 clear hv0 hd h
 go_enter Tryz.func112, Tryz.ntmps112
 go_wp2_with (first
   | ((with_reducible refine at_box (T := 63) (dst := some 2) ?_); refine wl_newb rfl #[.slice sa sn sc, .slice ca cn cc] 63 (fun _ => rfl) ?_; intro b_2 w2 hm2; replace hv := hv.madeAt hm2; clear hm2)
   | ((with_reducible refine at_load (T := 63) ?_); refine wl_ldv rfl b_2 rfl _ hv.vars.ro 2 _ Tryz.underlying63 rfl infoD2 (by decide) rfl ?_)
   | (go_at_call 109; (with_reducible refine (DCheck_ok hv HD.out).mono ?_); rintro e w1 ⟨rfl, hn1⟩; replace hv := hv.new hn1; clear hn1)
   | (go_at_call 124; (with_reducible refine (has_yes _ _ _ _ _ HH.out _).mono ?_); rintro e w1 ⟨rfl, hn1⟩; replace hv := hv.new hn1; clear hn1))
 go_ret
 exact ⟨rfl, hv.below⟩
theorem DAsked_no {w0 w : World} {L : List (Nat × Array Value)} {R : List (Nat × Value × List Value)} (hv : Mem w0 w L R) {sa ca : Option Addr} {sn sc cn cc : Nat} {ss : List (Value × List Nat)} {cs : List Wr} (hd : DiskQ R (.slice sa sn sc) (.slice ca cn cc) ss cs) {at_ : Nat} (h : ¬ at_ < sn) : Calls Tryz.prog 112 #[.agg #[.slice sa sn sc, .slice ca cn cc], .int .i64 at_] w fun e w' => e = .returned (.int .i64 50) ∧ New w w' := by
 have hv0 := hv
 clear hv
 have hv : Mem w w [] R := ⟨Vars.nil w, fun x hx => ⟨(hv0.rds x hx).1, fun _ _ _ _ _ _ p hp => (List.not_mem_nil hp).elim⟩⟩
 have HD := Lib.hid hd
 have HH := Lib.hid h
 clear hv0 hd h
 go_enter Tryz.func112, Tryz.ntmps112
 go_wp2_with (first
   | ((with_reducible refine at_box (T := 63) (dst := some 2) ?_); refine wl_newb rfl #[.slice sa sn sc, .slice ca cn cc] 63 (fun _ => rfl) ?_; intro b_2 w2 hm2; replace hv := hv.madeAt hm2; clear hm2)
   | ((with_reducible refine at_load (T := 63) ?_); refine wl_ldv rfl b_2 rfl _ hv.vars.ro 2 _ Tryz.underlying63 rfl infoD2 (by decide) rfl ?_)
   | (go_at_call 109; (with_reducible refine (DCheck_ok hv HD.out).mono ?_); rintro e w1 ⟨rfl, hn1⟩; replace hv := hv.new hn1; clear hn1)
   | (go_at_call 124; (with_reducible refine (has_no _ _ _ _ _ HH.out _).mono ?_); rintro e w1 ⟨rfl, hn1⟩; replace hv := hv.new hn1; clear hn1))
 go_ret
 exact ⟨rfl, hv.below⟩
theorem DClip_ok (ca : Option Addr) (cn cc : Nat) (h : cn ≤ cc) (w : World) : Calls Tryz.prog 114 #[.slice ca cn cc] w fun e w' => e = .returned (.slice ca cn cn) ∧ New w w' := by
 have hv := Mem.nil w
 have y : (cn : Int) ≤ (cc : Int) := by omega
 clear h
 go_enter Tryz.func114, Tryz.ntmps114
 go_wp2
 go_ret
 exact ⟨rfl, hv.below⟩
theorem Rd.clip {w : World} {k n c0 : Nat} {a : Option Addr} {c : List Value} (h : Rd w k (.slice a n c0) c) : Rd w k (.slice a n n) c := by
 obtain ⟨a', n', c', e, h1, h2, h3, h4, h5⟩ := h
 cases e
 exact ⟨a, n, n, rfl, h1, Nat.le_refl _, Nat.le_trans h2 h3, fun h => ⟨(h4 h).1, (h4 h).1⟩, h5⟩
theorem DWrite_ok {w0 w : World} {L : List (Nat × Array Value)} {R : List (Nat × Value × List Value)} (hv : Mem w0 w L R) {sa ca : Option Addr} {sn sc cn cc : Nat} {ss : List (Value × List Nat)} {cs : List Wr} (hd : DiskQ R (.slice sa sn sc) (.slice ca cn cc) ss cs) {at_ dc : Nat} {da : Addr} {D : List Nat} (h : at_ < sn) (hc : cn + 1 < 512) (hdr : (1, .slice (some da) 256 dc, cellsB D) ∈ R) (hg : goodB D) :
   Calls Tryz.prog 79 #[.agg #[.slice sa sn sc, .slice ca cn cc], .int .i64 at_, .slice (some da) 256 dc] w fun e w' => ∃ a2 c2 dv R2, e = .returned (.tuple #[.agg #[.slice sa sn sc, .slice a2 (cn + 1) c2], .int .i64 0]) ∧ Mem w0 w' L R2 ∧ DiskQ R2 (.slice sa sn sc) (.slice a2 (cn + 1) c2) ss (cs ++ [(at_, dv, D)]) ∧ ∀ x ∈ R, x ∈ R2 := by
 have es := rd_len (hv.rd hd.s)
 have ec := rd_len (hv.rd hd.c)
 have el := rd_len (hv.rd hdr)
 rw [List.length_map] at es
 rw [cellsW_len] at ec
 rw [cellsB_len] at el
 obtain ⟨db, d0, dd⟩ := da
 obtain ⟨_, _, _, _, e, _⟩ := (hv.rd hdr).some (by rw [cellsB_len]; omega)
 cases e
 have y1 : decide ((cn : Int) = 512) = false := decide_eq_false (by omega)
 have z1 : decide (cn = 512) = false := decide_eq_false (by omega)
 have y6 : ((cn : Int) == 512) = false := by simp; omega
 have HD := Lib.hid hd
 have HH := Lib.hid h
 have HDR := Lib.hid hdr
 have HG := Lib.hid hg
 have HES : Hid (ss.length = sn) := Lib.hid (by omega)
 have HEC : Hid (cs.length = cn) := Lib.hid (by omega)
 have HEL : Hid (D.length = 256) := Lib.hid (by omega)
 have HC5 := Lib.hid hc
 have HCC : Hid (cn ≤ 512) := Lib.hid (by omega)
 have HCL : Hid (cn ≤ cc) := Lib.hid (by
   obtain ⟨_, _, _, e, _, g, _⟩ := hv.rd hd.c
   cases e; exact g)
 have HB1 : Hid (∀ x ∈ cellsB D, x.oneCell' = true) := Lib.hid (fun x hx => by
   unfold cellsB at hx
   obtain ⟨b, _, rfl⟩ := List.mem_map.1 hx; rfl)
 have HB2 : Hid (256 ≤ 1000000) := Lib.hid (by decide)
 have HONE : Hid (∀ b9 c9 : Nat, ∀ x ∈ ([.int .i64 at_, .slice (some ⟨b9, 0, none⟩) 256 c9] : List Value), x.oneCell' = true) := Lib.hid (fun b9 c9 x hx => by
   simp at hx
   rcases hx with rfl | rfl <;> rfl)
 have HA1 : Hid (∀ b9 c9 : Nat, ((cellsW cs).length + ([.int .i64 at_, .slice (some ⟨b9, 0, none⟩) 256 c9] : List Value).length) / 2 ≤ maxLen) := Lib.hid (fun b9 c9 => by
   rw [cellsW_len]; show (cs.length * 2 + 2) / 2 ≤ _; unfold maxLen; omega)
 have HA2 : Hid (∀ b9 c9 : Nat, ((cellsW cs).length + ([.int .i64 at_, .slice (some ⟨b9, 0, none⟩) 256 c9] : List Value).length) / 2 * 32 ≤ 140737488355328) := Lib.hid (fun b9 c9 => by
   rw [cellsW_len]; show (cs.length * 2 + 2) / 2 * 32 ≤ _; omega)
 have HL2 : Hid (∀ (w9 : World) (a2 : Option Addr) (n2 c2 b9 c9 : Nat), Rd w9 2 (.slice a2 n2 c2) (cellsW cs ++ [.int .i64 at_, .slice (some ⟨b9, 0, none⟩) 256 c9]) → n2 = cn + 1) := Lib.hid (fun w9 a2 n2 c2 b9 c9 h => by
   have := rd_len h
   rw [List.length_append, cellsW_len] at this
   change cs.length * 2 + 2 = _ at this
   omega)
 clear hd h hdr hg es ec el hc
 go_enter Tryz.func79, Tryz.ntmps79
 go_wp2_with (first
   | ((with_reducible refine at_box (T := 63) (dst := some 3) ?_); refine wl_newb rfl #[.slice sa sn sc, .slice ca cn cc] 63 (fun _ => rfl) ?_; intro b_3 w2 hm2; replace hv := hv.madeAt hm2; clear hm2)
   | ((with_reducible refine at_alloc (T := 63) (dst := some 6) ?_); refine wl_newb rfl #[.slice none 0 0, .slice none 0 0] 63 (fun _ => rfl) ?_; intro b_6 w2 hm2; replace hv := hv.madeAt hm2; clear hm2)
   | ((with_reducible refine at_load (T := 63) ?_); refine wl_ldv rfl b_3 rfl _ hv.vars.ro 2 _ Tryz.underlying63 rfl infoD2 (by decide) rfl ?_)
   | (go_at_call 112; (with_reducible refine (DAsked_ok hv HD.out HH.out).mono ?_); rintro e w1 ⟨rfl, hn1⟩; replace hv := hv.new hn1; clear hn1)
   | (go_at_call 113; (with_reducible refine (whole_256 _ _ _).mono ?_); rintro e w1 ⟨rfl, hn1⟩; replace hv := hv.new hn1; clear hn1)
   | ((with_reducible refine at_load (T := 61) ?_); refine wl_ldc rfl b_3 1 rfl _ hv.vars.ro _ Tryz.underlying61 rfl (.slice ca cn cc) rfl ?_)
   | (go_at_call 114; (with_reducible refine (DClip_ok _ _ _ HCL.out _).mono ?_); rintro e w1 ⟨rfl, hn1⟩; replace hv := hv.new hn1; clear hn1)
   | (go_at_call 56; (with_reducible refine (MClone_M hv HDR.out HB1.out HB2.out).mono ?_); rintro e w1 ⟨b9, c9, z9, rfl, hrow, hv1⟩; have hv2 := Mem.yield (L1 := []) hv1 hrow; simp only [List.nil_append] at hv2; replace hv := hv2; clear hv1 hv2 hrow)
   | ((with_reducible refine at_build (T := 120) ?_); refine wl_build rfl _ rfl (built_wr _ _ _ _) ?_)
   | ((with_reducible refine at_append (t := 61) ?_); have hv1 := hv.bsl' (k := 2) (n := 1) (c := [.int .i64 at_, .slice (some ⟨b9, 0, none⟩) 256 c9]) ⟨rfl, made_alloc _ #[.int .i64 at_, .slice (some ⟨b9, 0, none⟩) 256 c9] 120⟩ rfl rfl (by unfold maxLen; omega); replace hv := hv1; clear hv1; refine wl_full (news := [.int .i64 at_, .slice (some ⟨b9, 0, none⟩) 256 c9]) rfl rfl (Rd.clip (hv.rd (Mem.s (Mem.s HD.out.c)))) (.agg #[.int .i64 0, .slice none 0 0]) 32 Tryz.underlying61 infoW2z rfl (by decide) rfl (hv.rd Mem.z) (List.cons_ne_nil _ _) (HONE.out b9 c9) (HA1.out b9 c9) (HA2.out b9 c9) ?_; intro v2 w3 hn3 hf3; obtain ⟨a2, n2, c2, rfl, _⟩ := id hf3.1; have hln2 : n2 = cn + 1 := HL2.out _ _ _ _ _ _ hf3.1; subst hln2; replace hv := hv.fresh hn3 hf3; clear hn3 hf3)
   | ((with_reducible refine at_store (T := 61) ?_); refine wl_stc rfl b_3 1 rfl (.slice a2 (cn + 1) c2) rfl _ hv.vars.ro hv.vars.so (by kernel_rfl) rfl (by show 1 < 2; decide) ?_; intro w2 hw2; replace hv := hv.sets (by repeat first | exact .z | apply SetM.s) hw2; clear hw2; simp only [sia, scs, scz] at hv)
   | ((with_reducible refine at_store (T := 63) ?_); refine wl_stv rfl b_6 rfl _ rfl _ hv.vars.ro hv.vars.so 2 infoD2 rfl rfl (by simp [Value.oneCell']) ?_; intro w2 hw2; replace hv := hv.sets (by repeat first | exact .z | apply SetM.s) hw2; clear hw2))
 go_wp2
 try simp only [Exit.inBlock, Exit.then]
 refine ret_cell2 (v := .agg #[.slice sa sn sc, .slice a2 (cn + 1) c2]) (v1 := .int .i64 0) rfl rfl (read_row _ b_6 63 _ (hv.vars.ro (b := b_6)) 2 _ Tryz.underlying63 rfl infoD2 (by decide) rfl) rfl rfl ?_
 refine ⟨a2, c2, .slice (some ⟨b9, 0, none⟩) 256 c9, _, rfl, hv.keep (by exact List.sublist_append_right [_, _] L), ?_, fun x hx => Mem.s (Mem.s (Mem.s hx))⟩
 have hd := HD.out
 have hm : ∀ (y1 y2 y3 : Nat × Value × List Value), ∀ x ∈ R, x ∈ y1 :: y2 :: y3 :: R := fun _ _ _ x hx => Mem.s (Mem.s (Mem.s hx))
 refine ⟨hm _ _ _ _ hd.s, ?_, fun x hx => ⟨hm _ _ _ _ (hd.sd x hx).1, (hd.sd x hx).2⟩, fun x hx => ?_, hd.sl, by rw [List.length_append, HEC.out]; exact HC5.out⟩
 · rw [cellsW_snoc]; exact Mem.z
 · rcases List.mem_append.1 hx with hx | hx
   · exact ⟨(hd.cd x hx).1, hm _ _ _ _ (hd.cd x hx).2.1, (hd.cd x hx).2.2⟩
   · rw [List.mem_singleton.1 hx]
     exact ⟨by rw [HES.out]; exact HH.out, Mem.s (Mem.s Mem.z), HEL.out, HG.out⟩
theorem DWrite_no {w0 w : World} {L : List (Nat × Array Value)} {R : List (Nat × Value × List Value)} (hv : Mem w0 w L R) {sa ca : Option Addr} {sn sc cn cc : Nat} {ss : List (Value × List Nat)} {cs : List Wr} (hd : DiskQ R (.slice sa sn sc) (.slice ca cn cc) ss cs) {at_ : Nat} {dv : Value} (h : ¬ at_ < sn) :
   Calls Tryz.prog 79 #[.agg #[.slice sa sn sc, .slice ca cn cc], .int .i64 at_, dv] w fun e w' => e = .returned (.tuple #[.agg #[.slice sa sn sc, .slice ca cn cc], .int .i64 50]) ∧ New w w' := by
 have hv0 := hv
 clear hv
 have hv : Mem w w [] R := ⟨Vars.nil w, fun x hx => ⟨(hv0.rds x hx).1, fun _ _ _ _ _ _ p hp => (List.not_mem_nil hp).elim⟩⟩
 have HD := Lib.hid hd
 have HH := Lib.hid h
 clear hd h hv0
 go_enter Tryz.func79, Tryz.ntmps79
 go_wp2_with (first
   | ((with_reducible refine at_box (T := 63) (dst := some 3) ?_); refine wl_newb rfl #[.slice sa sn sc, .slice ca cn cc] 63 (fun _ => rfl) ?_; intro b_3 w2 hm2; replace hv := hv.madeAt hm2; clear hm2)
   | ((with_reducible refine at_alloc (T := 63) (dst := some 6) ?_); refine wl_newb rfl #[.slice none 0 0, .slice none 0 0] 63 (fun _ => rfl) ?_; intro b_6 w2 hm2; replace hv := hv.madeAt hm2; clear hm2)
   | ((with_reducible refine at_load (T := 63) ?_); refine wl_ldv rfl b_3 rfl _ hv.vars.ro 2 _ Tryz.underlying63 rfl infoD2 (by decide) rfl ?_)
   | (go_at_call 112; (with_reducible refine (DAsked_no hv HD.out HH.out).mono ?_); rintro e w1 ⟨rfl, hn1⟩; replace hv := hv.new hn1; clear hn1)
   | ((with_reducible refine at_store (T := 63) ?_); refine wl_stv rfl b_6 rfl _ rfl _ hv.vars.ro hv.vars.so 2 infoD2 rfl rfl (by simp [Value.oneCell']) ?_; intro w2 hw2; replace hv := hv.sets (by repeat first | exact .z | apply SetM.s) hw2; clear hw2))
 go_wp2
 try simp only [Exit.inBlock, Exit.then]
 refine ret_cell2 (v := .agg #[.slice sa sn sc, .slice ca cn cc]) (v1 := .int .i64 50) rfl rfl (read_row _ b_6 63 _ (hv.vars.ro (b := b_6)) 2 _ Tryz.underlying63 rfl infoD2 (by decide) rfl) rfl rfl ?_
 exact ⟨rfl, hv.below⟩
end Go.Proofs.YtjmibgomkgkhnaaGreat
end

section
/-
 A disk, the document's answer (layer 5): which may be, what is read.
-/
namespace Go.Proofs.Qu
open Go Go.RowKit Go.Proofs.Nm
def readD (ss : List (Value × List Nat)) (cs : List Wr) (at_ : Nat) : Value × List Nat := cs.foldl (fun b c => if c.1 = at_ then c.2 else b) (ss.getD at_ (.bool false, []))
theorem readD_snoc (ss : List (Value × List Nat)) (cs : List Wr) (c : Wr) (at_ : Nat) : readD ss (cs ++ [c]) at_ = if c.1 = at_ then c.2 else readD ss cs at_ := by
 unfold readD
 rw [List.foldl_append]; rfl
theorem take_snoc {α : Type} (l : List α) {k : Nat} (hk : k < l.length) : l.take (k + 1) = l.take k ++ [l[k]] := by
 rw [List.take_add_one, List.getElem?_eq_getElem hk]; rfl
theorem cellW0 (l : List Wr) {k : Nat} (hk : k < l.length) : (cellsW l)[k * 2]? = some (.int .i64 ((l[k]'hk).1 : Nat)) := by
 have := congrArg (fun x => x[0]?) (cellsW_part l hk)
 simpa [List.getElem?_take, List.getElem?_drop] using this
theorem cellW1 (l : List Wr) {k : Nat} (hk : k < l.length) : (cellsW l)[k * 2 + 1]? = some (l[k]'hk).2.1 := by
 have := congrArg (fun x => x[1]?) (cellsW_part l hk)
 simpa [List.getElem?_take, List.getElem?_drop] using this
end Go.Proofs.Qu
namespace Go.Proofs.YtjmibgomkgkhnaaGreat
open Go.Proofs.Qu Go.Proofs.Nm Go.RowKit Go.Proofs
theorem Rhas_yes (sa : Option Addr) (sn sc at_ : Nat) (cv : Value) (h : at_ < sn) (w : World) : Calls Tryz.prog 49 #[.agg #[.slice sa sn sc, cv], .int .i64 at_] w fun e w' => e = .returned (.bool true) ∧ New w w' := by
 have hv := Mem.nil w
 have y1 : decide ((at_ : Int) < (sn : Int)) = true := decide_eq_true (by omega)
 have z1 : decide (at_ < sn) = true := decide_eq_true h
 have y2 : (0 : Int) ≤ (at_ : Int) := by omega
 clear h
 go_enter Tryz.func49, Tryz.ntmps49
 go_wp2_with (first
   | ((with_reducible refine at_box (T := 63) (dst := some 2) ?_); refine wl_newb rfl #[.slice sa sn sc, cv] 63 (fun _ => rfl) ?_; intro b_2 w2 hm2; replace hv := hv.madeAt hm2; clear hm2)
   | ((with_reducible refine at_load (T := 46) ?_); refine wl_ldc rfl b_2 0 rfl _ hv.vars.ro _ Tryz.underlying46 rfl (.slice sa sn sc) rfl ?_))
 go_ret
 exact ⟨rfl, hv.below⟩
theorem RDCheck_ok {w0 w : World} {L : List (Nat × Array Value)} {R : List (Nat × Value × List Value)} (hv : Mem w0 w L R) {sa ca : Option Addr} {sn sc cn cc : Nat} {ss : List (Value × List Nat)} {cs : List Wr} (hd : DiskQ R (.slice sa sn sc) (.slice ca cn cc) ss cs) : Calls Tryz.prog 48 #[.agg #[.slice sa sn sc, .slice ca cn cc]] w fun e w' => e = .returned (.bool true) ∧ New w w' := by
 have hv0 := hv
 clear hv
 have hv : Mem w w [] R := ⟨Vars.nil w, fun x hx => ⟨(hv0.rds x hx).1, fun _ _ _ _ _ _ p hp => (List.not_mem_nil hp).elim⟩⟩
 have hsl := hd.sl
 have hcl := hd.cl
 have es := rd_len (hv.rd hd.s)
 have ec := rd_len (hv.rd hd.c)
 rw [List.length_map] at es
 rw [cellsW_len] at ec
 have y1 : decide ((256 : Int) < (sn : Int)) = false := decide_eq_false (by omega)
 have z1 : decide (256 < sn) = false := decide_eq_false (by omega)
 have y2 : decide ((512 : Int) < (cn : Int)) = false := decide_eq_false (by omega)
 have z2 : decide (512 < cn) = false := decide_eq_false (by omega)
 have HD := Lib.hid hd
 have HES : Hid (ss.length = sn) := Lib.hid (by omega)
 have HEC : Hid (cs.length = cn) := Lib.hid (by omega)
 have HSN : Hid (sn ≤ 256) := Lib.hid (by omega)
 have HCN : Hid (cn ≤ 512) := Lib.hid (by omega)
 clear hv0 hd hsl hcl es ec
 go_enter Tryz.func48, Tryz.ntmps48
 go_wp2_with (first
   | ((with_reducible refine at_box (T := 63) (dst := some 1) ?_); refine wl_newb rfl #[.slice sa sn sc, .slice ca cn cc] 63 (fun _ => rfl) ?_; intro b_1 w2 hm2; replace hv := hv.madeAt hm2; clear hm2)
   | ((with_reducible refine at_load (T := 46) ?_); refine wl_ldc rfl b_1 0 rfl _ hv.vars.ro _ Tryz.underlying46 rfl (.slice sa sn sc) rfl ?_)
   | ((with_reducible refine at_load (T := 61) ?_); refine wl_ldc rfl b_1 1 rfl _ hv.vars.ro _ Tryz.underlying61 rfl (.slice ca cn cc) rfl ?_))
 go_loopw [3] (fun kv wr => ∃ k : Nat, k ≤ sn ∧ kv = .int .i64 k ∧ Mem w wr [(b_1, #[.slice sa sn sc, .slice ca cn cc])] R) (fun kv _ => sn - (intOf kv).toNat)
 case atStart => exact ⟨0, Nat.zero_le _, rfl, hv⟩
 case round =>
   clear hv
   obtain ⟨k, hk0, rfl, hv⟩ := hrel
   by_cases hk : k < sn
   · have hki : (k : Int) < (sn : Int) := by omega
     have hkb : (k : Int) ≤ 256 := by have := HSN.out; omega
     have hkl : k < ss.length := by rw [HES.out]; exact hk
     obtain ⟨pb, po, pc, hp⟩ := rd_256 (hv.rd (HD.out.sd _ (List.getElem_mem hkl)).1) (HD.out.sd _ (List.getElem_mem hkl)).2.1
     have HKC : Hid ((ss.map (·.1))[k]? = some (.slice (some ⟨pb, po, none⟩) 256 pc)) := Lib.hid (by rw [List.getElem?_map, List.getElem?_eq_getElem hkl, ← hp]; rfl)
     obtain ⟨xb, xo, _, _, e, hq⟩ := (hv.rd HD.out.s).some (by rw [List.length_map]; omega)
     clear hq
     cases e
     have HKN := Lib.hid hk
     clear hkl hp hk0 hk
     go_wp2_with (first
       | ((with_reducible refine at_load (T := 46) ?_); refine wl_ldc rfl b_1 0 rfl _ hv.vars.ro _ Tryz.underlying46 rfl (.slice (some ⟨xb, xo, none⟩) sn sc) rfl ?_)
       | ((with_reducible refine at_load (T := 24) ?_); refine wl_rd rfl (c := ss.map (·.1)) (hv.rd HD.out.s) k rfl _ Tryz.underlying24 rfl (.slice (some ⟨pb, po, none⟩) 256 pc) HKC.out ?_))
     have hkn := HKN.out
     go_roundw
     case rel => exact ⟨k + 1, by omega, by go_num, hv⟩
     case measure => simp [intOf]; omega
   · have hki : ¬ (k : Int) < (sn : Int) := by omega
     clear hk hk0
     go_wp2_with (first
       | ((with_reducible refine at_load (T := 46) ?_); refine wl_ldc rfl b_1 0 rfl _ hv.vars.ro _ Tryz.underlying46 rfl (.slice sa sn sc) rfl ?_))
     go_loopw [4] (fun kv wr => ∃ k : Nat, k ≤ cn ∧ kv = .int .i64 k ∧ Mem w wr [(b_1, #[.slice sa sn sc, .slice ca cn cc])] R) (fun kv _ => cn - (intOf kv).toNat)
     case atStart => exact ⟨0, Nat.zero_le _, rfl, hv⟩
     case round =>
       clear hv hki
       obtain ⟨k, hk0, rfl, hv⟩ := hrel
       by_cases hk : k < cn
       · have hki : (k : Int) < (cn : Int) := by omega
         have hkb : (k : Int) ≤ 512 := by have := HCN.out; omega
         have hkl : k < cs.length := by rw [HEC.out]; exact hk
         obtain ⟨p, hp⟩ : ∃ p, cs[k] = p := ⟨_, rfl⟩
         have hpm := HD.out.cd _ (List.getElem_mem hkl)
         have h0 := cellW0 cs hkl
         have h1 := cellW1 cs hkl
         rw [hp] at hpm h0 h1
         obtain ⟨pb, po, pc, hpv⟩ := rd_256 (hv.rd hpm.2.1) hpm.2.2.1
         rw [hpv] at h1
         have HX0 := Lib.hid h0
         have HX1 := Lib.hid h1
         have HPS : Hid (p.1 < sn) := Lib.hid (by have := HES.out; omega)
         obtain ⟨xb, xo, _, _, e, hq⟩ := (hv.rd HD.out.c).some (by rw [cellsW_len]; omega)
         clear hq
         cases e
         have HKN := Lib.hid hk
         clear hkl hp hpm h0 h1 hpv hk0 hk
         go_wp2_with (first
           | ((with_reducible refine at_load (T := 61) ?_); refine wl_ldc rfl b_1 1 rfl _ hv.vars.ro _ Tryz.underlying61 rfl (.slice (some ⟨xb, xo, none⟩) cn cc) rfl ?_))
         replace hv : Mem w _ ([(b_1, _)] ++ []) R := hv
         try simp only [Act.put]
         refine Bny.wp_region_walk _ _ [⟨[1000], none⟩, ⟨[], none⟩, ⟨[1000], none⟩, ⟨[], none⟩, ⟨[], none⟩, ⟨[], none⟩, ⟨[], none⟩, ⟨[], none⟩, ⟨[], none⟩, ⟨[], none⟩, ⟨[], none⟩, ⟨[1000], none⟩, ⟨[], none⟩, ⟨[], none⟩, ⟨[], none⟩, ⟨[], none⟩, ⟨[], none⟩, ⟨[], none⟩, ⟨[], none⟩] [.val, .val, .val, .val, .val, .val, .val, .val, .val, .val, .val, .val, .val, .val, .val, .val, .val, .val, .val] (by kernel_rfl) (by kernel_rfl) hv ?_
         simp only [List.length_cons, List.length_nil, Nat.zero_add, Any.someVals]
         iterate 19 apply Exists.intro
         repeat (first
           | (refine Bny.E_off rfl ?_; simp only [Act.put, sia, scs, scz])
           | (apply Bny.E_pureq rfl rfl rfl
              case h => intro K hK; go_big_quiet_op; (refine hK _ ?_; rfl)
              case hr => exact fun _ => rfl
              simp only [Act.put, sia, scs, scz])
           | (apply Bny.E_val rfl rfl rfl rfl
              case h =>
                intro E' hA K hK
                first
                  | ((with_reducible refine Bny.at_qload (T := 63) ?_); refine Bny.q_ldv 1000 hA (by decide) rfl rfl 2 _ Tryz.underlying63 rfl infoD2 (by decide) rfl ?_; refine hK _ ?_; rfl)
                  | ((with_reducible refine Bny.at_qload (T := 61) ?_); refine Bny.q_ldc 1000 hA (by decide) rfl rfl _ Tryz.underlying61 rfl (.slice (some ⟨xb, xo, none⟩) cn cc) rfl ?_; refine hK _ ?_; rfl)
                  | ((with_reducible refine Bny.at_qload (T := 3) ?_); refine Bny.q_rd (.inl HD.out.c) hA (k * 2) rfl _ Tryz.underlying3 rfl (.int .i64 (p.1 : Nat)) HX0.out ?_; refine hK _ ?_; rfl)
                  | ((with_reducible refine Bny.at_qload (T := 24) ?_); refine Bny.q_rd (.inl HD.out.c) hA (k * 2 + 1) rfl _ Tryz.underlying24 rfl (.slice (some ⟨pb, po, none⟩) 256 pc) HX1.out ?_; refine hK _ ?_; rfl)
                  | (go_big_quiet_op; first
                    | (refine hK _ ?_; rfl)
                    | (refine ⟨_, fun _ _ => rfl, ?_⟩; refine hK _ ?_; rfl)
                    | (apply Exists.intro; refine ⟨fun w1 hw1 => ?_, ?_⟩; · (first
                        | (go_at_call 49; exact Bny.calls_VE (Rhas_yes _ _ _ _ _ HPS.out _) hw1))
                       refine hK _ ?_; rfl))
              case hD => rfl
              simp only [Act.put, sia, scs, scz]))
         try any_goals exact undef
         refine Bny.E_nil ?_
         intro w9 hE9
         replace hv : Mem w w9 ([(b_1, #[.slice sa sn sc, .slice (some ⟨xb, xo, none⟩) cn cc])] ++ []) R := hE9.mem0 [1000] (by decide)
         clear hE9
         simp only [List.cons_append, List.nil_append] at hv
         go_wp2
         have hkn := HKN.out
         go_roundw
         case rel => exact ⟨k + 1, by omega, by go_num, hv⟩
         case measure => simp [intOf]; omega
       · have hki : ¬ (k : Int) < (cn : Int) := by omega
         clear hk hk0
         go_wp2_with (first
           | ((with_reducible refine at_load (T := 61) ?_); refine wl_ldc rfl b_1 1 rfl _ hv.vars.ro _ Tryz.underlying61 rfl (.slice ca cn cc) rfl ?_))
         go_ret
         exact ⟨rfl, hv.below⟩
theorem RDRead_ok {w0 w : World} {L : List (Nat × Array Value)} {R : List (Nat × Value × List Value)} (hv : Mem w0 w L R) {sa ca : Option Addr} {sn sc cn cc : Nat} {ss : List (Value × List Nat)} {cs : List Wr} (hd : DiskQ R (.slice sa sn sc) (.slice ca cn cc) ss cs) {at_ : Nat} (h : at_ < sn) : Calls Tryz.prog 24 #[.agg #[.slice sa sn sc, .slice ca cn cc], .int .i64 at_] w fun e w' => e = .returned (.tuple #[(readD ss cs at_).1, .int .i64 0]) ∧ New w w' := by
 have hv0 := hv
 clear hv
 have hv : Mem w w [] R := ⟨Vars.nil w, fun x hx => ⟨(hv0.rds x hx).1, fun _ _ _ _ _ _ p hp => (List.not_mem_nil hp).elim⟩⟩
 have hsl := hd.sl
 have hcl := hd.cl
 have es := rd_len (hv.rd hd.s)
 have ec := rd_len (hv.rd hd.c)
 rw [List.length_map] at es
 rw [cellsW_len] at ec
 have y1 : decide ((256 : Int) < (sn : Int)) = false := decide_eq_false (by omega)
 have z1 : decide (256 < sn) = false := decide_eq_false (by omega)
 have y2 : decide ((512 : Int) < (cn : Int)) = false := decide_eq_false (by omega)
 have z2 : decide (512 < cn) = false := decide_eq_false (by omega)
 have HD := Lib.hid hd
 have HES : Hid (ss.length = sn) := Lib.hid (by omega)
 have HEC : Hid (cs.length = cn) := Lib.hid (by omega)
 have HCN : Hid (cn ≤ 512) := Lib.hid (by omega)
 have HH := Lib.hid h
 have hal : at_ < ss.length := by omega
 have HX : Hid ((ss.map (·.1))[at_]? = some (ss.getD at_ (.bool false, [])).1) := Lib.hid (by rw [List.getElem?_map, List.getD_eq_getElem?_getD, List.getElem?_eq_getElem hal]; rfl)
 obtain ⟨sb, so, _, _, e, hq⟩ := (hv.rd hd.s).some (by rw [List.length_map]; omega)
 clear hq
 cases e
 have ha1 : (at_ : Int) < (sn : Int) := by omega
 obtain ⟨pb, po, pc, hp⟩ := rd_256 (hv.rd (hd.sd _ (List.getElem_mem hal)).1) (hd.sd _ (List.getElem_mem hal)).2.1
 have hb0 : (ss.getD at_ (.bool false, [])).1 = .slice (some ⟨pb, po, none⟩) 256 pc := by rw [List.getD_eq_getElem?_getD, List.getElem?_eq_getElem hal, ← hp]; rfl
 have HB0 := Lib.hid hb0
 rw [hb0] at HX
 clear hv0 hd hsl hcl es ec h hal hb0 hp
 go_enter Tryz.func24, Tryz.ntmps24
 go_wp2_with (first
   | ((with_reducible refine at_box (T := 63) (dst := some 2) ?_); refine wl_newb rfl #[.slice (some ⟨sb, so, none⟩) sn sc, .slice ca cn cc] 63 (fun _ => rfl) ?_; intro b_2 w2 hm2; replace hv := hv.madeAt hm2; clear hm2)
   | ((with_reducible refine at_load (T := 63) ?_); refine wl_ldv rfl b_2 rfl _ hv.vars.ro 2 _ Tryz.underlying63 rfl infoD2 (by decide) rfl ?_)
   | (go_at_call 48; (with_reducible refine (RDCheck_ok hv HD.out).mono ?_); rintro e w1 ⟨rfl, hn1⟩; replace hv := hv.new hn1; clear hn1)
   | (go_at_call 49; (with_reducible refine (Rhas_yes _ _ _ _ _ HH.out _).mono ?_); rintro e w1 ⟨rfl, hn1⟩; replace hv := hv.new hn1; clear hn1)
   | ((with_reducible refine at_load (T := 46) ?_); refine wl_ldc rfl b_2 0 rfl _ hv.vars.ro _ Tryz.underlying46 rfl (.slice (some ⟨sb, so, none⟩) sn sc) rfl ?_)
   | ((with_reducible refine at_load (T := 24) ?_); refine wl_rd rfl (c := ss.map (·.1)) (hv.rd HD.out.s) at_ rfl _ Tryz.underlying24 rfl (.slice (some ⟨pb, po, none⟩) 256 pc) HX.out ?_))
 go_loopw [6, 7] (fun vv kv wr => ∃ (k vb vo vc : Nat), k ≤ cn ∧ kv = .int .i64 k ∧ vv = .slice (some ⟨vb, vo, none⟩) 256 vc ∧ Hid ((readD ss (cs.take k) at_).1 = .slice (some ⟨vb, vo, none⟩) 256 vc) ∧ Mem w wr [(b_2, #[.slice (some ⟨sb, so, none⟩) sn sc, .slice ca cn cc])] R) (fun _ kv _ => cn - (intOf kv).toNat)
 case atStart => exact ⟨0, pb, po, pc, Nat.zero_le _, rfl, rfl, Lib.hid HB0.out, hv⟩
 case round =>
   clear hv
   obtain ⟨k, vb, vo, vc, hk0, rfl, rfl, HV, hv⟩ := hrel
   by_cases hk : k < cn
   · have hki : (k : Int) < (cn : Int) := by omega
     have hkb : (k : Int) ≤ 512 := by have := HCN.out; omega
     have hkl : k < cs.length := by rw [HEC.out]; exact hk
     obtain ⟨p, hp⟩ : ∃ p, cs[k] = p := ⟨_, rfl⟩
     have hpm := HD.out.cd _ (List.getElem_mem hkl)
     have h0 := cellW0 cs hkl
     have h1 := cellW1 cs hkl
     rw [hp] at hpm h0 h1
     obtain ⟨qb, qo, qc, hpv⟩ := rd_256 (hv.rd hpm.2.1) hpm.2.2.1
     rw [hpv] at h1
     have HX0 := Lib.hid h0
     have HX1 := Lib.hid h1
     have HN : Hid (readD ss (cs.take (k + 1)) at_ = if p.1 = at_ then p.2 else readD ss (cs.take k) at_) := Lib.hid (by rw [take_snoc cs hkl, readD_snoc, hp])
     have HPV := Lib.hid hpv
     obtain ⟨xb, xo, _, _, e, hq⟩ := (hv.rd HD.out.c).some (by rw [cellsW_len]; omega)
     clear hq
     cases e
     have HKN := Lib.hid hk
     by_cases hpa : p.1 = at_
     · have y5 : decide ((p.1 : Int) = (at_ : Int)) = true := decide_eq_true (by omega)
       have y6 : ((p.1 : Int) == (at_ : Int)) = true := by rw [hpa]; simp
       have z5 : decide (p.1 = at_) = true := decide_eq_true hpa
       have HN2 : Hid ((readD ss (cs.take (k + 1)) at_).1 = .slice (some ⟨qb, qo, none⟩) 256 qc) := Lib.hid (by rw [HN.out, if_pos hpa]; exact HPV.out)
       clear hkl hp hpm h0 h1 hpv hk0 hk hpa
       go_wp2_with (first
         | ((with_reducible refine at_load (T := 61) ?_); refine wl_ldc rfl b_2 1 rfl _ hv.vars.ro _ Tryz.underlying61 rfl (.slice (some ⟨xb, xo, none⟩) cn cc) rfl ?_)
         | ((with_reducible refine at_load (T := 3) ?_); refine wl_rd rfl (hv.rd HD.out.c) (k * 2) rfl _ Tryz.underlying3 rfl (.int .i64 (p.1 : Nat)) HX0.out ?_)
         | ((with_reducible refine at_load (T := 24) ?_); refine wl_rd rfl (hv.rd HD.out.c) (k * 2 + 1) rfl _ Tryz.underlying24 rfl (.slice (some ⟨qb, qo, none⟩) 256 qc) HX1.out ?_))
       have hkn := HKN.out
       go_roundw
       case rel => exact ⟨k + 1, qb, qo, qc, by omega, by go_num, rfl, HN2, hv⟩
       case measure => simp [intOf]; omega
     · have y5 : decide ((p.1 : Int) = (at_ : Int)) = false := decide_eq_false (by omega)
       have y6 : ((p.1 : Int) == (at_ : Int)) = false := by simp; omega
       have z5 : decide (p.1 = at_) = false := decide_eq_false hpa
       have HN2 : Hid ((readD ss (cs.take (k + 1)) at_).1 = .slice (some ⟨vb, vo, none⟩) 256 vc) := Lib.hid (by rw [HN.out, if_neg hpa]; exact HV.out)
       clear hkl hp hpm h0 h1 hpv hk0 hk hpa
       go_wp2_with (first
         | ((with_reducible refine at_load (T := 61) ?_); refine wl_ldc rfl b_2 1 rfl _ hv.vars.ro _ Tryz.underlying61 rfl (.slice (some ⟨xb, xo, none⟩) cn cc) rfl ?_)
         | ((with_reducible refine at_load (T := 3) ?_); refine wl_rd rfl (hv.rd HD.out.c) (k * 2) rfl _ Tryz.underlying3 rfl (.int .i64 (p.1 : Nat)) HX0.out ?_))
       have hkn := HKN.out
       go_roundw
       case rel => exact ⟨k + 1, vb, vo, vc, by omega, by go_num, rfl, HN2, hv⟩
       case measure => simp [intOf]; omega
   · have hki : ¬ (k : Int) < (cn : Int) := by omega
     obtain rfl : k = cn := by omega
     have HV2 : Hid ((readD ss cs at_).1 = .slice (some ⟨vb, vo, none⟩) 256 vc) := Lib.hid (by have := HV.out; rw [List.take_of_length_le (by have := HEC.out; omega)] at this; exact this)
     clear hk hk0
     go_wp2_with (first
       | ((with_reducible refine at_load (T := 61) ?_); refine wl_ldc rfl b_2 1 rfl _ hv.vars.ro _ Tryz.underlying61 rfl (.slice ca k cc) rfl ?_))
     go_ret2
     exact ⟨by rw [HV2.out]; rfl, hv.below⟩
end Go.Proofs.YtjmibgomkgkhnaaGreat
end

section
/-
 What a disk's driver calls: parts put together, requests looked through, chains looked through.
-/
namespace Go.Proofs.Qu
open Go Go.RowKit Go.Proofs.Nm
theorem cellsPt_one (l : List Pt) : ∀ x ∈ cellsPt l, x.oneCell' = true := fun x hx => by
 unfold cellsPt at hx
 obtain ⟨p, _, hp⟩ := List.mem_flatMap.1 hx
 exact encP_one p x hp
abbrev Rq := Bool × Nat × Bool × Int
def encR (r : Rq) : List Value := [.bool r.1, .int .i64 (r.2.1 : Nat), .bool r.2.2.1, .int .i64 r.2.2.2]
def cellsR (l : List Rq) : List Value := l.flatMap encR
theorem cellsR_len (l : List Rq) : (cellsR l).length = l.length * 4 := len_flat (en := encR) (fun _ => rfl) l
theorem cellsR_part (l : List Rq) {k : Nat} (hk : k < l.length) : ((cellsR l).drop (k * 4)).take 4 = [.bool (l[k]'hk).1, .int .i64 ((l[k]'hk).2.1 : Nat), .bool (l[k]'hk).2.2.1, .int .i64 (l[k]'hk).2.2.2] := part_flat (k := 4) (en := encR) (fun _ => rfl) l k hk
end Go.Proofs.Qu
namespace Go.Proofs.YtjmibgomkgkhnaaGreat
open Go.Proofs.Qu Go.Proofs.Nm Go.RowKit Go.Proofs
def GrowB (w : World) (t : TypeId) (e : Ending) (w' : World) : Prop := ∃ G z, e = .returned (.slice (some ⟨w.heap.size, 0, none⟩) 0 G) ∧ G ≤ maxLen ∧ z.size = G * 3 ∧ w' = w.drew.alloc (.cells z t)
theorem GrowB_nil (n : Nat) (h0 : 0 < n) (hn : n ≤ 1000000) (w : World) : Calls Tryz.prog 108 #[.slice none 0 0, .int .i64 n] w (GrowB w 91) := by
 obtain ⟨i0, hi0, hz0, hs0, hb0⟩ := info_parts infoB3z
 have hrz : ∀ ty, (Builtin.append_ #[87, 3] ty #[.slice none 0 0, .int .i64 n]).run Tryz.prog w =
     .ok (.slice (some ⟨w.heap.size, 0, none⟩) (0 + n) (grownCap w (0 + n) 0 91)) (w.drew.alloc (.cells (([] : List Value).toArray ++ Builtin.zeroCells (Value.agg #[.int .i64 0, .int .i64 0, .bool false]).cells n ++ Builtin.zeroCells (Value.agg #[.int .i64 0, .int .i64 0, .bool false]).cells (grownCap w (0 + n) 0 91 - (0 + n))) 91)) := fun ty =>
   Lib.run_append_grow_zeros w 87 3 ty 91 i0 (.agg #[.int .i64 0, .int .i64 0, .bool false]) .i64 .i64 Tryz.underlying87 Tryz.underlying3 hi0 hz0 none 0 0 [] (run_firstCells_none w.drew i0.size 0 0 0) n h0 (by rw [hs0]; decide) (by first | omega | (unfold maxLen; omega)) (by first | omega | (unfold maxLen; omega)) (by rw [hb0]; omega) (growslice_fits (by omega) (by rw [hb0]; omega))
 obtain ⟨G, hG⟩ : ∃ G, grownCap w (0 + n) 0 91 = G := ⟨_, rfl⟩
 have hge := grownCap_ge w (0 + n) 0 91
 have hle := grownCap_le_maxLen w (0 + n) 0 91 (by unfold maxLen; omega)
 rw [hG] at hrz hge hle
 have q1 : IntKind.i64.wrap (n : Int) = (n : Int) := IntWalk.i64_in _ (by omega)
 have q2 : (0 : Int) < (n : Int) := by omega
 have q3 : ¬ (n : Int) < 0 := by omega
 obtain ⟨z, hz⟩ : ∃ z, (([] : List Value).toArray ++ Builtin.zeroCells (Value.agg #[.int .i64 0, .int .i64 0, .bool false]).cells n ++ Builtin.zeroCells (Value.agg #[.int .i64 0, .int .i64 0, .bool false]).cells (G - (0 + n))) = z := ⟨_, rfl⟩
 have hzs : z.size = G * 3 := by
   rw [← hz]
   simp only [Array.size_append, List.size_toArray, size_zeroCells, List.length_nil]
   simp [Value.cells]
   omega
 rw [hz] at hrz
 have HG : Hid (0 + n ≤ G ∧ G ≤ maxLen) := Lib.hid ⟨hge, hle⟩
 have HZ := Lib.hid hzs
 clear hz hG hge hle hn hzs
 go_enter Tryz.func108, Tryz.ntmps108
 go_wp2_with (at_builtin; refine Lib.wpList_append_run _ rfl _ _ _ _ rfl _ _ rfl rfl _ _ (hrz _) ?_)
 all_goals (go_ret; exact ⟨G, z, rfl, HG.out.2, HZ.out, rfl⟩)
theorem ConcatB_any (parts : List (Value × List Pt)) (sb so m mc : Nat) (w0 w : World) (L : List (Nat × Array Value)) (R : List (Nat × Value × List Value)) (hv0 : Mem w0 w L R) (hs : (1, .slice (some ⟨sb, so, none⟩) m mc, parts.map (·.1)) ∈ R) (hal : ∀ p ∈ parts, (3, p.1, cellsPt p.2) ∈ R) (hm : m ≤ 1000)
   (ht0 : 0 < (parts.flatMap (·.2)).length) (htm : (parts.flatMap (·.2)).length ≤ 100000) : Calls Tryz.prog 77 #[.slice (some ⟨sb, so, none⟩) m mc] w (OwnR 3 (cellsPt (parts.flatMap (·.2))) w) := by
 have hv := hv0.base
 have HS := Lib.hid hs
 have HA := Lib.hid hal
 have hpm : parts.length = m := by
   obtain ⟨_, _, _, e, g, _⟩ := hv0.rd hs
   cases e
   simpa using g
 have HPM := Lib.hid hpm
 obtain ⟨tot, htot⟩ : ∃ tot, tot = (parts.flatMap (·.2)).length := ⟨_, rfl⟩
 have HT0 : Hid (0 < tot) := Lib.hid (by rw [htot]; exact ht0)
 have HTM : Hid (tot ≤ 100000) := Lib.hid (by rw [htot]; exact htm)
 have HTE := Lib.hid htot
 have HTM6 : Hid (tot ≤ 1000000) := Lib.hid (by have := HTM.out; omega)
 have hsum : ∀ k, ((parts.take k).flatMap (·.2)).length ≤ tot := fun k => by
   rw [htot]
   conv => rhs; rw [← List.take_append_drop k parts, List.flatMap_append, List.length_append]
   omega
 have HSUM := Lib.hid hsum
 clear hs hal hpm ht0 htm htot hsum hv0
 go_enter Tryz.func77, Tryz.ntmps77
 go_wp2
 go_loopw [3, 11] (fun sv i wr => ∃ k : Nat, k ≤ m ∧ i = .int .i64 k ∧ sv = .int .i64 ((((parts.take k).flatMap (·.2)).length : Nat) : Int) ∧ Mem w wr [] R) (fun _ i _ => m - (intOf i).toNat)
 case atStart => exact ⟨0, Nat.zero_le _, rfl, rfl, hv⟩
 case round =>
   clear hv
   obtain ⟨k, hk, rfl, rfl, hv⟩ := hrel
   by_cases hk2 : k < m
   · have hki : (k : Int) < (m : Int) := by omega
     have hkl : k < parts.length := by rw [HPM.out]; exact hk2
     obtain ⟨⟨pv, pb⟩, hp⟩ : ∃ p, parts[k] = p := ⟨_, rfl⟩
     have hdm := HA.out parts[k] (List.getElem_mem hkl)
     rw [hp] at hdm
     obtain ⟨pa, pn, pc, rfl, _⟩ := id (hv.rd hdm)
     have hpn : pb.length = pn := len_rdPt (hv.rd hdm)
     have HK : Hid ((parts.map (·.1))[k]? = some (.slice pa pn pc)) := Lib.hid (by rw [List.getElem?_map, List.getElem?_eq_getElem hkl, hp]; rfl)
     have hTk : ((parts.take (k + 1)).flatMap (·.2)).length = ((parts.take k).flatMap (·.2)).length + pn := by rw [List.take_succ_eq_append_getElem hkl, hp, List.flatMap_append, List.length_append, ← hpn]; simp
     have HTK := Lib.hid hTk
     obtain ⟨a, ha⟩ : ∃ a, ((parts.take k).flatMap (·.2)).length = a := ⟨_, rfl⟩
     have hb1 := HSUM.out (k + 1)
     rw [hTk, ha] at hb1
     have hb2 := HTM.out
     rw [ha] at HTK ⊢
     clear hp hdm hpn hkl hTk ha
     go_wp2_with (first
       | ((with_reducible refine at_load (T := 87) ?_); refine wl_rd rfl (hv.rd HS.out) k rfl _ Tryz.underlying87 rfl (.slice pa pn pc) HK.out ?_))
     go_roundw
     case rel => exact ⟨k + 1, by omega, by go_num, by rw [HTK.out]; go_num, hv⟩
     case measure => simp [intOf]; omega
   · have hki : ¬ (k : Int) < (m : Int) := by omega
     have hkm : parts.take k = parts := List.take_of_length_le (by rw [HPM.out]; omega)
     rw [hkm, ← HTE.out]
     clear hk hk2 hkm
     go_wp2_with (first
       | (go_at_call 108; (with_reducible refine (GrowB_nil _ HT0.out HTM6.out _).mono ?_); rintro e w7 ⟨G, z, rfl, hG, hz, rfl⟩; replace hv := hv.new (new_drew _)))
     replace hv := hv.madeAt ⟨rfl, made_alloc _ z 91⟩
     have hrow0 : ∀ b, AppRow (.slice (some ⟨b, 0, none⟩) 0 G) 3 (cellsPt (([] : List (Value × List Pt)).flatMap (·.2))) (b, z) := fun b => ⟨0, G, rfl, rfl, Nat.zero_le _, hG, by simp only; omega, by simp [cellsPt]⟩
     go_loopw [6, 27] (fun v i wr => ∃ (k : Nat) (x0 : Nat × Array Value), k ≤ m ∧ i = .int .i64 k ∧ AppRow v 3 (cellsPt ((parts.take k).flatMap (·.2))) x0 ∧ Mem w wr [x0] R) (fun _ i _ => m - (intOf i).toNat)
     case atStart => exact ⟨0, _, Nat.zero_le _, rfl, hrow0 _, hv⟩
     case round =>
       clear hv hrow0
       obtain ⟨k, x0, hk, rfl, hrow, hv⟩ := hrel
       by_cases hk2 : k < m
       · have hki : (k : Int) < (m : Int) := by omega
         have hkl : k < parts.length := by rw [HPM.out]; exact hk2
         obtain ⟨⟨pv, pb⟩, hp⟩ : ∃ p, parts[k] = p := ⟨_, rfl⟩
         have hdm := HA.out parts[k] (List.getElem_mem hkl)
         rw [hp] at hdm
         obtain ⟨pa, pn, pc, rfl, _⟩ := id (hv.rd hdm)
         have HK : Hid ((parts.map (·.1))[k]? = some (.slice pa pn pc)) := Lib.hid (by rw [List.getElem?_map, List.getElem?_eq_getElem hkl, hp]; rfl)
         have HTK : Hid (cellsPt ((parts.take k).flatMap (·.2)) ++ cellsPt pb = cellsPt ((parts.take (k + 1)).flatMap (·.2))) := Lib.hid (by rw [List.take_succ_eq_append_getElem hkl, hp, List.flatMap_append]; simp [cellsPt])
         have hb1 := HSUM.out (k + 1)
         have hb2 := HTM.out
         have hle : (cellsPt ((parts.take k).flatMap (·.2))).length + (cellsPt pb).length ≤ 1000000 := by rw [← List.length_append, HTK.out, cellsPt_len]; omega
         have HB1 : Hid (((cellsPt ((parts.take k).flatMap (·.2))).length + (cellsPt pb).length) / 3 ≤ maxLen) := Lib.hid (by unfold maxLen; omega)
         have HB2 : Hid (((cellsPt ((parts.take k).flatMap (·.2))).length + (cellsPt pb).length) / 3 * 24 ≤ 140737488355328) := Lib.hid (by omega)
         have HDM := Lib.hid hdm
         have HROW := Lib.hid hrow
         obtain ⟨rn, rc, rfl, _⟩ := id hrow
         have hkb : (k : Int) ≤ 1000 := by omega
         clear hp hdm hkl hb1 hb2 hle hrow
         go_wp2_with (first
           | ((with_reducible refine at_load (T := 87) ?_); refine wl_rd rfl (hv.rd HS.out) k rfl _ Tryz.underlying87 rfl (.slice pa pn pc) HK.out ?_)
           | ((with_reducible refine at_append (t := 87) ?_); refine wl_apph rfl rfl hv HROW.out (.agg #[.int .i64 0, .int .i64 0, .bool false]) 24 Tryz.underlying87 infoB3z rfl (by decide) rfl (hv.rd HDM.out) (cellsPt_one _) HB1.out HB2.out ?_; intro v3 w3 x3 hrow3 hv1; replace hv := hv1; clear hv1; replace hrow3 := Lib.hid hrow3))
         go_roundw
         case rel => exact ⟨k + 1, x3, by omega, by go_num, by rw [← HTK.out]; exact hrow3.out, hv⟩
         case measure => simp [intOf]; omega
       · have hki : ¬ (k : Int) < (m : Int) := by omega
         have hkm : parts.take k = parts := List.take_of_length_le (by rw [HPM.out]; omega)
         rw [hkm] at hrow
         have HROW := Lib.hid hrow
         obtain ⟨rn, rc, rfl, _⟩ := id hrow
         clear hk hk2 hkm hrow
         go_wp2
         go_ret
         exact OwnR.of HROW.out hv
end Go.Proofs.YtjmibgomkgkhnaaGreat
end
