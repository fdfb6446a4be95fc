import Derived.Test.YthenepdbgeafkaaGAP
import Derived.Test.YthenepdbgeafkaaGAO
import Derived.Lib.SlBytesConst
import Derived.Test.YthenepdbgeafkaaGAA
set_option linter.unusedSimpArgs false
set_option linter.unusedVariables false
section
/-
 The walk of the window laws' own head.
-/
namespace Go.Proofs.Wi
open Go Go.RowKit
theorem took_calc1 {s : St} (h : chk s = true) {seq : Nat} {data b0 : List Nat} {srt r0 : List Sp} (hp : srt.Perm (allL s seq data)) (hs : srt.Pairwise fun x y => x.1 ≤ y.1) (e : merge [] srt = (0, b0) :: r0) {b : List Nat} {rest : List Sp} (ht : Took (gF s seq data) b rest) : b = b0 ∧ rest = r0 := by
 obtain ⟨b', rest', hm, ht'⟩ := took_of_merge h hp hs
 obtain ⟨rfl, rfl⟩ := ht.unique ht'
 rcases hm with ⟨hb, e'⟩ | ⟨hb, e'⟩
 · rw [e] at e'
   cases e'
   exact ⟨rfl, rfl⟩
 · rw [e] at e'
   have := ht.sep.lo (0, b0) (by rw [← e']; simp)
   rw [hb] at this
   simp only [List.length_nil] at this
   omega
end Go.Proofs.Wi
namespace Go
open Go.RowKit Go.Proofs.Wi
section
variable {P : Program} {ops : Array Oper} {rest : List Oper} {a : Act} {w : World} {Q : Exit → Act → World → Prop}
variable {dst : Option Tmp} {ty T T' e : TypeId} {pos : String} {after : Array Edge} {g : Option (Nat × Bool)} {x : Operand}
theorem at_conv (h : wpList P ops Q (⟨dst, .convert T T' x, ty, pos, after, g⟩ :: rest) a w) : wpList P ops Q (⟨dst, .convert T T' x, ty, pos, after, g⟩ :: rest) a w := h
theorem wl_str (hgd : Region.wanted (⟨dst, .convert T T' x, ty, pos, after, g⟩ : Oper) (yielded ops a.tmps) = true) {v : Value} {l : List Nat} (hx : a.eval x = v) (hs : P.underlying T = some (.slice e)) (he : P.underlying e = some (.int .u8)) (hd : P.underlying T' = some .string) (hrd : Rd w 1 v (cellsB l)) (hg : goodB l)
   {s : ByteArray} (hst : bstr l = s) (hk : wpList P ops Q rest (a.put dst (.string s)) w) : wpList P ops Q (⟨dst, .convert T T' x, ty, pos, after, g⟩ :: rest) a w := by
 subst hst
 refine wpList_want hgd fun K hK => ?_
 have h' := run_str T T' e hs he hd hrd hg
 unfold Oper.wp execOp
 simp only [hx, Sem.run_bind, h', Result.andThen_ok, Sem.run_pure]
 exact hK _ _ hk
theorem wl_bconv {w0 : World} {L : LV} {R : LR} {C : Array Value} {n : Nat} {bs : List Nat} (hgd : Region.wanted (⟨dst, .convert T T x, ty, pos, after, g⟩ : Oper) (yielded ops a.tmps) = true) (hv : Mem w0 w L R) (hx : a.eval x = .slice (some ⟨w.heap.size, 0, none⟩) n n)
   (ht : P.underlying T = some (.slice e)) (he : P.underlying e = some (.int .u8)) (hC : C.toList = cellsB bs) (hn : bs.length = n) (hm : n ≤ maxLen) (hk : ∀ b w', Mem w0 w' L ((1, .slice (some ⟨b, 0, none⟩) n n, cellsB bs) :: R) → wpList P ops Q rest (a.put dst (.slice (some ⟨b, 0, none⟩) n n)) w') :
   wpList P ops Q (⟨dst, .convert T T x, ty, pos, after, g⟩ :: rest) a (w.alloc (.cells C e)) := by
 refine wpList_want hgd fun K hK => ?_
 have h' := Lib.run_convert_bytes_const (P := P) w T e C n n ht he
 have hnew : New w (w.alloc (.cells C e (C.size, C.size + 1))) := (Below.refl _ _).alloc (Nat.le_refl _) _
 have hrd : Rd (w.alloc (.cells C e (C.size, C.size + 1))) 1 (.slice (some ⟨w.heap.size, 0, none⟩) n n) (cellsB bs) :=
   ⟨some ⟨w.heap.size, 0, none⟩, n, n, rfl, by rw [cellsB_len, hn, Nat.mul_one], Nat.le_refl _, hm, (fun h => by cases h), fun i hi => ⟨w.heap.size, 0, rfl, by show w.heap.size < (w.heap.push _).size; rw [Array.size_push]; omega, by rw [Nat.zero_add, World.cell?_alloc_mark, ← hC, Array.getElem?_toList]⟩⟩
 have hmem := hv.fresh hnew ⟨hrd, fun _ => ⟨w.heap.size, 0, n, n, rfl, Nat.le_refl _⟩⟩
 unfold Oper.wp execOp
 simp only [hx, Sem.run_bind, h', Result.andThen_ok, Sem.run_pure]
 exact hK _ _ (hk _ _ hmem)
end
end Go
namespace Go.Proofs.Ythenepdbgeafkaa
open Go.Proofs.Wi Go.RowKit
section
variable {w0 w : World} {L : LV} {R : LR} {nx bn bc pn pc : Nat} {ba pa : Option Addr} {s : St} {l : List PcV}
end
end Go.Proofs.Ythenepdbgeafkaa
end

section
/-
 The tcp laws' own head: what each step comes to. No program in sight.
-/
namespace Go.Proofs.Tp
open Go Go.RowKit Go.Proofs.Wi
theorem Take_run {now : Nat} {g : G} {t : T} {c' : C} (h : Take now g t c') (h0 : chkG g = true) (h1 : g.src = t.po) (h2 : g.dst = t.lo) (h3 : t.st ≠ 0) (h4 : t.st ≠ 1) (h5 : againSyn g t = false) (h6 : fits g t = true) (h7 : has g.fl 4 = false) (h8 : has g.fl 2 = false) (h9 : has g.fl 16 = true) {a : C} (ha : acked now g ⟨t, []⟩ = (a, true)) (hb : has g.fl 1 = false) :
   ∃ s', (if openS a.t = true ∧ 0 < g.data.length then Took1 a.t.inn g.seq g.data s' else s' = a.t.inn) ∧ c' = lastAck g (flush now { a with t := { a.t with inn := s' } }) := by
 unfold Take at h
 rw [if_neg (by rintro (x | x | x | x); · rw [h0] at x; cases x
                · exact x h1
                · exact x h2
                · exact h3 x), if_neg h4] at h
 unfold Taken at h
 rw [if_neg (by rw [h5]; decide), if_neg (by rw [h6]; decide), if_neg (by rw [h7]; decide), if_neg (by rw [h8]; decide), if_neg (by rw [h9]; decide), ha, if_neg (fun x => by cases x)] at h
 obtain ⟨c1, ⟨s', h10, h11⟩, h12⟩ := h
 refine ⟨s', h10, ?_⟩
 rw [h12, h11]
 dsimp only
 rw [if_pos hb]
def hA1 : T := ⟨1, 7, 5, 80, 100, 100, 101, [], 0, false, false, ⟨0, [], []⟩, false, 14, 4, 0, 0⟩
def hg0 : G := ⟨7, 80, 100, 0, 2, 256, []⟩
def hB1 : T := ⟨2, 80, 6, 7, 500, 500, 501, [], 256, false, false, ⟨101, [], []⟩, false, 14, 4, 0, 0⟩
def hg1 : G := ⟨80, 7, 500, 101, 18, 256, []⟩
def hA2 : T := ⟨3, 7, 5, 80, 100, 101, 101, [], 256, false, false, ⟨501, [], []⟩, false, 0, 4, 0, 0⟩
def hg2 : G := ⟨7, 80, 101, 501, 16, 256, []⟩
def hB2 : T := ⟨3, 80, 6, 7, 500, 501, 501, [], 256, false, false, ⟨101, [], []⟩, false, 0, 4, 0, 0⟩
def hello : List Nat := [104, 101, 108, 108, 111]
def hA3 : T := ⟨3, 7, 5, 80, 100, 101, 106, [104, 101, 108, 108, 111], 256, false, false, ⟨501, [], []⟩, false, 16, 4, 0, 0⟩
def hg3 : G := ⟨7, 80, 101, 501, 24, 256, [104, 101, 108, 108, 111]⟩
def hB3 : T := ⟨3, 80, 6, 7, 500, 501, 501, [], 256, false, false, ⟨106, [104, 101, 108, 108, 111], []⟩, false, 0, 4, 0, 0⟩
def hg4 : G := ⟨80, 7, 501, 106, 16, 251, []⟩
def hA4 : T := ⟨3, 7, 5, 80, 100, 106, 106, [], 251, false, false, ⟨501, [], []⟩, false, 0, 4, 0, 0⟩
def hB4 : T := ⟨3, 80, 6, 7, 500, 501, 501, [], 256, false, false, ⟨106, [], []⟩, false, 0, 4, 0, 0⟩
def hA5 : T := ⟨4, 7, 5, 80, 100, 106, 107, [], 251, true, true, ⟨501, [], []⟩, false, 17, 4, 0, 0⟩
def hg5 : G := ⟨7, 80, 106, 501, 17, 256, []⟩
theorem h_A1 : connect 7 5 80 100 10 = ⟨hA1, [hg0]⟩ := by rfl
theorem h_B1 : accept 80 6 500 10 hg0 = ⟨hB1, [hg1]⟩ := by rfl
theorem h_A2 {c' : C} (h : Take 11 hg1 hA1 c') : c' = ⟨hA2, [hg2]⟩ := by
 unfold Take at h
 rw [if_neg (by decide +kernel), if_pos (by decide)] at h
 rw [h]; rfl
theorem h_B2 {c' : C} (h : Take 11 hg2 hB1 c') : c' = ⟨hB2, []⟩ := by
 obtain ⟨s', h1, h2⟩ := Take_run (a := ⟨hB2, []⟩) h (by decide +kernel) rfl rfl (by decide) (by decide) (by decide +kernel) (by decide +kernel) (by decide) (by decide) (by decide) rfl (by decide)
 rw [if_neg (by decide +kernel)] at h1
 subst h1
 rw [h2]; rfl
theorem h_A3 : write hello 12 hA2 = ⟨hA3, [hg3]⟩ := by rfl
theorem calcH {b : List Nat} {rest : List Sp} (h : Took (gF ⟨101, [], []⟩ 101 [104, 101, 108, 108, 111]) b rest) : b = [104, 101, 108, 108, 111] ∧ outS ⟨101, [], []⟩ b rest = ⟨106, [104, 101, 108, 108, 111], []⟩ := by
 have e : allL ⟨101, [], []⟩ 101 [104, 101, 108, 108, 111] = [(0, [104, 101, 108, 108, 111])] := by decide +kernel
 obtain ⟨rfl, rfl⟩ := took_calc1 (srt := [(0, [104, 101, 108, 108, 111])]) (b0 := [104, 101, 108, 108, 111]) (r0 := []) (by decide +kernel) (by rw [e]) (by decide) (by decide +kernel) h
 exact ⟨rfl, rfl⟩
theorem h_B3 {c' : C} (h : Take 12 hg3 hB2 c') : c' = ⟨hB3, [hg4]⟩ := by
 obtain ⟨s', h1, h2⟩ := Take_run (a := ⟨hB2, []⟩) h (by decide +kernel) rfl rfl (by decide) (by decide) (by decide +kernel) (by decide +kernel) (by decide) (by decide) (by decide) rfl (by decide)
 rw [if_pos (by decide +kernel)] at h1
 obtain ⟨b, r, ht, rfl⟩ := h1
 have h3 := (calcH ht).2
 rw [h2, show outS hB2.inn b r = _ from h3]; rfl
theorem h_A4 {c' : C} (h : Take 12 hg4 hA3 c') : c' = ⟨hA4, []⟩ := by
 obtain ⟨s', h1, h2⟩ := Take_run (a := ⟨hA4, []⟩) h (by decide +kernel) rfl rfl (by decide) (by decide) (by decide +kernel) (by decide +kernel) (by decide) (by decide) (by decide) rfl (by decide)
 rw [if_neg (by decide +kernel)] at h1
 subst h1
 rw [h2]; rfl
theorem h_B4 : Tp.read 9 hB3 = (⟨hB4, []⟩, hello) := by rfl
theorem h_A5 : close 13 ⟨hA4, []⟩ = ⟨hA5, [hg5]⟩ := by rfl
theorem ck_hA1 : chkT hA1 = true := by decide +kernel
theorem ck_hB1 : chkT hB1 = true := by decide +kernel
theorem ck_hA2 : chkT hA2 = true := by decide +kernel
theorem ck_hB2 : chkT hB2 = true := by decide +kernel
theorem ck_hA3 : chkT hA3 = true := by decide +kernel
theorem ck_hB3 : chkT hB3 = true := by decide +kernel
theorem ck_hA4 : chkT hA4 = true := by decide +kernel
theorem ck_hB4 : chkT hB4 = true := by decide +kernel
end Go.Proofs.Tp
end
