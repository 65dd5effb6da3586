/-
  Contracts: spec.l6Open makes a reader of a code; its method pick draws a number from 0 to n - 1 and moves on.
-/
import Derived.Test.YtkmnjekpogbkkaaProg
import Derived.Test.YtkmnjekpogbkkaaWords
import Derived.Deep.QuietTactic
import Derived.BigQuiet
import Derived.Laws.BitsAllLaws
import Derived.Laws.BitsLemmas
import Derived.IntWalk
namespace Go.Proofs.Ytkmnjekpogbkkaa
open Go.RowKit
set_option linter.unusedVariables false

/-- In block g lies a reader: a slice of at most 2000 bytes and the place p; the bytes lie elsewhere. -/
def Rdr (w : World) (g : Nat) (p : Nat) : Prop :=
  ∃ (A : Option Addr) (n c : Nat) (bs : List Int), w.heap[g]? = some (.cells #[.slice A n c, .int .i64 (p : Int)] 78 (0, 0)) ∧ IntsK .u8 w A n bs ∧ n ≤ 2000 ∧
    (∀ j, 0 ≤ el bs j ∧ el bs j ≤ 255) ∧ (∀ b off, A = some ⟨b, off, none⟩ → 0 < n → b < g)

theorem heap_lt {w : World} {g : Nat} {o : Obj} (h : w.heap[g]? = some o) : g < w.heap.size := by
  rcases Nat.lt_or_ge g w.heap.size with hlt | hge
  · exact hlt
  · rw [Array.getElem?_eq_none hge] at h; cases h

theorem Rdr.lt {w : World} {g p : Nat} (h : Rdr w g p) : g < w.heap.size := by
  obtain ⟨_, _, _, _, hh, _⟩ := h
  exact heap_lt hh

/-- A reader is kept where its own block and those of other values are as they were. -/
theorem Rdr.keep {w w' : World} {g p : Nat} (h : Rdr w g p) (hk : ∀ k, k < w.heap.size → w'.heap[k]? = w.heap[k]?) : Rdr w' g p := by
  have hlt := h.lt
  obtain ⟨A, n, c, bs, hh, hz, r⟩ := h
  exact ⟨A, n, c, bs, (hk g hlt).trans hh, hz.keep fun q hq => World.cell?_of_block (hk q.block hq), r⟩
theorem Rdr.below {w w' : World} {g p : Nat} (h : Rdr w g p) (hb : Below w.heap.size w w') : Rdr w' g p := h.keep fun k hk => hb.block k hk
theorem Rdr.alloc {w : World} {g p : Nat} (h : Rdr w g p) (o : Obj) : Rdr (w.alloc o) g p := h.keep fun k hk => Below.heap_alloc w o k hk
/-- .. and where only a block beyond the reader's has changed. -/
theorem Rdr.off {w w' : World} {g p : Nat} {row : Option Nat} (h : Rdr w g p) (hg : w.grownBy w' row) (hr : ∀ k, row = some k → g < k) : Rdr w' g p := by
  have hlt := h.lt
  obtain ⟨A, n, c, bs, hh, hz, hn, hbs, hne⟩ := h
  have hk : ∀ k, k ≤ g → w'.heap[k]? = w.heap[k]? := fun k hk => hg.block k (by omega) (fun e => by have := hr k e.symm; omega)
  refine ⟨A, n, c, bs, (hk g (Nat.le_refl _)).trans hh, ⟨hz.1, fun hpos => ?_⟩, hn, hbs, hne⟩
  obtain ⟨b, off, e, hc⟩ := hz.2 hpos
  exact ⟨b, off, e, fun j hj => (World.cell?_of_block (w := w) (a := ⟨b, off + j, none⟩) (hk b (Nat.le_of_lt (hne b off e hpos)))).trans (hc j hj)⟩
theorem Rdr.drewN {w : World} {g p : Nat} (h : Rdr w g p) (n : Nat) : Rdr (w.drewN n) g p := h

/-- pick's end: a number below N; the reader has moved on by one; all other blocks are as they were. -/
def PickPost (w : World) (g p : Nat) (N : Int) (e : Ending) (w' : World) : Prop :=
  ∃ m : Int, 0 ≤ m ∧ m < N ∧ e = .returned (.int .i64 m) ∧ Rdr w' g (p + 1) ∧ w.grownBy w' (some g)

theorem tmod_bounds {x N : Int} (h0 : 0 ≤ x) (hN : 1 ≤ N) : 0 ≤ x % N ∧ x % N < N := ⟨Int.emod_nonneg _ (by omega), Int.emod_lt_of_pos _ (by omega)⟩

theorem xor_nonneg {x y : Int} (hx : 0 ≤ x) (hy : 0 ≤ y) (hx' : x < 1000000000) (hy' : y < 1000000000) : 0 ≤ bits .xor .i64 x y := by
  obtain ⟨a, rfl⟩ := Int.eq_ofNat_of_zero_le hx
  obtain ⟨b, rfl⟩ := Int.eq_ofNat_of_zero_le hy
  have ofI : ∀ n : Nat, n < 1000000000 → (BitVec.ofInt 64 (n : Int)).toNat = n := fun n hn => by
    rw [BitVec.ofInt_natCast, BitVec.toNat_ofNat]; exact Nat.mod_eq_of_lt (by omega)
  have hlt : a ^^^ b < 2 ^ 30 := Nat.xor_lt_two_pow (by omega) (by omega)
  show 0 ≤ IntKind.i64.wrap ((BitVec.ofInt 64 (a : Int) ^^^ BitVec.ofInt 64 (b : Int)).toNat : Int)
  rw [BitVec.toNat_xor, ofI a (by omega), ofI b (by omega), IntKind.wrap_i64]
  omega

section
variable {w : World} {g p n c : Nat} {A : Option Addr} {bs : List Int}
/-- What the store of the new place leaves. -/
theorem rdr_stored (hh : w.heap[g]? = some (.cells #[.slice A n c, .int .i64 (p : Int)] 78 (0, 0))) (hz : IntsK .u8 w A n bs) (hn : n ≤ 2000) (hbs : ∀ j, 0 ≤ el bs j ∧ el bs j ≤ 255)
    (hne : ∀ b off, A = some ⟨b, off, none⟩ → 0 < n → b < g) (q : Nat) :
    Rdr ((w.setCell ⟨g, 1, none⟩ (.int .i64 ((p : Int) + 1))).drewN q) g (p + 1) ∧ w.grownBy ((w.setCell ⟨g, 1, none⟩ (.int .i64 ((p : Int) + 1))).drewN q) (some g) := by
  have h1 : (w.setCell ⟨g, 1, none⟩ (.int .i64 ((p : Int) + 1))).heap[g]? = some (.cells #[.slice A n c, .int .i64 ((p + 1 : Nat) : Int)] 78 (0, 0)) := by
    simp [World.setCell, Array.getElem?_modify, hh]
  have h2 : ∀ k, k ≠ g → (w.setCell ⟨g, 1, none⟩ (.int .i64 ((p : Int) + 1))).heap[k]? = w.heap[k]? := fun k hk => Below.heap_setCell w _ _ k hk
  refine ⟨⟨A, n, c, bs, h1, ⟨hz.1, fun hpos => ?_⟩, hn, hbs, hne⟩, ⟨rfl, rfl, rfl, by simp, fun k _ hk => h2 k (fun e => hk (by rw [e]))⟩⟩
  obtain ⟨b, off, e, hb, hc⟩ := hz.at_ hpos
  refine ⟨b, off, e, fun j hj => ?_⟩
  exact (World.cell?_of_block (w := w) (a := ⟨b, off + j, none⟩) (h2 b (Nat.ne_of_lt (hne b off e hpos)))).trans (hc j hj)
end

set_option maxHeartbeats 1000000 in
theorem pick_any (g p : Nat) (N : Int) (w : World) (h : Rdr w g p) (hp : p ≤ 100000) (hN : 1 ≤ N) (hN' : N ≤ 1000000) :
    Calls Try.prog 36 #[.pointer (some ⟨g, 0, none⟩), .int .i64 N] w (PickPost w g p N) := by
  obtain ⟨A, n, c, bs, hh, hz, hn, hbs, hne⟩ := h
  have HS := Lib.hid (fun q => rdr_stored (p := p) hh hz hn hbs hne q)
  have c0 : w.cell? ⟨g, 0, none⟩ = some (.slice A n c) := by rw [cell_of_row w g 0 _ _ _ hh]; rfl
  have c1 : w.cell? ⟨g, 1, none⟩ = some (.int .i64 (p : Int)) := by rw [cell_of_row w g 1 _ _ _ hh]; rfl
  have f1 : w.frozen? ⟨g, 1, none⟩ = false := by simp [World.frozen?, hh]
  have d0 : (w.setCell ⟨g, 1, none⟩ (.int .i64 ((p : Int) + 1))).cell? ⟨g, 0, none⟩ = some (.slice A n c) := (World.cell?_setCell_other _ _ _ _ (by simp)).trans c0
  have d1 : (w.setCell ⟨g, 1, none⟩ (.int .i64 ((p : Int) + 1))).cell? ⟨g, 1, none⟩ = some (.int .i64 ((p : Int) + 1)) := World.cell?_setCell_same _ _ _ c1
  rcases Nat.eq_zero_or_pos n with rfl | hpos
  · have hz0 : ((0 : Int) == 0) = true := rfl
    clear hh hz hbs hne
    go_enter Try.func36, Try.ntmps36
    go_wp2
    go_ret
    exact ⟨0, by omega, by omega, rfl, (HS.out 0).1, (HS.out 0).2⟩
  · obtain ⟨b, off, rfl, hb, hc⟩ := hz.at_ hpos
    have hbg : b ≠ g := Nat.ne_of_lt (hne b off rfl hpos)
    have hc' : ∀ j, j < n → (w.setCell ⟨g, 1, none⟩ (.int .i64 ((p : Int) + 1))).cell? ⟨b, off + j, none⟩ = some (.int .u8 (el bs j)) := fun j hj =>
      (World.cell?_of_block (w := w) (a := ⟨b, off + j, none⟩) (Below.heap_setCell w _ _ b hbg)).trans (hc j hj)
    have HC := Lib.hid hc'
    have HB := Lib.hid hbs
    have hn0 : ((n : Int) == 0) = false := by simp; omega
    clear hh hz hbs hne hc hc' hb
    by_cases hlt : p < n
    · have hcell := HC.out p hlt
      have hb1 := (HB.out p).1
      have hb2 := (HB.out p).2
      go_enter Try.func36, Try.ntmps36
      go_wp2
      go_ret
      exact ⟨_, (tmod_bounds hb1 hN).1, (tmod_bounds hb1 hN).2, rfl, (HS.out 0).1, (HS.out 0).2⟩
    · have hge : n ≤ p := by omega
      clear hlt
      go_enter Try.func36, Try.ntmps36
      have hb1 := HB.out (p % n)
      have hb2 := HB.out ((p * 7 + 3) % n)
      have hm1 : p % n < n := Nat.mod_lt _ hpos
      have hm2 : (p * 7 + 3) % n < n := Nat.mod_lt _ hpos
      have hc1 := HC.out (p % n) hm1
      have hc2 := HC.out ((p * 7 + 3) % n) hm2
      have hdv : p / n ≤ 100000 := Nat.le_trans (Nat.div_le_self _ _) hp
      generalize el bs (p % n) = B1 at hb1 hc1
      generalize el bs ((p * 7 + 3) % n) = B2 at hb2 hc2
      obtain ⟨hb1a, hb1b⟩ := hb1
      obtain ⟨hb2a, hb2b⟩ := hb2
      have q1 : (p : Int).tmod (n : Int) = ((p % n : Nat) : Int) := rfl
      have q2 : ((p : Int) * 7 + 3).tmod (n : Int) = (((p * 7 + 3) % n : Nat) : Int) := rfl
      have q3 : (p : Int).tdiv (n : Int) = ((p / n : Nat) : Int) := rfl
      generalize p % n = m1 at hm1 hc1 q1
      generalize (p * 7 + 3) % n = m2 at hm2 hc2 q2
      generalize p / n = d1 at hdv q3
      have v1 : IntKind.i64.wrap ((p : Int) * 7) = (p : Int) * 7 := IntWalk.i64_in _ (by omega)
      have v2 : IntKind.i64.wrap ((p : Int) * 7 + 3) = (p : Int) * 7 + 3 := IntWalk.i64_in _ (by omega)
      have v3 : IntKind.i64.wrap B1 = B1 := IntWalk.i64_in _ (by omega)
      have v4 : IntKind.i64.wrap B2 = B2 := IntWalk.i64_in _ (by omega)
      obtain ⟨X1, x1, x1a, x1b⟩ : ∃ X, IntKind.i64.wrap (B1 * 131) = X ∧ 0 ≤ X ∧ X ≤ 100000 := ⟨_, IntWalk.i64_in _ (by omega), by omega, by omega⟩
      obtain ⟨X2, x2, x2a, x2b⟩ : ∃ X, IntKind.i64.wrap (B2 * 1117) = X ∧ 0 ≤ X ∧ X ≤ 1000000 := ⟨_, IntWalk.i64_in _ (by omega), by omega, by omega⟩
      obtain ⟨X3, x3, x3a, x3b⟩ : ∃ X, IntKind.i64.wrap (X1 + X2) = X ∧ 0 ≤ X ∧ X ≤ 2000000 := ⟨_, IntWalk.i64_in _ (by omega), by omega, by omega⟩
      obtain ⟨X4, x4, x4a, x4b⟩ : ∃ X, IntKind.i64.wrap ((p : Int) * 29) = X ∧ 0 ≤ X ∧ X ≤ 3000000 := ⟨_, IntWalk.i64_in _ (by omega), by omega, by omega⟩
      obtain ⟨X5, x5, x5a, x5b⟩ : ∃ X, IntKind.i64.wrap (X3 + X4) = X ∧ 0 ≤ X ∧ X ≤ 6000000 := ⟨_, IntWalk.i64_in _ (by omega), by omega, by omega⟩
      obtain ⟨X6, x6, x6a, x6b⟩ : ∃ X, IntKind.i64.wrap ((d1 : Int) * 53) = X ∧ 0 ≤ X ∧ X ≤ 6000000 := ⟨_, IntWalk.i64_in _ (by omega), by omega, by omega⟩
      obtain ⟨X7, x7, x7a, x7b⟩ : ∃ X, IntKind.i64.wrap (X5 + X6) = X ∧ 0 ≤ X ∧ X ≤ 20000000 := ⟨_, IntWalk.i64_in _ (by omega), by omega, by omega⟩
      have v5 : IntKind.i64.wrap (d1 : Int) = (d1 : Int) := IntWalk.i64_in _ (by omega)
      have hm1' : (m1 : Int) < (n : Int) := by omega
      have hm2' : (m2 : Int) < (n : Int) := by omega
      have HX := Lib.hid (tmod_bounds (xor_nonneg (x := X7) (y := X7 / 64) x7a (by omega) (by omega) (by omega)) hN)
      have hx0 := xor_nonneg (x := X7) (y := X7 / 64) x7a (by omega) (by omega) (by omega)
      have e1 := Lib.hid q1
      have e2 := Lib.hid q2
      have e3 := Lib.hid q3
      clear q1 q2 q3
      go_wp2
      have q1 := e1.out
      have q2 := e2.out
      have q3 := e3.out
      go_quiet (fail)
      clear q1 q2 q3 v1 v2 v3 v4 v5 x1 x2 x3 x4 x5 x6 x7
      go_wp2
      go_ret
      exact ⟨_, HX.out.1, HX.out.2, rfl, (HS.out _).1, (HS.out _).2⟩

/-- l6Open's end: a new reader at its first place. -/
def OpenPost (w : World) (e : Ending) (w' : World) : Prop := ∃ g, e = .returned (.pointer (some ⟨g, 0, none⟩)) ∧ w.heap.size ≤ g ∧ Rdr w' g 0 ∧ Below w.heap.size w w'

theorem rdr_new {w : World} {A : Option Addr} {n c : Nat} {bs : List Int} (hz : IntsK .u8 w A n bs) (hn : n ≤ 2000) (hbs : ∀ j, 0 ≤ el bs j ∧ el bs j ≤ 255) :
    Rdr (w.alloc (.cells #[.slice A n c, .int .i64 0] 78)) w.heap.size 0 ∧ Below w.heap.size w (w.alloc (.cells #[.slice A n c, .int .i64 0] 78)) := by
  have hb : Below w.heap.size w (w.alloc (.cells #[.slice A n c, .int .i64 0] 78)) := (Below.refl _ _).alloc (Nat.le_refl _) _
  refine ⟨⟨A, n, c, bs, heap_alloc_new w _, hz.below hb, hn, hbs, fun b off e hpos => ?_⟩, hb⟩
  obtain ⟨b', off', e', hlt, _⟩ := hz.at_ hpos
  rw [e] at e'
  injection e' with e'
  injection e' with e1 e2
  rw [e1]; exact hlt

theorem IntsK.cut {kd : IntKind} {w : World} {A : Option Addr} {n k : Nat} {bs : List Int} (hz : IntsK kd w A n bs) (hk : k ≤ n) : IntsK kd w A k (bs.take k) := by
  refine ⟨by rw [List.length_take, hz.len]; omega, fun hpos => ?_⟩
  obtain ⟨b, off, e, hc⟩ := hz.2 (by omega)
  refine ⟨b, off, e, fun j hj => ?_⟩
  rw [hc j (by omega)]
  congr 2
  simp [el, hj]

theorem l6Open_any (A : Option Addr) (n c : Nat) (bs : List Int) (w : World) (hz : IntsK .u8 w A n bs) (hn : n ≤ 1048576) (hc : n ≤ c) (hbs : ∀ j, 0 ≤ el bs j ∧ el bs j ≤ 255) :
    Calls Try.prog 33 #[.slice A n c] w (OpenPost w) := by
  by_cases h : n ≤ 2000
  · have HR := Lib.hid (rdr_new (c := c) hz h hbs)
    clear hbs
    go_enter Try.func33, Try.ntmps33
    go_wp2
    go_ret
    exact ⟨_, rfl, Nat.le_refl _, HR.out.1, HR.out.2⟩
  · have h' : 2000 < n := by omega
    have hbs' : ∀ j, 0 ≤ el (bs.take 2000) j ∧ el (bs.take 2000) j ≤ 255 := fun j => by
      rcases Nat.lt_or_ge j 2000 with hj | hj
      · have := hbs j
        simpa [el, hj] using this
      · have : el (bs.take 2000) j = 0 := by simp [el, List.getElem?_take, show ¬ j < 2000 by omega]
        omega
    have HR := Lib.hid (rdr_new (c := c) (hz.cut (k := 2000) (by omega)) (Nat.le_refl _) hbs')
    obtain ⟨b, off, rfl, hb, hcc⟩ := hz.at_ (by omega)
    clear hbs hbs' h hcc
    go_enter Try.func33, Try.ntmps33
    go_wp2
    go_ret
    exact ⟨_, rfl, Nat.le_refl _, HR.out.1, HR.out.2⟩

end Go.Proofs.Ytkmnjekpogbkkaa
