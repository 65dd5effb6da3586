/-
  Contracts: spec.l91Samples and spec.l91Lag draw samples and a lag; they write to the reader's block alone.
-/
import Derived.Test.YtiehommofdjgcaaReader
import Derived.Test.YtiehommofdjgcaaInts
import Derived.OwnWalk
namespace Go.Proofs.Ytiehommofdjgcaa
open Go.RowKit
set_option linter.unusedVariables false

theorem grown_below {w w1 w2 : World} {row : Option Nat} (h : w.grownBy w1 row) (hb : Below w1.heap.size w1 w2) : w.grownBy w2 row :=
  ⟨hb.os.trans h.os, hb.tape.trans h.tape, hb.output.trans h.output, Nat.le_trans h.size hb.size, fun k hk hne => (hb.block k (Nat.lt_of_lt_of_le hk h.size)).trans (h.block k hk hne)⟩
theorem grown_own {w w1 w2 : World} {row row' : Option Nat} (h : w.grownBy w1 row) (h2 : w1.grownBy w2 row') (hr : ∀ k, row' = some k → w.heap.size ≤ k) : w.grownBy w2 row :=
  ⟨h2.os.trans h.os, h2.tape.trans h.tape, h2.output.trans h.output, Nat.le_trans h.size h2.size, fun k hk hne => (h2.block k (Nat.lt_of_lt_of_le hk h.size) (fun e => by have := hr k e.symm; omega)).trans (h.block k hk hne)⟩
theorem below_grown {w w1 w2 : World} {g : Nat} (h : Below w.heap.size w w1) (hg : w1.grownBy w2 (some g)) (hle : w.heap.size ≤ g) : Below w.heap.size w w2 :=
  h.grown hg h.size (fun k e => by cases e; exact hle)

/-- Samples have been drawn: a slice in new memory; the reader has moved on. -/
def SamPost (w : World) (g p : Nat) (e : Ending) (w' : World) : Prop :=
  ∃ A n c zs p', e = .returned (.slice A n c) ∧ OwnI w' w.heap.size A n c zs ∧ n ≤ 100 ∧ Rdr w' g p' ∧ p' ≤ p + 101 ∧ w.grownBy w' (some g)

set_option maxHeartbeats 1000000 in
theorem l91Samples_any (g p : Nat) (N : Int) (w : World) (h : Rdr w g p) (hp : p ≤ 50000) (hN : 1 ≤ N) (hN' : N ≤ 99) :
    Calls Try.prog 31 #[.pointer (some ⟨g, 0, none⟩), .int .i64 N] w (SamPost w g p) := by
  have hlt := h.lt
  obtain ⟨M, rfl⟩ := Int.eq_ofNat_of_zero_le (show (0 : Int) ≤ N by omega)
  have hb0 : Below w.heap.size w (w.alloc (.cells #[] 3)) := (Below.refl _ _).alloc (Nat.le_refl _) _
  have hO0 := OwnI.lit0 w (Nat.le_refl _)
  have hR0 := h.alloc (.cells #[] 3)
  have hG0 : w.grownBy (w.alloc (.cells #[] 3)) (some g) := grown_below (World.grownBy.refl w _) hb0
  go_enter Try.func31, Try.ntmps31
  go_wp2
  go_loopw [5, 6] (fun v i wr => ∃ (k : Nat) (A : Option Addr) (c : Nat) (zs : List Int), k ≤ M ∧ i = .int .i64 k ∧ v = .slice A k c ∧ OwnI wr w.heap.size A k c zs ∧ Rdr wr g (p + k) ∧ w.grownBy wr (some g)) (fun _ i _ => M - (intOf i).toNat)
  case atStart => exact ⟨0, _, _, [], Nat.zero_le _, rfl, rfl, hO0, hR0, hG0⟩
  case round =>
    obtain ⟨k, A, c, zs, hk, rfl, rfl, hO, hR, hG⟩ := hrel
    clear hb0 hO0 hR0 hG0
    by_cases hkM : k < M
    · go_wp2_with fail
      refine (pick_any g (p + k) _ _ hR (by omega) (by omega) (by omega)).mono ?_
      rintro e w1 ⟨m, hm0, hm1, rfl, hR1, hG1⟩
      have hO1 := hO.off hG1 (fun k e => by cases e; exact hlt)
      have hs1 : w.heap.size ≤ w1.heap.size := Nat.le_trans hG.size hG1.size
      go_wp2_with (at_builtin; refine wpList_appendI rfl _ _ rfl w1 w.heap.size A k c zs (m - 10) rfl rfl hO1 (by omega) hs1 ?_; intro A2 c2 w2 hO2 hG2)
      have hR2 := hR1.off hG2 (fun k e => by have := (hO1.lt k e).1; omega)
      have hG2' := grown_own (hG.trans hG1) hG2 (fun k e => (hO1.lt k e).1)
      go_roundw
      case rel => exact ⟨k + 1, A2, c2, zs ++ [m - 10], by omega, by go_num, rfl, hO2, hR2, hG2'⟩
      case measure => simp [intOf]; omega
    · obtain rfl : k = M := by omega
      go_wp2_with fail
      refine (pick_any g (p + k) _ _ hR (by omega) (by omega) (by omega)).mono ?_
      rintro e w1 ⟨m, hm0, hm1, rfl, hR1, hG1⟩
      have hO1 := hO.off hG1 (fun k e => by cases e; exact hlt)
      have hs1 : w.heap.size ≤ w1.heap.size := Nat.le_trans hG.size hG1.size
      have hGg := hG.trans hG1
      by_cases e0 : m = 0
      · subst e0
        obtain ⟨g', cap, hv, _, hlt'⟩ := World.ownsRow.form hO1 (by omega)
        have hA : A = some ⟨g', 0, none⟩ := by injection hv
        subst hA
        clear hv
        obtain ⟨old, hs1⟩ := hO1.cell_ (k := 0) (by omega)
        have hs2 : w1.frozen? ⟨g', 0, none⟩ = false := World.ownsRow.frozenAt hO1 0
        obtain ⟨hst, hsg⟩ := World.ownsRow.stored hO1 0 (.int .i64 1001)
        have hst' : OwnI (w1.setCell ⟨g', 0, none⟩ (.int .i64 1001)) w.heap.size (some ⟨g', 0, none⟩) k c (zs.set 0 1001) := by
          unfold OwnI; rw [List.map_set]; exact hst
        have hR2 := hR1.off hsg (fun k e => by cases e; have := (hO1.lt g' rfl).1; omega)
        have hG2 := grown_own hGg hsg (fun k e => by cases e; exact (hO1.lt g' rfl).1)
        have hk0 : (0 : Int) < (k : Int) := by omega
        clear hst
        go_wp2
        go_ret
        exact ⟨_, _, _, _, _, rfl, hst', by omega, hR2, by omega, hG2⟩
      · by_cases e1 : m = 1
        · subst e1
          have hO2 := OwnI.lit0 w1 hs1
          have hR2 := hR1.alloc (.cells #[] 3)
          have hG2 := grown_below hGg ((Below.refl _ w1).alloc (Nat.le_refl _) (.cells #[] 3))
          go_wp2
          go_ret
          exact ⟨_, _, _, _, _, rfl, hO2, by omega, hR2, by omega, hG2⟩
        · have e0' : (m == 0) = false := by simp [e0]
          have e1' : (m == 1) = false := by simp [e1]
          clear e0 e1
          go_wp2
          go_ret
          exact ⟨_, _, _, _, _, rfl, hO1, by omega, hR1, by omega, hGg⟩

/-- A lag has been drawn: some number between -1001 and 1001. -/
def LagPost (w : World) (g p : Nat) (e : Ending) (w' : World) : Prop :=
  ∃ m p', e = .returned (.int .i64 m) ∧ -1001 ≤ m ∧ m ≤ 1001 ∧ Rdr w' g p' ∧ p' ≤ p + 2 ∧ w.grownBy w' (some g)

set_option maxHeartbeats 1000000 in
theorem l91Lag_any (g p : Nat) (w : World) (h : Rdr w g p) (hp : p ≤ 50000) :
    Calls Try.prog 32 #[.pointer (some ⟨g, 0, none⟩)] w (LagPost w g p) := by
  have hlt := h.lt
  go_enter Try.func32, Try.ntmps32
  go_wp2_with fail
  refine (pick_any g p _ _ h (by omega) (by omega) (by omega)).mono ?_
  rintro e w1 ⟨m, hm0, hm1, rfl, hR1, hG1⟩
  by_cases e0 : m = 0
  · subst e0
    go_wp2_with fail
    refine (pick_any g (p + 1) _ _ (hR1.alloc _) (by omega) (by omega) (by omega)).mono ?_
    rintro e w2 ⟨m, hm0, hm1, rfl, hR2, hG2⟩
    have hG := (grown_below hG1 ((Below.refl _ w1).alloc (Nat.le_refl _) (.cells #[.int .i64 1000, .int .i64 1001, .int .i64 (-1001), .int .i64 (-1000)] 3))).trans hG2
    have hcell : w2.heap[w1.heap.size]? = some (.cells #[.int .i64 1000, .int .i64 1001, .int .i64 (-1001), .int .i64 (-1000)] 3 (0, 0)) := by
      have := hR1.lt
      rw [hG2.block w1.heap.size (by simp) (by simp; omega)]
      exact heap_alloc_new w1 _
    have hc := fun i => cell_of_row w2 w1.heap.size i _ _ _ hcell
    obtain rfl | rfl | rfl | rfl : m = 0 ∨ m = 1 ∨ m = 2 ∨ m = 3 := by omega
    · have := hc 0
      clear hc hcell
      simp at this
      go_wp2
      go_ret
      exact ⟨_, _, rfl, by omega, by omega, hR2, by omega, hG⟩
    · have := hc 1
      clear hc hcell
      simp at this
      go_wp2
      go_ret
      exact ⟨_, _, rfl, by omega, by omega, hR2, by omega, hG⟩
    · have := hc 2
      clear hc hcell
      simp at this
      go_wp2
      go_ret
      exact ⟨_, _, rfl, by omega, by omega, hR2, by omega, hG⟩
    · have := hc 3
      clear hc hcell
      simp at this
      go_wp2
      go_ret
      exact ⟨_, _, rfl, by omega, by omega, hR2, by omega, hG⟩
  · have e0' : (m == 0) = false := by simp [e0]
    clear e0
    go_wp2_with fail
    refine (pick_any g (p + 1) _ _ hR1 (by omega) (by omega) (by omega)).mono ?_
    rintro e w2 ⟨m, hm0, hm1, rfl, hR2, hG2⟩
    go_wp2
    go_ret
    exact ⟨_, _, rfl, by omega, by omega, hR2, by omega, hG1.trans hG2⟩

end Go.Proofs.Ytiehommofdjgcaa
