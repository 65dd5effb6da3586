/-
  Contracts: spec.DrawSampleLevel, DrawSamplesLevel, DrawSamplesShift, DrawSamplesValid draw the arguments of the laws on levels and shifts; all that was there is as it was.
-/
import Derived.Test.YtgepjbfdjnhcoaaDrawS
import Derived.Laws.AppendOwnNone
import Derived.Deep.RegionWith
namespace Go.Proofs.Ytgepjbfdjnhcoaa
open Go.RowKit
set_option linter.unusedVariables false

theorem Rdr.drew {w : World} {g p : Nat} (h : Rdr w g p) : Rdr w.drew g p := h
theorem grown_drew {a w : World} {row : Option Nat} (h : a.grownBy w row) : a.grownBy w.drew row := ⟨h.os, h.tape, h.output, h.size, h.block⟩

theorem grown_undrew {a w : World} {row : Option Nat} (h : a.drew.grownBy w row) : a.grownBy w row := ⟨h.os, h.tape, h.output, h.size, h.block⟩

/-- A number and a threshold have been drawn. -/
def LevPost (w : World) (e : Ending) (w' : World) : Prop := ∃ x t : Int, e = .returned (.tuple #[.int .i64 x, .int .i64 t]) ∧ -20 ≤ x ∧ x ≤ 20 ∧ Below w.heap.size w w'

theorem three_at {m : Int} (h0 : 0 ≤ m) (h1 : m < 3) : ∃ v : Int, (#[Value.int .i64 0, .int .i64 1001, .int .i64 1000] : Array Value)[m.toNat]? = some (.int .i64 v) := by
  obtain rfl | rfl | rfl : m = 0 ∨ m = 1 ∨ m = 2 := by omega
  · exact ⟨0, rfl⟩
  · exact ⟨1001, rfl⟩
  · exact ⟨1000, rfl⟩

theorem cell_kept_lit {W w4 : World} {g i : Nat} {cs : Array Value} {T : TypeId} {v : Value} (hG : (W.alloc (.cells cs T)).grownBy w4 (some g)) (hg : g < W.heap.size) (hv : cs[i]? = some v) :
    w4.cell? ⟨W.heap.size, i, none⟩ = some v := by
  have hh : w4.heap[W.heap.size]? = some (.cells cs T (0, 0)) := by
    rw [hG.block W.heap.size (by simp) (by simp; omega)]
    exact heap_alloc_new W _
  rw [cell_of_row w4 _ i _ _ _ hh]; exact hv
theorem cell_new_lit (W : World) {i : Nat} {cs : Array Value} {T : TypeId} {v : Value} (hv : cs[i]? = some v) : (W.alloc (.cells cs T)).cell? ⟨W.heap.size, i, none⟩ = some v := by
  rw [cell_of_row _ _ i _ _ _ (heap_alloc_new W _)]; exact hv

set_option maxHeartbeats 1000000 in
theorem DrawSampleLevel_any (A : Option Addr) (n c : Nat) (bs : List Int) (w : World) (hz : IntsK .u8 w A n bs) (hn : n ≤ 1048576) (hc : n ≤ c) (hbs : ∀ j, 0 ≤ el bs j ∧ el bs j ≤ 255) :
    Calls Try.prog 20 #[.slice A n c] w (LevPost w) := by
  go_enter Try.func20, Try.ntmps20
  go_wp2_with fail
  refine (l6Open_any A n c bs _ hz hn hc hbs).mono ?_
  rintro e w1 ⟨g, rfl, hg, hR1, hb1⟩
  clear hbs
  go_wp2_with fail
  refine (pick_any g 0 _ _ hR1 (by omega) (by omega) (by omega)).mono ?_
  rintro e w2 ⟨x, hx0, hx1, rfl, hR2, hG2⟩
  go_wp2_with fail
  refine (pick_any g 1 _ _ hR2 (by omega) (by omega) (by omega)).mono ?_
  rintro e w3 ⟨m, hm0, hm1, rfl, hR3, hG3⟩
  have hG := hG2.trans hG3
  by_cases e0 : m = 0
  · subst e0
    go_wp2
    go_region_with (go_at_call 34; refine (pick_any g 2 _ _ ?_ (by omega) (by omega) (by omega)).mono ?_; (first | exact hR3.drew | exact hR3.drew.alloc _); rintro e w4 ⟨k, hk0, hk1, rfl, hR4, hG4⟩; obtain ⟨v, hv⟩ := three_at hk0 hk1; (try have hA : w4.cell? ⟨w3.heap.size, k.toNat, none⟩ = some (.int .i64 v) := cell_kept_lit (grown_undrew hG4) hR3.lt hv); have hB := cell_new_lit w4 (T := 3) hv)
    all_goals go_wp2
    all_goals go_ret2
    · exact ⟨_, _, rfl, by omega, by omega, below_grown hb1 ((grown_below hG ((Below.refl _ w3).alloc (Nat.le_refl _) _)).trans (grown_undrew hG4)) hg⟩
    · have hB4 := below_grown hb1 (hG.trans (grown_undrew hG4)) hg
      exact ⟨_, _, rfl, by omega, by omega, hB4.alloc hB4.size _⟩
  · have e0' : (m == 0) = false := by simp [e0]
    clear e0
    go_wp2_with fail
    refine (pick_any g 2 _ _ hR3 (by omega) (by omega) (by omega)).mono ?_
    rintro e w4 ⟨t, ht0, ht1, rfl, hR4, hG4⟩
    go_wp2
    go_ret2
    exact ⟨_, _, rfl, by omega, by omega, below_grown hb1 (hG.trans hG4) hg⟩

/-- A list of integers and a number have been drawn. -/
def ListPost (w : World) (e : Ending) (w' : World) : Prop :=
  ∃ (A : Option Addr) (n c : Nat) (zs : List Int) (t : Int), e = .returned (.tuple #[.slice A n c, .int .i64 t]) ∧ OwnI w' w.heap.size A n c zs ∧ n ≤ 100 ∧ -1001 ≤ t ∧ t ≤ 1001 ∧ Below w.heap.size w w'

set_option maxHeartbeats 1000000 in
theorem DrawSamplesShift_any (A : Option Addr) (n c : Nat) (bs : List Int) (w : World) (hz : IntsK .u8 w A n bs) (hn : n ≤ 1048576) (hc : n ≤ c) (hbs : ∀ j, 0 ≤ el bs j ∧ el bs j ≤ 255) :
    Calls Try.prog 28 #[.slice A n c] w (ListPost w) := by
  go_enter Try.func28, Try.ntmps28
  go_wp2_with fail
  refine (l6Open_any A n c bs _ hz hn hc hbs).mono ?_
  rintro e w1 ⟨g, rfl, hg, hR1, hb1⟩
  clear hbs
  go_wp2_with fail
  refine (pick_any g 0 _ _ hR1 (by omega) (by omega) (by omega)).mono ?_
  rintro e w2 ⟨x, hx0, hx1, rfl, hR2, hG2⟩
  go_wp2_with fail
  refine (l91Samples_any g _ _ _ hR2 (by omega) (by omega) (by omega)).mono ?_
  rintro e w3 ⟨A3, n3, c3, zs, p3, rfl, hO3, hn3, hR3, hp3, hG3⟩
  go_wp2_with fail
  refine (l91Lag_any g _ _ hR3 (by omega)).mono ?_
  rintro e w4 ⟨t, p4, rfl, ht0, ht1, hR4, hp4, hG4⟩
  have hO4 := (hO3.off hG4 (fun k e => by cases e; exact hR2.lt)).mono (Nat.le_trans hb1.size hG2.size)
  go_wp2
  go_ret2
  exact ⟨_, _, _, _, _, rfl, hO4, hn3, ht0, ht1, below_grown hb1 ((hG2.trans hG3).trans hG4) hg⟩

set_option maxHeartbeats 1000000 in
theorem DrawSamplesLevel_any (A : Option Addr) (n c : Nat) (bs : List Int) (w : World) (hz : IntsK .u8 w A n bs) (hn : n ≤ 1048576) (hc : n ≤ c) (hbs : ∀ j, 0 ≤ el bs j ∧ el bs j ≤ 255) :
    Calls Try.prog 30 #[.slice A n c] w (ListPost w) := by
  go_enter Try.func30, Try.ntmps30
  go_wp2_with fail
  refine (l6Open_any A n c bs _ hz hn hc hbs).mono ?_
  rintro e w1 ⟨g, rfl, hg, hR1, hb1⟩
  clear hbs
  go_wp2_with fail
  refine (pick_any g 0 _ _ hR1 (by omega) (by omega) (by omega)).mono ?_
  rintro e w2 ⟨x, hx0, hx1, rfl, hR2, hG2⟩
  go_wp2_with fail
  refine (l91Samples_any g _ _ _ hR2 (by omega) (by omega) (by omega)).mono ?_
  rintro e w3 ⟨A3, n3, c3, zs, p3, rfl, hO3, hn3, hR3, hp3, hG3⟩
  go_wp2_with fail
  refine (pick_any g _ _ _ hR3 (by omega) (by omega) (by omega)).mono ?_
  rintro e w4 ⟨m, hm0, hm1, rfl, hR4, hG4⟩
  have hO4 := (hO3.off hG4 (fun k e => by cases e; exact hR2.lt))
  by_cases e0 : m = 0
  · subst e0
    go_wp2
    go_ret2
    exact ⟨_, _, _, _, _, rfl, hO4.mono (Nat.le_trans hb1.size hG2.size), hn3, by omega, by omega, below_grown hb1 ((hG2.trans hG3).trans hG4) hg⟩
  · have e0' : (m == 0) = false := by simp [e0]
    clear e0
    go_wp2_with fail
    refine (pick_any g _ _ _ hR4 (by omega) (by omega) (by omega)).mono ?_
    rintro e w5 ⟨t, ht0, ht1, rfl, hR5, hG5⟩
    have hO5 := (hO4.off hG5 (fun k e => by cases e; exact hR2.lt)).mono (Nat.le_trans hb1.size hG2.size)
    go_wp2
    go_ret2
    exact ⟨_, _, _, _, _, rfl, hO5, hn3, by omega, by omega, below_grown hb1 (((hG2.trans hG3).trans hG4).trans hG5) hg⟩

end Go.Proofs.Ytgepjbfdjnhcoaa
