/-
  Contracts: spec.l91Phase draws a phase, spec.l91Ants a number of antennas.
-/
import Derived.Test.YtmkdbbbnhbbhfaaReader
import Derived.Test.YtmkdbbbnhbbhfaaNewP
namespace Go.Proofs.Ytmkdbbbnhbbhfaa
open Go.RowKit
set_option linter.unusedVariables false

theorem cell_kept_litG {W w4 : World} {g i : Nat} {cs : Array Value} {T : TypeId} {v : Value} (hG : (W.alloc (.cells cs T)).grownBy w4 (some g)) (hg : g < W.heap.size) (hv : cs[i]? = some v) :
    w4.cell? ⟨W.heap.size, i, none⟩ = some v := by
  have hh : w4.heap[W.heap.size]? = some (.cells cs T (0, 0)) := by
    rw [hG.block W.heap.size (by simp) (by simp; omega)]
    exact heap_alloc_new W _
  rw [cell_of_row w4 _ i _ _ _ hh]; exact hv

/-- A phase has been drawn. -/
def PhPost (w : World) (g p : Nat) (e : Ending) (w' : World) : Prop :=
  ∃ m p', e = .returned (.int .i64 m) ∧ 0 ≤ m ∧ m ≤ 400 ∧ Rdr w' g p' ∧ p' ≤ p + 3 ∧ w.grownBy w' (some g)

set_option maxHeartbeats 1000000 in
theorem l91Phase_any (g p : Nat) (w : World) (h : Rdr w g p) (hp : p ≤ 50000) :
    Calls Try.prog 46 #[.pointer (some ⟨g, 0, none⟩)] w (PhPost w g p) := by
  go_enter Try.func46, Try.ntmps46
  go_wp2_with fail
  refine (pick_any g p _ _ h (by omega) (by omega) (by omega)).mono ?_
  rintro e w1 ⟨m, hm0, hm1, rfl, hR1, hG1⟩
  by_cases e0 : m = 0
  · subst e0
    go_wp2_with fail
    refine (pick_any g (p + 1) _ _ hR1 (by omega) (by omega) (by omega)).mono ?_
    rintro e w2 ⟨m2, hm20, hm21, rfl, hR2, hG2⟩
    go_wp2
    go_ret
    exact ⟨_, _, rfl, by omega, by omega, hR2, by omega, hG1.trans hG2⟩
  · have e0' : (m == 0) = false := by simp [e0]
    clear e0
    go_wp2_with fail
    refine (pick_any g (p + 1) _ _ hR1 (by omega) (by omega) (by omega)).mono ?_
    rintro e w2 ⟨m2, hm20, hm21, rfl, hR2, hG2⟩
    go_wp2_with fail
    refine (pick_any g (p + 1 + 1) _ _ hR2 (by omega) (by omega) (by omega)).mono ?_
    rintro e w3 ⟨m3, hm30, hm31, rfl, hR3, hG3⟩
    go_wp2
    go_ret
    exact ⟨_, _, rfl, by omega, by omega, hR3, by omega, (hG1.trans hG2).trans hG3⟩

/-- A number of antennas has been drawn. -/
def AnPost (w : World) (g p : Nat) (e : Ending) (w' : World) : Prop :=
  ∃ m : Nat, e = .returned (.int .i64 (m : Int)) ∧ 2 ≤ m ∧ m ≤ 6 ∧ Rdr w' g (p + 1) ∧ w.grownBy w' (some g)

theorem seven_at {m : Int} (h0 : 0 ≤ m) (h1 : m < 7) : ∃ v : Nat, (#[Value.int .i64 2, .int .i64 3, .int .i64 3, .int .i64 4, .int .i64 4, .int .i64 5, .int .i64 6] : Array Value)[m.toNat]? = some (.int .i64 (v : Int)) ∧ 2 ≤ v ∧ v ≤ 6 := by
  obtain rfl | rfl | rfl | rfl | rfl | rfl | rfl : m = 0 ∨ m = 1 ∨ m = 2 ∨ m = 3 ∨ m = 4 ∨ m = 5 ∨ m = 6 := by omega
  · exact ⟨2, rfl, by omega, by omega⟩
  · exact ⟨3, rfl, by omega, by omega⟩
  · exact ⟨3, rfl, by omega, by omega⟩
  · exact ⟨4, rfl, by omega, by omega⟩
  · exact ⟨4, rfl, by omega, by omega⟩
  · exact ⟨5, rfl, by omega, by omega⟩
  · exact ⟨6, rfl, by omega, by omega⟩

set_option maxHeartbeats 1000000 in
theorem l91Ants_any (g p : Nat) (w : World) (h : Rdr w g p) (hp : p ≤ 50000) :
    Calls Try.prog 40 #[.pointer (some ⟨g, 0, none⟩)] w (AnPost w g p) := by
  have hlt := h.lt
  have hba : Below w.heap.size w (w.alloc (.cells #[.int .i64 2, .int .i64 3, .int .i64 3, .int .i64 4, .int .i64 4, .int .i64 5, .int .i64 6] 3)) := (Below.refl _ _).alloc (Nat.le_refl _) _
  go_enter Try.func40, Try.ntmps40
  go_wp2_with fail
  refine (pick_any g p _ _ (h.alloc _) (by omega) (by omega) (by omega)).mono ?_
  rintro e w1 ⟨m, hm0, hm1, rfl, hR1, hG1⟩
  obtain ⟨v, hv, hv1, hv2⟩ := seven_at hm0 hm1
  have hcell := cell_kept_litG hG1 hlt hv
  have hG := (grown_belowP (World.grownBy.refl w (some g)) hba).trans hG1
  go_wp2
  go_ret
  exact ⟨v, rfl, hv1, hv2, hR1, hG⟩

end Go.Proofs.Ytmkdbbbnhbbhfaa
