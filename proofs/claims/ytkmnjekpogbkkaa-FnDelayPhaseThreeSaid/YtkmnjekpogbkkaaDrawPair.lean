/-
  Contract: spec.l91Pair draws a list of places and two numbers.
-/
import Derived.Test.YtkmnjekpogbkkaaDrawArr
namespace Go.Proofs.Ytkmnjekpogbkkaa
open Go.RowKit
set_option linter.unusedVariables false

/-- A list of places and two numbers have been drawn. -/
def PairPost (w : World) (g p : Nat) (e : Ending) (w' : World) : Prop :=
  ∃ A n c ps i j p', e = .returned (.tuple #[.slice A n c, .int .i64 i, .int .i64 j]) ∧ NewP w' w.heap.size A n c ps ∧ 1 ≤ n ∧ n ≤ 5 ∧ Rdr w' g p' ∧ p' ≤ p + 20 ∧ w.grownBy w' (some g)

theorem two_at {m L : Int} (h0 : 0 ≤ m) (h1 : m < 2) : ∃ v : Int, (#[Value.int .i64 (-1), .int .i64 L] : Array Value)[m.toNat]? = some (.int .i64 v) := by
  obtain rfl | rfl : m = 0 ∨ m = 1 := by omega
  · exact ⟨-1, rfl⟩
  · exact ⟨L, rfl⟩

set_option maxHeartbeats 2000000 in
theorem l91Pair_any (g p : Nat) (w : World) (h : Rdr w g p) (hp : p ≤ 40000) :
    Calls Try.prog 61 #[.pointer (some ⟨g, 0, none⟩)] w (PairPost w g p) := by
  have hlt := h.lt
  go_enter Try.func61, Try.ntmps61
  go_wp2_with fail
  refine (l91Array_any g p _ h (by omega)).mono ?_
  rintro e w1 ⟨A, n, c, ps, p1, rfl, hO1, hn1, hn2, hR1, hp1, hG1⟩
  go_wp2_with fail
  refine (pick_any g p1 _ _ hR1 (by omega) (by omega) (by omega)).mono ?_
  rintro e w2 ⟨i, hi0, hi1, rfl, hR2, hG2⟩
  have hO2 := hO1.off hG2 (fun k e => by cases e; exact hlt)
  go_wp2_with fail
  refine (pick_any g (p1 + 1) _ _ hR2 (by omega) (by omega) (by omega)).mono ?_
  rintro e w3 ⟨j, hj0, hj1, rfl, hR3, hG3⟩
  have hO3 := hO2.off hG3 (fun k e => by cases e; exact hlt)
  go_wp2_with fail
  refine (pick_any g (p1 + 1 + 1) _ _ hR3 (by omega) (by omega) (by omega)).mono ?_
  rintro e w4 ⟨m, hm0, hm1, rfl, hR4, hG4⟩
  have hO4 := hO3.off hG4 (fun k e => by cases e; exact hlt)
  have hG := ((hG1.trans hG2).trans hG3).trans hG4
  clear hO1 hO2 hO3
  by_cases e0 : m = 0
  · subst e0
    have hba := below_alloc w4 (.cells #[.int .i64 (-1), .int .i64 (n : Int)] 3)
    have hO5 := hO4.below hba
    go_wp2_with fail
    refine (pick_any g (p1 + 1 + 1 + 1) _ _ (hR4.alloc _) (by omega) (by omega) (by omega)).mono ?_
    rintro e w5 ⟨m2, hm20, hm21, rfl, hR5, hG5⟩
    have hO6 := hO5.off hG5 (fun k e => by cases e; exact hlt)
    obtain ⟨v, hv⟩ := two_at (L := (n : Int)) hm20 hm21
    have hcell := cell_kept_litA hG5 hR4.lt hv
    have hGx := (grown_belowP hG hba).trans hG5
    go_wp2
    exact bodyPost_ret (v := .tuple #[.slice A n c, .int .i64 i, .int .i64 v]) (by simp [results, Try.results61, go_sem]) rfl ⟨_, _, _, _, _, _, _, rfl, hO6, hn1, hn2, hR5, by omega, hGx⟩
  · have e0' : (m == 0) = false := by simp [e0]
    clear e0
    go_wp2
    exact bodyPost_ret (v := .tuple #[.slice A n c, .int .i64 i, .int .i64 j]) (by simp [results, Try.results61, go_sem]) rfl ⟨_, _, _, _, _, _, _, rfl, hO4, hn1, hn2, hR4, by omega, hG⟩

end Go.Proofs.Ytkmnjekpogbkkaa
