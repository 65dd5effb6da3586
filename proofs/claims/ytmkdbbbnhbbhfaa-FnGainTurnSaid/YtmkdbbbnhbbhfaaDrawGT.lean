/-
  Contract: spec.DrawGainTurn draws a number, gains and a phase.
-/
import Derived.Test.YtmkdbbbnhbbhfaaDrawGa
namespace Go.Proofs.Ytmkdbbbnhbbhfaa
open Go.RowKit
set_option linter.unusedVariables false

/-- A number, gains and a phase have been drawn. -/
def GtPost (w : World) (e : Ending) (w' : World) : Prop :=
  ∃ (N : Nat) (A : Option Addr) (n c : Nat) (ps : List (Int × Int)) (b : Int), e = .returned (.tuple #[.int .i64 (N : Int), .slice A n c, .int .i64 b]) ∧ 2 ≤ N ∧ N ≤ 6 ∧ NewP w' w.heap.size A n c ps ∧ n ≤ 30 ∧ Below w.heap.size w w'

set_option maxHeartbeats 2000000 in
theorem DrawGainTurn_any (A : Option Addr) (n c : Nat) (bs : List Int) (w : World) (hz : IntsK .u8 w A n bs) (hn : n ≤ 1048576) (hc : n ≤ c) (hbs : ∀ j, 0 ≤ el bs j ∧ el bs j ≤ 255) :
    Calls Try.prog 28 #[.slice A n c] w (GtPost w) := by
  go_enter Try.func28, Try.ntmps28
  go_wp2_with fail
  refine (l6Open_any A n c bs _ hz hn hc hbs).mono ?_
  rintro e w1 ⟨g, rfl, hg, hR1, hb1⟩
  clear hbs
  have hs1 := hR1.lt
  go_wp2_with fail
  refine (l91Ants_any g 0 _ hR1 (by omega)).mono ?_
  rintro e w2 ⟨N, rfl, hN1, hN2, hR2, hG2⟩
  have B2 := hb1.grown hG2 hb1.size (fun k e => by cases e; exact hg)
  have hs2 := hR2.lt
  go_wp2_with fail
  refine (l91Gains_any g (0 + 1) N _ hR2 (by omega) hN1 hN2).mono ?_
  rintro e w3 ⟨A3, n3, c3, ps, p3, rfl, hO3, hn3, hR3, hp3, hG3⟩
  have B3 := B2.grown hG3 B2.size (fun k e => by cases e; exact hg)
  go_wp2_with fail
  refine (pick_any g p3 _ _ hR3 (by omega) (by omega) (by omega)).mono ?_
  rintro e w4 ⟨m, hm0, hm1, rfl, hR4, hG4⟩
  have hO4 := hO3.off hG4 (fun k e => by cases e; exact hs2)
  have B4 := B3.grown hG4 B3.size (fun k e => by cases e; exact hg)
  by_cases e0 : m = 0
  · subst e0
    go_wp2
    exact bodyPost_ret (v := .tuple #[.int .i64 (N : Int), .slice A3 n3 c3, .int .i64 360]) (by simp [results, Try.results28, go_sem]) rfl ⟨N, _, _, _, _, _, rfl, hN1, hN2, hO4.mono B2.size, hn3, B4⟩
  · have e0' : (m == 0) = false := by simp [e0]
    clear e0
    go_wp2_with fail
    refine (l91Phase_any g (p3 + 1) _ hR4 (by omega)).mono ?_
    rintro e w5 ⟨b, p5, rfl, hb50, hb51, hR5, hp5, hG5⟩
    have hO5 := hO4.off hG5 (fun k e => by cases e; exact hs2)
    have B5 := B4.grown hG5 B4.size (fun k e => by cases e; exact hg)
    go_wp2
    exact bodyPost_ret (v := .tuple #[.int .i64 (N : Int), .slice A3 n3 c3, .int .i64 b]) (by simp [results, Try.results28, go_sem]) rfl ⟨N, _, _, _, _, _, rfl, hN1, hN2, hO5.mono B2.size, hn3, B5⟩

end Go.Proofs.Ytmkdbbbnhbbhfaa
