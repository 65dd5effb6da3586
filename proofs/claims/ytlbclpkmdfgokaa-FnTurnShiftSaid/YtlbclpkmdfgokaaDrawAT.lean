/-
  Contract: spec.DrawArrayTurn draws the arguments of a law.
-/
import Derived.Test.YtlbclpkmdfgokaaDrawArr
import Derived.Deep.RegionWith
namespace Go.Proofs.Ytlbclpkmdfgokaa
open Go.RowKit
set_option linter.unusedVariables false

/-- Places and a number have been drawn. -/
def AtPost (w : World) (e : Ending) (w' : World) : Prop :=
  ∃ A n c ps i, e = .returned (.tuple #[.slice A n c, .int .i64 i]) ∧ NewP w' w.heap.size A n c ps ∧ 1 ≤ n ∧ n ≤ 5 ∧ Below w.heap.size w w'

theorem at_at {m : Int} (h0 : 0 ≤ m) (h1 : m < 2) : ∃ v : Int, (#[Value.int .i64 (-1), .int .i64 4] : Array Value)[m.toNat]? = some (.int .i64 v) := by
  obtain rfl | rfl : m = 0 ∨ m = 1 := by omega
  · exact ⟨-1, rfl⟩
  · exact ⟨4, rfl⟩

set_option maxHeartbeats 2000000 in
theorem DrawArrayTurn_any (A : Option Addr) (n c : Nat) (bs : List Int) (w : World) (hz : IntsK .u8 w A n bs) (hn : n ≤ 1048576) (hc : n ≤ c) (hbs : ∀ j, 0 ≤ el bs j ∧ el bs j ≤ 255) :
    Calls Try.prog 29 #[.slice A n c] w (AtPost w) := by
  go_enter Try.func29, Try.ntmps29
  go_wp2_with fail
  refine (l6Open_any A n c bs _ hz hn hc hbs).mono ?_
  rintro e w1 ⟨g, rfl, hg, hR1, hb1⟩
  clear hbs
  have hs1 := hR1.lt
  go_wp2_with fail
  refine (l91Array_any g 0 _ hR1 (by omega)).mono ?_
  rintro e w2 ⟨A2, n2, c2, ps, p2, rfl, hO2, hn1, hn2, hR2, hp2, hG2⟩
  have B2 := hb1.grown hG2 hb1.size (fun k e => by cases e; exact hg)
  go_wp2_with fail
  refine (pick_any g (p2) _ _ hR2 (by omega) (by omega) (by omega)).mono ?_
  rintro e w3 ⟨m, hm0, hm1, rfl, hR3, hG3⟩
  have hO3 := hO2.off hG3 (fun k e => by cases e; exact hs1)
  have B3 := B2.grown hG3 B2.size (fun k e => by cases e; exact hg)
  by_cases e0 : m = 0
  · subst e0
    go_wp2
    go_region_with (go_at_call 44; refine (pick_any g (p2 + 1) _ _ ?_ (by omega) (by omega) (by omega)).mono ?_; (first | exact hR3.drewA | exact hR3.drewA.alloc _); rintro e w4 ⟨k, hk0, hk1, rfl, hR4, hG4⟩; obtain ⟨v, hv⟩ := at_at hk0 hk1; (try have hA : w4.cell? ⟨w3.heap.size, k.toNat, none⟩ = some (.int .i64 v) := cell_kept_litA (grown_undrewA hG4) hR3.lt hv); have hB := cell_new_litA w4 (T := 3) hv)
    all_goals go_wp2
    · have ha := below_alloc w3 (.cells #[.int .i64 (-1), .int .i64 4] 3)
      have hG4' := grown_undrewA hG4
      have hO4 := (hO3.below ha).off hG4' (fun k e => by cases e; exact hs1)
      have B4 := (below_step B3 ha).grown hG4' (below_step B3 ha).size (fun k e => by cases e; exact hg)
      exact bodyPost_ret (v := .tuple #[.slice A2 n2 c2, .int .i64 v]) (by simp [results, Try.results29, go_sem]) rfl ⟨_, _, _, _, _, rfl, hO4.mono hb1.size, hn1, hn2, B4⟩
    · have hG4' := grown_undrewA hG4
      have hO4 := hO3.off hG4' (fun k e => by cases e; exact hs1)
      have B4 := B3.grown hG4' B3.size (fun k e => by cases e; exact hg)
      have ha := below_alloc w4 (.cells #[.int .i64 (-1), .int .i64 4] 3)
      exact bodyPost_ret (v := .tuple #[.slice A2 n2 c2, .int .i64 v]) (by simp [results, Try.results29, go_sem]) rfl ⟨_, _, _, _, _, rfl, (hO4.below ha).mono hb1.size, hn1, hn2, below_step B4 ha⟩
  · have e0' : (m == 0) = false := by simp [e0]
    clear e0
    go_wp2_with fail
    refine (pick_any g (p2 + 1) _ _ hR3 (by omega) (by omega) (by omega)).mono ?_
    rintro e w4 ⟨x, hx0, hx1, rfl, hR4, hG4⟩
    have hO4 := hO3.off hG4 (fun k e => by cases e; exact hs1)
    have B4 := B3.grown hG4 B3.size (fun k e => by cases e; exact hg)
    go_wp2
    exact bodyPost_ret (v := .tuple #[.slice A2 n2 c2, .int .i64 x]) (by simp [results, Try.results29, go_sem]) rfl ⟨_, _, _, _, _, rfl, hO4.mono hb1.size, hn1, hn2, B4⟩

end Go.Proofs.Ytlbclpkmdfgokaa
