/-
  Contract: spec.DrawBaseVector draws the arguments of a law.
-/
import Derived.Test.YtlbclpkmdfgokaaDrawPair
import Derived.Deep.RegionWith
namespace Go.Proofs.Ytlbclpkmdfgokaa
open Go.RowKit
set_option linter.unusedVariables false

/-- Places and two numbers have been drawn. -/
def BvPost (w : World) (e : Ending) (w' : World) : Prop :=
  ∃ A n c ps i j, e = .returned (.tuple #[.slice A n c, .int .i64 i, .int .i64 j]) ∧ NewP w' w.heap.size A n c ps ∧ 1 ≤ n ∧ n ≤ 5 ∧ Below w.heap.size w w'

set_option maxHeartbeats 2000000 in
theorem DrawBaseVector_any (A : Option Addr) (n c : Nat) (bs : List Int) (w : World) (hz : IntsK .u8 w A n bs) (hn : n ≤ 1048576) (hc : n ≤ c) (hbs : ∀ j, 0 ≤ el bs j ∧ el bs j ≤ 255) :
    Calls Try.prog 15 #[.slice A n c] w (BvPost w) := by
  go_enter Try.func15, Try.ntmps15
  go_wp2_with fail
  refine (l6Open_any A n c bs _ hz hn hc hbs).mono ?_
  rintro e w1 ⟨g, rfl, hg, hR1, hb1⟩
  clear hbs
  have hs1 := hR1.lt
  go_wp2_with fail
  refine (l91Pair_any g 0 _ hR1 (by omega)).mono ?_
  rintro e w2 ⟨A2, n2, c2, ps, i, j, p2, rfl, hO2, hn1, hn2, hR2, hp2, hG2⟩
  have B2 := hb1.grown hG2 hb1.size (fun k e => by cases e; exact hg)
  go_wp2
  exact bodyPost_ret (v := .tuple #[.slice A2 n2 c2, .int .i64 i, .int .i64 j]) (by simp [results, Try.results15, go_sem]) rfl ⟨_, _, _, _, _, _, rfl, hO2.mono hb1.size, hn1, hn2, B2⟩

end Go.Proofs.Ytlbclpkmdfgokaa
