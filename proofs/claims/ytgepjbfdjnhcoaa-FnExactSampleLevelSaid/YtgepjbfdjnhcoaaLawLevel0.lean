/-
  The walk of laws.FnExactSampleLevel.
-/
import Derived.Test.YtgepjbfdjnhcoaaLevel
namespace Go.Proofs.Ytgepjbfdjnhcoaa
open Go.RowKit
set_option linter.unusedVariables false

theorem walkFnExactSampleLevel (x : Int) (_ : (Lit.int .i64 x).wf = true) (t : Int) (_ : (Lit.int .i64 t).wf = true) (w : World) :
    Calls Try.prog 3 #[.int .i64 x, .int .i64 t] w fun e w' => e = .returned (.bool true) ∧ Below w.heap.size w w' := by
  go_enter Try.func3, Try.ntmps3
  go_wp2_with (first | (go_at_call 15; refine (iLevel_any _ _ _).mono ?_; rintro e w' ⟨rfl, rfl⟩) | (go_at_call 14; refine (sLevel_any _ _ _).mono ?_; rintro e w' ⟨rfl, rfl⟩))
  go_ret
  exact ⟨rfl, Below.refl _ _⟩

end Go.Proofs.Ytgepjbfdjnhcoaa
