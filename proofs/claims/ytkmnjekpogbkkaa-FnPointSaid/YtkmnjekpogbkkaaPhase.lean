/-
  Contracts: impl.PhaseOf and spec.PhaseOf return a number modulo a turn.
-/
import Derived.Test.YtkmnjekpogbkkaaMod
namespace Go.Proofs.Ytkmnjekpogbkkaa
open Go.RowKit
set_option linter.unusedVariables false

theorem iPhaseOf_any (n : Int) (w : World) :
    Calls Try.prog 15 #[.int .i64 n] w fun e w' => e = .returned (.int .i64 (cyc n 360)) ∧ w = w' := by
  rcases tmod_cases n 360 (by omega) with ⟨a, b, c⟩ | ⟨a, b, c⟩
  · have H := Lib.hid c
    clear c
    go_enter Try.func15, Try.ntmps15
    go_wp2
    go_ret
    exact ⟨ret_int H.out, rfl⟩
  · have H := Lib.hid c
    clear c
    go_enter Try.func15, Try.ntmps15
    go_wp2
    go_ret
    exact ⟨ret_int H.out, rfl⟩
theorem sPhaseOf_any (n : Int) (w : World) (hk : -9000000000000000000 ≤ n) (hk' : n ≤ 9000000000000000000) :
    Calls Try.prog 50 #[.int .i64 n] w fun e w' => e = .returned (.int .i64 (cyc n 360)) ∧ w = w' := by
  go_enter Try.func50, Try.ntmps50
  go_wp2_with fail
  refine (l1Mod_any _ _ _ (by omega) (by omega) hk hk').mono ?_
  rintro e w' ⟨rfl, rfl⟩
  go_wp2
  go_ret
  exact ⟨rfl, rfl⟩

end Go.Proofs.Ytkmnjekpogbkkaa
