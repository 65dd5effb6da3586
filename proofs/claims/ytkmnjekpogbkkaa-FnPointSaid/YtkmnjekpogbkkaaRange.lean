/-
  Contract: impl.inRange says whether a number lies within a limit; it leaves the world alone.
-/
import Derived.Test.YtkmnjekpogbkkaaBet
namespace Go.Proofs.Ytkmnjekpogbkkaa
open Go.RowKit
set_option linter.unusedVariables false

theorem inRange_any (n lim : Int) (w : World) (h0 : 0 ≤ lim) (h1 : lim ≤ 1000000000) :
    Calls Try.prog 52 #[.int .i64 n, .int .i64 lim] w fun e w' => e = .returned (.bool (betB n (-lim) lim)) ∧ w = w' := by
  by_cases a : -lim ≤ n
  · have H := Lib.hid (betB_pass (high := lim) a)
    go_enter Try.func52, Try.ntmps52
    go_wp2
    go_ret
    exact ⟨ret_bool H.out.symm, rfl⟩
  · have H := Lib.hid (betB_stop (high := lim) a)
    have a' : n < -lim := by omega
    clear a
    go_enter Try.func52, Try.ntmps52
    go_wp2
    go_ret
    exact ⟨ret_bool H.out.symm, rfl⟩

end Go.Proofs.Ytkmnjekpogbkkaa
