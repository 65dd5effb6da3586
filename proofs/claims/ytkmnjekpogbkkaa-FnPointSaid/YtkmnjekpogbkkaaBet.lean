/-
  Contract: spec.l6In says whether a number lies between two others; it leaves the world alone.
-/
import Derived.Test.YtkmnjekpogbkkaaProg
import Derived.Test.YtkmnjekpogbkkaaWords
namespace Go.Proofs.Ytkmnjekpogbkkaa
open Go.RowKit
set_option linter.unusedVariables false

/-- low ≤ n ≤ high. -/
def betB (n low high : Int) : Bool := decide (low ≤ n ∧ n ≤ high)
theorem betB_true {n low high : Int} : betB n low high = true ↔ low ≤ n ∧ n ≤ high := by simp [betB]
theorem betB_false {n low high : Int} : betB n low high = false ↔ ¬ (low ≤ n ∧ n ≤ high) := by simp [betB]

theorem betB_pass {n low high : Int} (h : low ≤ n) : betB n low high = decide (n ≤ high) := by simp [betB, h]
theorem betB_stop {n low high : Int} (h : ¬ low ≤ n) : betB n low high = false := by simp [betB, h]

theorem l6In_any (n low high : Int) (w : World) :
    Calls Try.prog 42 #[.int .i64 n, .int .i64 low, .int .i64 high] w fun e w' => e = .returned (.bool (betB n low high)) ∧ w = w' := by
  by_cases a : low ≤ n
  · have H := Lib.hid (betB_pass (high := high) a)
    go_enter Try.func42, Try.ntmps42
    go_wp2
    go_ret
    exact ⟨ret_bool H.out.symm, rfl⟩
  · have H := Lib.hid (betB_stop (high := high) a)
    have a' : n < low := by omega
    clear a
    go_enter Try.func42, Try.ntmps42
    go_wp2
    go_ret
    exact ⟨ret_bool H.out.symm, rfl⟩

end Go.Proofs.Ytkmnjekpogbkkaa
