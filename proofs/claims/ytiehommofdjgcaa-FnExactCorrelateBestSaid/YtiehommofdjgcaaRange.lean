/-
  Contracts: impl.inRange and spec.l6In say whether a number lies between two others; they leave the world alone.
-/
import Derived.Test.YtiehommofdjgcaaProg
import Derived.Test.YtiehommofdjgcaaWords
namespace Go.Proofs.Ytiehommofdjgcaa
open Go.RowKit
set_option linter.unusedVariables false

/-- low ≤ n ≤ high. -/
def betB (n low high : Int) : Bool := decide (low ≤ n ∧ n ≤ high)
theorem betB_true {n low high : Int} : betB n low high = true ↔ low ≤ n ∧ n ≤ high := by simp [betB]
theorem betB_false {n low high : Int} : betB n low high = false ↔ ¬ (low ≤ n ∧ n ≤ high) := by simp [betB]

theorem betB_pass {n low high : Int} (h : low ≤ n) : betB n low high = decide (n ≤ high) := by simp [betB, h]
theorem betB_stop {n low high : Int} (h : ¬ low ≤ n) : betB n low high = false := by simp [betB, h]

theorem l6In_any (n low high : Int) (w : World) :
    Calls Try.prog 24 #[.int .i64 n, .int .i64 low, .int .i64 high] w fun e w' => e = .returned (.bool (betB n low high)) ∧ w = w' := by
  by_cases a : low ≤ n
  · have H := Lib.hid (betB_pass (high := high) a)
    go_enter Try.func24, Try.ntmps24
    go_wp2
    go_ret
    exact ⟨ret_bool H.out.symm, rfl⟩
  · have H := Lib.hid (betB_stop (high := high) a)
    have a' : n < low := by omega
    clear a
    go_enter Try.func24, Try.ntmps24
    go_wp2
    go_ret
    exact ⟨ret_bool H.out.symm, rfl⟩

theorem inRange_any (n lim : Int) (w : World) (h0 : 0 ≤ lim) (h1 : lim ≤ 1000000000) :
    Calls Try.prog 27 #[.int .i64 n, .int .i64 lim] w fun e w' => e = .returned (.bool (betB n (-lim) lim)) ∧ w = w' := by
  by_cases a : -lim ≤ n
  · have H := Lib.hid (betB_pass (high := lim) a)
    go_enter Try.func27, Try.ntmps27
    go_wp2
    go_ret
    exact ⟨ret_bool H.out.symm, rfl⟩
  · have H := Lib.hid (betB_stop (high := lim) a)
    have a' : n < -lim := by omega
    clear a
    go_enter Try.func27, Try.ntmps27
    go_wp2
    go_ret
    exact ⟨ret_bool H.out.symm, rfl⟩

end Go.Proofs.Ytiehommofdjgcaa
