/-
  Bounds on correlations.
-/
import Derived.Test.YtiehommofdjgcaaCorrF
namespace Go.Proofs.Ytiehommofdjgcaa
open Go.RowKit
set_option linter.unusedVariables false

theorem corr_small {a b : List Int} (lag : Int) (ha : svB a = true) (hb : svB b = true) (hl : a.length = b.length) : -32000000 ≤ corr a b lag ∧ corr a b lag ≤ 32000000 := by
  have := sumTo_bd lag ha hb hl a.length (Nat.le_refl _)
  have hl := sv_len ha
  unfold corr
  omega
theorem prod_small {x y : Int} (hx0 : -32000000 ≤ x) (hx1 : x ≤ 32000000) (hy0 : -32000000 ≤ y) (hy1 : y ≤ 32000000) : -1024000000000000 ≤ x * y ∧ x * y ≤ 1024000000000000 := by
  have h1 : 0 ≤ (32000000 - x) * (32000000 - y) := Int.mul_nonneg (by omega) (by omega)
  have h2 : 0 ≤ (32000000 + x) * (32000000 + y) := Int.mul_nonneg (by omega) (by omega)
  have h3 : 0 ≤ (32000000 - x) * (32000000 + y) := Int.mul_nonneg (by omega) (by omega)
  have h4 : 0 ≤ (32000000 + x) * (32000000 - y) := Int.mul_nonneg (by omega) (by omega)
  simp only [Int.sub_mul, Int.add_mul, Int.mul_sub, Int.mul_add] at h1 h2 h3 h4
  omega

end Go.Proofs.Ytiehommofdjgcaa
