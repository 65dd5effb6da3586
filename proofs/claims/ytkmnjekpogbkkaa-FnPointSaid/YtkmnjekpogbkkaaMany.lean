/-
  Contracts: impl.isMany, impl.isPhase, spec.l2Phase, impl.BaseMany and spec.BaseMany.
-/
import Derived.Test.YtkmnjekpogbkkaaMod
import Derived.Test.YtkmnjekpogbkkaaBet
namespace Go.Proofs.Ytkmnjekpogbkkaa
open Go.RowKit
set_option linter.unusedVariables false

theorem isMany_any (n : Int) (w : World) : Calls Try.prog 45 #[.int .i64 n] w fun e w' => e = .returned (.bool (betB n 2 7)) ∧ w = w' := by
  by_cases a : 2 ≤ n
  · have H := Lib.hid (betB_pass (high := 7) a)
    go_enter Try.func45, Try.ntmps45
    go_wp2
    go_ret
    exact ⟨ret_bool H.out.symm, rfl⟩
  · have H := Lib.hid (betB_stop (high := 7) a)
    have a' : n < 2 := by omega
    clear a
    go_enter Try.func45, Try.ntmps45
    go_wp2
    go_ret
    exact ⟨ret_bool H.out.symm, rfl⟩
theorem isPhase_any (n : Int) (w : World) : Calls Try.prog 60 #[.int .i64 n] w fun e w' => e = .returned (.bool (betB n 0 359)) ∧ w = w' := by
  by_cases a : 0 ≤ n
  · by_cases b : n ≤ 359
    · have H := Lib.hid (betB_true.2 ⟨a, b⟩)
      have b' : n < 360 := by omega
      go_enter Try.func60, Try.ntmps60
      go_wp2
      go_ret
      exact ⟨ret_bool (by first | exact H.out.symm | (rw [H.out]; simp; done) | (rw [H.out]; simp; omega)), rfl⟩
    · have H := Lib.hid (betB_false.2 fun h : 0 ≤ n ∧ n ≤ 359 => b h.2)
      have b' : 360 ≤ n := by omega
      clear b
      go_enter Try.func60, Try.ntmps60
      go_wp2
      go_ret
      exact ⟨ret_bool (by first | exact H.out.symm | (rw [H.out]; simp; done) | (rw [H.out]; simp; omega)), rfl⟩
  · have H := Lib.hid (betB_stop (high := 359) a)
    have a' : n < 0 := by omega
    clear a
    go_enter Try.func60, Try.ntmps60
    go_wp2
    go_ret
    exact ⟨ret_bool H.out.symm, rfl⟩
/-- The number of baselines of n antennas. -/
def bm (n : Int) : Int := if betB n 2 7 then n * (n - 1) / 2 else 0
theorem bm_no {n : Int} (h : betB n 2 7 = false) : bm n = 0 := by simp [bm, h]
theorem bm_cases {n : Int} (h : betB n 2 7 = true) : (n = 2 ∧ bm n = 1) ∨ (n = 3 ∧ bm n = 3) ∨ (n = 4 ∧ bm n = 6) ∨ (n = 5 ∧ bm n = 10) ∨ (n = 6 ∧ bm n = 15) ∨ (n = 7 ∧ bm n = 21) := by
  obtain ⟨h1, h2⟩ := betB_true.1 h
  obtain rfl | rfl | rfl | rfl | rfl | rfl : n = 2 ∨ n = 3 ∨ n = 4 ∨ n = 5 ∨ n = 6 ∨ n = 7 := by omega
  all_goals decide
theorem iBaseMany_any (n : Int) (w : World) : Calls Try.prog 46 #[.int .i64 n] w fun e w' => e = .returned (.int .i64 (bm n)) ∧ w = w' := by
  cases h : betB n 2 7
  · have H := Lib.hid (bm_no h)
    go_enter Try.func46, Try.ntmps46
    go_wp2_with fail
    refine (isMany_any _ _).mono ?_
    rintro e w' ⟨rfl, rfl⟩
    go_wp2
    go_ret
    exact ⟨ret_int H.out.symm, rfl⟩
  · have HB := Lib.hid h
    rcases bm_cases h with ⟨rfl, H⟩ | ⟨rfl, H⟩ | ⟨rfl, H⟩ | ⟨rfl, H⟩ | ⟨rfl, H⟩ | ⟨rfl, H⟩
    all_goals
      have HH := Lib.hid H
      clear H h
      go_enter Try.func46, Try.ntmps46
      go_wp2_with fail
      refine (isMany_any _ _).mono ?_
      rintro e w' ⟨he, rfl⟩
      rw [HB.out] at he
      subst he
      go_wp2
      go_ret
      exact ⟨ret_int HH.out.symm, rfl⟩
end Go.Proofs.Ytkmnjekpogbkkaa
