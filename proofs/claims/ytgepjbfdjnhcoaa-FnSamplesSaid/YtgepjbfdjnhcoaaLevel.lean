/-
  Contracts: impl.SampleLevel and spec.SampleLevel return the level of a number; they leave the world alone.
-/
import Derived.Test.YtgepjbfdjnhcoaaRange
namespace Go.Proofs.Ytgepjbfdjnhcoaa
open Go.RowKit
set_option linter.unusedVariables false

/-- The level of x at the threshold t. -/
def lev (x t : Int) : Int := if t < 1 then 0 else if 1000 < t then 0 else if t ≤ x then 3 else if 0 ≤ x then 1 else if -t < x then -1 else -3

theorem lev_low {x t : Int} (h : t < 1) : lev x t = 0 := by rw [lev, if_pos h]
theorem lev_high {x t : Int} (h : 1 ≤ t) (h' : 1000 < t) : lev x t = 0 := by rw [lev, if_neg (by omega), if_pos h']
theorem lev_3 {x t : Int} (h : 1 ≤ t) (h' : t ≤ 1000) (a : t ≤ x) : lev x t = 3 := by rw [lev, if_neg (by omega), if_neg (by omega), if_pos a]
theorem lev_1 {x t : Int} (h : 1 ≤ t) (h' : t ≤ 1000) (a : x < t) (b : 0 ≤ x) : lev x t = 1 := by rw [lev, if_neg (by omega), if_neg (by omega), if_neg (by omega), if_pos b]
theorem lev_m1 {x t : Int} (h : 1 ≤ t) (h' : t ≤ 1000) (a : x < 0) (b : -t < x) : lev x t = -1 := by rw [lev, if_neg (by omega), if_neg (by omega), if_neg (by omega), if_neg (by omega), if_pos b]
theorem lev_m3 {x t : Int} (h : 1 ≤ t) (h' : t ≤ 1000) (a : x < 0) (b : x ≤ -t) : lev x t = -3 := by rw [lev, if_neg (by omega), if_neg (by omega), if_neg (by omega), if_neg (by omega), if_neg (by omega)]

theorem lev_ways (x t : Int) : (t < 1 ∧ Hid (lev x t = 0)) ∨ (1 ≤ t ∧ 1000 < t ∧ Hid (lev x t = 0)) ∨ (1 ≤ t ∧ t ≤ 1000 ∧ t ≤ x ∧ Hid (lev x t = 3)) ∨
    (1 ≤ t ∧ t ≤ 1000 ∧ x < t ∧ 0 ≤ x ∧ Hid (lev x t = 1)) ∨ (1 ≤ t ∧ t ≤ 1000 ∧ x < 0 ∧ -t < x ∧ Hid (lev x t = -1)) ∨ (1 ≤ t ∧ t ≤ 1000 ∧ x < 0 ∧ x ≤ -t ∧ Hid (lev x t = -3)) := by
  by_cases a : t < 1
  · exact .inl ⟨a, lev_low a⟩
  by_cases b : 1000 < t
  · exact .inr (.inl ⟨by omega, b, lev_high (by omega) b⟩)
  by_cases c : t ≤ x
  · exact .inr (.inr (.inl ⟨by omega, by omega, c, lev_3 (by omega) (by omega) c⟩))
  by_cases d : 0 ≤ x
  · exact .inr (.inr (.inr (.inl ⟨by omega, by omega, by omega, d, lev_1 (by omega) (by omega) (by omega) d⟩)))
  by_cases f : -t < x
  · exact .inr (.inr (.inr (.inr (.inl ⟨by omega, by omega, by omega, f, lev_m1 (by omega) (by omega) (by omega) f⟩))))
  · exact .inr (.inr (.inr (.inr (.inr ⟨by omega, by omega, by omega, by omega, lev_m3 (by omega) (by omega) (by omega) (by omega)⟩))))

theorem iLevel_any (x t : Int) (w : World) :
    Calls Try.prog 15 #[.int .i64 x, .int .i64 t] w fun e w' => e = .returned (.int .i64 (lev x t)) ∧ w = w' := by
  rcases lev_ways x t with ⟨a, H⟩ | ⟨a, b, H⟩ | ⟨a, b, c, H⟩ | ⟨a, b, c, d, H⟩ | ⟨a, b, c, d, H⟩ | ⟨a, b, c, d, H⟩
  all_goals
    go_enter Try.func15, Try.ntmps15
    go_wp2
    go_ret
    exact ⟨ret_int H.out.symm, rfl⟩

theorem sLevel_any (x t : Int) (w : World) :
    Calls Try.prog 14 #[.int .i64 x, .int .i64 t] w fun e w' => e = .returned (.int .i64 (lev x t)) ∧ w = w' := by
  have hT : 1 ≤ t → t ≤ 1000 → betB t 1 1000 = true := fun a b => betB_true.2 ⟨a, b⟩
  have hF : t < 1 → betB t 1 1000 = false := fun a => betB_false.2 (by omega)
  have hG : 1000 < t → betB t 1 1000 = false := fun a => betB_false.2 (by omega)
  rcases lev_ways x t with ⟨a, H⟩ | ⟨a, b, H⟩ | ⟨a, b, c, H⟩ | ⟨a, b, c, d, H⟩ | ⟨a, b, c, d, H⟩ | ⟨a, b, c, d, H⟩
  · have hB := hF a
    clear hT hF hG
    go_enter Try.func14, Try.ntmps14
    go_wp2_with (go_at_call 31; refine (l6In_any _ _ _ _).mono ?_; rintro e w' ⟨rfl, rfl⟩)
    go_ret
    exact ⟨ret_int H.out.symm, rfl⟩
  · have hB := hG b
    clear hT hF hG
    go_enter Try.func14, Try.ntmps14
    go_wp2_with (go_at_call 31; refine (l6In_any _ _ _ _).mono ?_; rintro e w' ⟨rfl, rfl⟩)
    go_ret
    exact ⟨ret_int H.out.symm, rfl⟩
  all_goals
    have hB := hT a b
    clear hT hF hG
    go_enter Try.func14, Try.ntmps14
    go_wp2_with (go_at_call 31; refine (l6In_any _ _ _ _).mono ?_; rintro e w' ⟨rfl, rfl⟩)
    go_ret
    exact ⟨ret_int H.out.symm, rfl⟩

end Go.Proofs.Ytgepjbfdjnhcoaa
