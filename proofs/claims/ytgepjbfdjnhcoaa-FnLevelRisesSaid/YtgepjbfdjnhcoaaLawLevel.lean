/-
  The walks of laws.FnLevel, FnLevelOpposite and FnLevelRises.
-/
import Derived.Test.YtgepjbfdjnhcoaaDrawOne
import Derived.Test.YtgepjbfdjnhcoaaLevel
namespace Go.Proofs.Ytgepjbfdjnhcoaa
open Go.RowKit
set_option linter.unusedVariables false

set_option maxHeartbeats 2000000 in
theorem walkFnLevel (w : World) (A : Option Addr) (n c : Nat) (bs : List Int) (hz : IntsK .u8 w A n bs) (hl : n ≤ maxLen ∧ n ≤ c) (hf : ∀ j, (Lit.int .u8 (el bs j)).wf = true) :
    Calls Try.prog 5 #[.slice A n c] w fun e w' => e = .returned (.bool true) ∧ Below w.heap.size w w' := by
  obtain ⟨hl, hcap⟩ := hl
  unfold maxLen at hl
  by_cases hb : n ≤ 1048576
  · have HF := Lib.hid (bytes_in hf)
    clear hf
    go_enter Try.func5, Try.ntmps5
    go_wp2_with fail
    refine (DrawSampleLevel_any _ _ _ bs _ hz hb hcap HF.out).mono ?_
    rintro e w1 ⟨x, t, rfl, hx0, hx1, hb1⟩
    rcases lev_ways x t with ⟨a, H⟩ | ⟨a, b, H⟩ | ⟨a, b, d, H⟩ | ⟨a, b, d, f, H⟩ | ⟨a, b, d, f, H⟩ | ⟨a, b, d, f, H⟩
    all_goals
      go_wp2_with fail
      refine (iLevel_any _ _ _).mono ?_
      rintro e w' ⟨he, rfl⟩
      rw [H.out] at he
      subst he
      go_wp2_with fail
      refine (sLevel_any _ _ _).mono ?_
      rintro e w' ⟨he, rfl⟩
      rw [H.out] at he
      subst he
      go_wp2
      go_ret
      exact ⟨ret_bool (by first | rfl | (simp; omega)), hb1⟩
  · have hb' : 1048576 < n := by omega
    clear hb
    go_enter Try.func5, Try.ntmps5
    go_wp2
    go_ret
    exact ⟨rfl, Below.refl _ _⟩

set_option maxHeartbeats 2000000 in
theorem walkFnLevelOpposite (w : World) (A : Option Addr) (n c : Nat) (bs : List Int) (hz : IntsK .u8 w A n bs) (hl : n ≤ maxLen ∧ n ≤ c) (hf : ∀ j, (Lit.int .u8 (el bs j)).wf = true) :
    Calls Try.prog 6 #[.slice A n c] w fun e w' => e = .returned (.bool true) ∧ Below w.heap.size w w' := by
  obtain ⟨hl, hcap⟩ := hl
  unfold maxLen at hl
  by_cases hb : n ≤ 1048576
  · have HF := Lib.hid (bytes_in hf)
    clear hf
    go_enter Try.func6, Try.ntmps6
    go_wp2_with fail
    refine (DrawSampleLevel_any _ _ _ bs _ hz hb hcap HF.out).mono ?_
    rintro e w1 ⟨x, t, rfl, hx0, hx1, hb1⟩
    rcases lev_ways x t with ⟨a, H⟩ | ⟨a, b, H⟩ | ⟨a, b, d, H⟩ | ⟨a, b, d, f, H⟩ | ⟨a, b, d, f, H⟩ | ⟨a, b, d, f, H⟩
    · go_wp2_with fail
      refine (iLevel_any _ _ _).mono ?_
      rintro e w' ⟨he, rfl⟩
      rw [H.out] at he
      subst he
      go_wp2_with fail
      refine (sLevel_any _ _ _).mono ?_
      rintro e w' ⟨he, rfl⟩
      rw [H.out] at he
      subst he
      go_wp2
      go_ret
      exact ⟨rfl, hb1⟩
    · go_wp2_with fail
      refine (iLevel_any _ _ _).mono ?_
      rintro e w' ⟨he, rfl⟩
      rw [H.out] at he
      subst he
      go_wp2_with fail
      refine (sLevel_any _ _ _).mono ?_
      rintro e w' ⟨he, rfl⟩
      rw [H.out] at he
      subst he
      go_wp2
      go_ret
      exact ⟨rfl, hb1⟩
    · have hx : (x == 0) = false := by simp; omega
      have H1 : Hid (lev (0 - x) t = -3) := lev_m3 (by omega) (by omega) (by omega) (by omega)
      have H2 : Hid (lev (-x) t = -3) := lev_m3 (by omega) (by omega) (by omega) (by omega)
      go_wp2_with fail
      refine (iLevel_any _ _ _).mono ?_
      rintro e w' ⟨he, rfl⟩
      rw [H.out] at he
      subst he
      go_wp2_with fail
      refine (sLevel_any _ _ _).mono ?_
      rintro e w' ⟨he, rfl⟩
      rw [H.out] at he
      subst he
      go_wp2_with fail
      refine (iLevel_any _ _ _).mono ?_
      rintro e w' ⟨he, rfl⟩
      first | rw [H1.out] at he | rw [H2.out] at he
      subst he
      go_wp2
      go_ret
      exact ⟨rfl, hb1⟩
    · by_cases hx : x = 0
      · subst hx
        go_wp2_with fail
        refine (iLevel_any _ _ _).mono ?_
        rintro e w' ⟨he, rfl⟩
        rw [H.out] at he
        subst he
        go_wp2_with fail
        refine (sLevel_any _ _ _).mono ?_
        rintro e w' ⟨he, rfl⟩
        rw [H.out] at he
        subst he
        go_wp2
        go_ret
        exact ⟨rfl, hb1⟩
      · have hx' : (x == 0) = false := by simp; omega
        have H1 : Hid (lev (0 - x) t = -1) := lev_m1 (by omega) (by omega) (by omega) (by omega)
        have H2 : Hid (lev (-x) t = -1) := lev_m1 (by omega) (by omega) (by omega) (by omega)
        clear hx
        go_wp2_with fail
        refine (iLevel_any _ _ _).mono ?_
        rintro e w' ⟨he, rfl⟩
        rw [H.out] at he
        subst he
        go_wp2_with fail
        refine (sLevel_any _ _ _).mono ?_
        rintro e w' ⟨he, rfl⟩
        rw [H.out] at he
        subst he
        go_wp2_with fail
        refine (iLevel_any _ _ _).mono ?_
        rintro e w' ⟨he, rfl⟩
        first | rw [H1.out] at he | rw [H2.out] at he
        subst he
        go_wp2
        go_ret
        exact ⟨rfl, hb1⟩
    · have hx : (x == 0) = false := by simp; omega
      have H1 : Hid (lev (0 - x) t = 1) := lev_1 (by omega) (by omega) (by omega) (by omega)
      have H2 : Hid (lev (-x) t = 1) := lev_1 (by omega) (by omega) (by omega) (by omega)
      go_wp2_with fail
      refine (iLevel_any _ _ _).mono ?_
      rintro e w' ⟨he, rfl⟩
      rw [H.out] at he
      subst he
      go_wp2_with fail
      refine (sLevel_any _ _ _).mono ?_
      rintro e w' ⟨he, rfl⟩
      rw [H.out] at he
      subst he
      go_wp2_with fail
      refine (iLevel_any _ _ _).mono ?_
      rintro e w' ⟨he, rfl⟩
      first | rw [H1.out] at he | rw [H2.out] at he
      subst he
      go_wp2
      go_ret
      exact ⟨rfl, hb1⟩
    · have hx : (x == 0) = false := by simp; omega
      have H1 : Hid (lev (0 - x) t = 3) := lev_3 (by omega) (by omega) (by omega)
      have H2 : Hid (lev (-x) t = 3) := lev_3 (by omega) (by omega) (by omega)
      go_wp2_with fail
      refine (iLevel_any _ _ _).mono ?_
      rintro e w' ⟨he, rfl⟩
      rw [H.out] at he
      subst he
      go_wp2_with fail
      refine (sLevel_any _ _ _).mono ?_
      rintro e w' ⟨he, rfl⟩
      rw [H.out] at he
      subst he
      go_wp2_with fail
      refine (iLevel_any _ _ _).mono ?_
      rintro e w' ⟨he, rfl⟩
      first | rw [H1.out] at he | rw [H2.out] at he
      subst he
      go_wp2
      go_ret
      exact ⟨rfl, hb1⟩
  · have hb' : 1048576 < n := by omega
    clear hb
    go_enter Try.func6, Try.ntmps6
    go_wp2
    go_ret
    exact ⟨rfl, Below.refl _ _⟩

set_option maxHeartbeats 2000000 in
theorem walkFnLevelRises (w : World) (A : Option Addr) (n c : Nat) (bs : List Int) (hz : IntsK .u8 w A n bs) (hl : n ≤ maxLen ∧ n ≤ c) (hf : ∀ j, (Lit.int .u8 (el bs j)).wf = true) :
    Calls Try.prog 7 #[.slice A n c] w fun e w' => e = .returned (.bool true) ∧ Below w.heap.size w w' := by
  obtain ⟨hl, hcap⟩ := hl
  unfold maxLen at hl
  by_cases hb : n ≤ 1048576
  · have HF := Lib.hid (bytes_in hf)
    clear hf
    go_enter Try.func7, Try.ntmps7
    go_wp2_with fail
    refine (DrawSampleLevel_any _ _ _ bs _ hz hb hcap HF.out).mono ?_
    rintro e w1 ⟨x, t, rfl, hx0, hx1, hb1⟩
    rcases lev_ways x t with ⟨a, H⟩ | ⟨a, b, H⟩ | ⟨a, b, d, H⟩ | ⟨a, b, d, f, H⟩ | ⟨a, b, d, f, H⟩ | ⟨a, b, d, f, H⟩
    · go_wp2_with fail
      refine (iLevel_any _ _ _).mono ?_
      rintro e w' ⟨he, rfl⟩
      rw [H.out] at he
      subst he
      go_wp2_with fail
      refine (sLevel_any _ _ _).mono ?_
      rintro e w' ⟨he, rfl⟩
      rw [H.out] at he
      subst he
      go_wp2
      go_ret
      exact ⟨rfl, hb1⟩
    · go_wp2_with fail
      refine (iLevel_any _ _ _).mono ?_
      rintro e w' ⟨he, rfl⟩
      rw [H.out] at he
      subst he
      go_wp2_with fail
      refine (sLevel_any _ _ _).mono ?_
      rintro e w' ⟨he, rfl⟩
      rw [H.out] at he
      subst he
      go_wp2
      go_ret
      exact ⟨rfl, hb1⟩
    all_goals
      rcases lev_ways (x + 1) t with ⟨a', H'⟩ | ⟨a', b', H'⟩ | ⟨a', b', d', H'⟩ | ⟨a', b', d', f', H'⟩ | ⟨a', b', d', f', H'⟩ | ⟨a', b', d', f', H'⟩
    all_goals first | (exfalso; omega) | skip
    all_goals
      go_wp2_with fail
      refine (iLevel_any _ _ _).mono ?_
      rintro e w' ⟨he, rfl⟩
      rw [H.out] at he
      subst he
      go_wp2_with fail
      refine (sLevel_any _ _ _).mono ?_
      rintro e w' ⟨he, rfl⟩
      rw [H.out] at he
      subst he
      go_wp2_with fail
      refine (iLevel_any _ _ _).mono ?_
      rintro e w' ⟨he, rfl⟩
      rw [H'.out] at he
      subst he
      go_wp2
      go_ret
      exact ⟨ret_bool (by first | rfl | (simp; omega)), hb1⟩
  · have hb' : 1048576 < n := by omega
    clear hb
    go_enter Try.func7, Try.ntmps7
    go_wp2
    go_ret
    exact ⟨rfl, Below.refl _ _⟩

end Go.Proofs.Ytgepjbfdjnhcoaa
