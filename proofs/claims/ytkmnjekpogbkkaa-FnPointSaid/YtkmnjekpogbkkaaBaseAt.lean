/-
  Contracts: impl.baseAt and impl.BaseIndex return the place of a baseline.
-/
import Derived.Test.YtkmnjekpogbkkaaArrV
import Derived.Test.YtkmnjekpogbkkaaMany
import Derived.Test.YtkmnjekpogbkkaaBases
import Derived.IntWalk
namespace Go.Proofs.Ytkmnjekpogbkkaa
open Go.RowKit
set_option linter.unusedVariables false

/-- The place of the baseline (a, b), a before b. -/
def baL (n a b : Int) : Int := (a * (2 * n - a - 1)) / 2 + b - a - 1
def baV (n a b : Int) : Int := if b < a then baL n b a else baL n a b
def biV (n : Int) (p : Nat × Nat) : Int := if isA n p.1 && (isA n p.2 && decide (p.1 ≠ p.2)) then baV n p.1 p.2 else -1
theorem prod_in {n a : Int} (h1 : 2 ≤ n) (h2 : n ≤ 7) (ha : 0 ≤ a) (hb : a < n) : 0 ≤ a * (2 * n - a - 1) ∧ a * (2 * n - a - 1) ≤ 200 := by
  have h := Int.mul_nonneg ha (show 0 ≤ 2 * n - a - 1 by omega)
  have h' := Int.mul_le_mul (show a ≤ 10 by omega) (show 2 * n - a - 1 ≤ 20 by omega) (by omega) (by omega)
  omega
theorem biV_at {n : Nat} (h1 : 2 ≤ n) (h2 : n ≤ 7) {t : Nat} (ht : t < (rows n n).length) : biV n (rows n n)[t] = t := by
  obtain rfl | rfl | rfl | rfl | rfl | rfl : n = 2 ∨ n = 3 ∨ n = 4 ∨ n = 5 ∨ n = 6 ∨ n = 7 := by omega
  all_goals revert t; decide
theorem biV_found {n : Nat} (h1 : 2 ≤ n) (h2 : n ≤ 7) {t : Nat} (ht : t < (rows n n).length) {q : Nat × Nat} (hq : q ∈ rows n n) (h : biV n q = t) : q = (rows n n)[t] := by
  obtain ⟨s, hs, rfl⟩ := List.mem_iff_getElem.1 hq
  rw [biV_at h1 h2 hs] at h
  obtain rfl : s = t := by omega
  rfl

set_option maxHeartbeats 1000000 in
theorem baseAt_any (n a b : Int) (w : World) (h1 : 2 ≤ n) (h2 : n ≤ 7) (ha : 0 ≤ a) (ha' : a < n) (hb : 0 ≤ b) (hb' : b < n) :
    Calls Try.prog 59 #[.int .i64 n, .int .i64 a, .int .i64 b] w fun e w' => e = .returned (.int .i64 (baV n a b)) ∧ w = w' := by
  have pa := prod_in h1 h2 ha ha'
  have pb := prod_in h1 h2 hb hb'
  by_cases hlt : b < a
  · have H : Hid (baV n a b = (b * (2 * n - b - 1)) / 2 + a - b - 1) := by rw [Hid, baV, if_pos hlt, baL]
    generalize hP : b * (2 * n - b - 1) = P at pb H
    have HP := Lib.hid hP
    have V : Hid (IntKind.i64.wrap (b * (2 * n - b - 1)) = P) := by rw [Hid, hP]; exact IntWalk.i64_in _ (by omega)
    clear hP pa
    go_enter Try.func59, Try.ntmps59
    have v := V.out
    have hp := HP.out
    go_wp2
    go_ret
    clear v hp
    exact ⟨ret_int H.out.symm, rfl⟩
  · have H : Hid (baV n a b = (a * (2 * n - a - 1)) / 2 + b - a - 1) := by rw [Hid, baV, if_neg hlt, baL]
    have hlt' : a ≤ b := by omega
    clear hlt
    generalize hP : a * (2 * n - a - 1) = P at pa H
    have HP := Lib.hid hP
    have V : Hid (IntKind.i64.wrap (a * (2 * n - a - 1)) = P) := by rw [Hid, hP]; exact IntWalk.i64_in _ (by omega)
    clear hP pb
    go_enter Try.func59, Try.ntmps59
    have v := V.out
    have hp := HP.out
    go_wp2
    go_ret
    clear v hp
    exact ⟨ret_int H.out.symm, rfl⟩

set_option maxHeartbeats 1000000 in
theorem iBaseIndex_any (n : Nat) (p : Nat × Nat) (w : World) (h1 : 2 ≤ n) (h2 : n ≤ 7) :
    Calls Try.prog 44 #[.int .i64 (n : Int), .int .i64 (p.1 : Int), .int .i64 (p.2 : Int)] w fun e w' => e = .returned (.int .i64 (biV n p)) ∧ w = w' := by
  obtain ⟨i, j⟩ := p
  simp only
  have HM : Hid (betB (n : Int) 2 7 = true) := betB_true.2 ⟨by omega, by omega⟩
  cases hi : isA (n : Int) (i : Int)
  · have HI := Lib.hid hi
    have H : Hid (biV n (i, j) = -1) := by simp [Hid, biV, hi]
    clear hi
    go_enter Try.func44, Try.ntmps44
    go_wp2_with fail
    refine (isMany_any _ _).mono ?_
    rintro e w' ⟨he, rfl⟩
    rw [HM.out] at he
    subst he
    go_wp2_with fail
    refine (isAnt_any _ _ _ (by omega) (by omega)).mono ?_
    rintro e w' ⟨he, rfl⟩
    rw [HI.out] at he
    subst he
    go_wp2
    go_ret
    exact ⟨ret_int H.out.symm, rfl⟩
  have HI := Lib.hid hi
  cases hj : isA (n : Int) (j : Int)
  · have HJ := Lib.hid hj
    have H : Hid (biV n (i, j) = -1) := by simp [Hid, biV, hj]
    clear hi hj
    go_enter Try.func44, Try.ntmps44
    go_wp2_with fail
    refine (isMany_any _ _).mono ?_
    rintro e w' ⟨he, rfl⟩
    rw [HM.out] at he
    subst he
    go_wp2_with fail
    refine (isAnt_any _ _ _ (by omega) (by omega)).mono ?_
    rintro e w' ⟨he, rfl⟩
    rw [HI.out] at he
    subst he
    go_wp2_with fail
    refine (isAnt_any _ _ _ (by omega) (by omega)).mono ?_
    rintro e w' ⟨he, rfl⟩
    rw [HJ.out] at he
    subst he
    go_wp2
    go_ret
    exact ⟨ret_int H.out.symm, rfl⟩
  have HJ := Lib.hid hj
  have ia := isA_true.1 hi
  have ja := isA_true.1 hj
  by_cases hne : i = j
  · subst hne
    have H : Hid (biV n (i, i) = -1) := by simp [Hid, biV]
    clear hi hj
    go_enter Try.func44, Try.ntmps44
    go_wp2_with fail
    refine (isMany_any _ _).mono ?_
    rintro e w' ⟨he, rfl⟩
    rw [HM.out] at he
    subst he
    go_wp2_with fail
    refine (isAnt_any _ _ _ (by omega) (by omega)).mono ?_
    rintro e w' ⟨he, rfl⟩
    rw [HI.out] at he
    subst he
    go_wp2_with fail
    refine (isAnt_any _ _ _ (by omega) (by omega)).mono ?_
    rintro e w' ⟨he, rfl⟩
    rw [HI.out] at he
    subst he
    go_wp2
    go_ret
    exact ⟨ret_int H.out.symm, rfl⟩
  · have H : Hid (biV n (i, j) = baV n i j) := by simp [Hid, biV, hi, hj, hne]
    have hq : ((i : Int) == (j : Int)) = false := by simp; omega
    have hq2 : ¬ (i : Int) = (j : Int) := by omega
    clear hi hj hne
    go_enter Try.func44, Try.ntmps44
    go_wp2_with fail
    refine (isMany_any _ _).mono ?_
    rintro e w' ⟨he, rfl⟩
    rw [HM.out] at he
    subst he
    go_wp2_with fail
    refine (isAnt_any _ _ _ (by omega) (by omega)).mono ?_
    rintro e w' ⟨he, rfl⟩
    rw [HI.out] at he
    subst he
    go_wp2_with fail
    refine (isAnt_any _ _ _ (by omega) (by omega)).mono ?_
    rintro e w' ⟨he, rfl⟩
    rw [HJ.out] at he
    subst he
    go_wp2_with fail
    refine (baseAt_any _ _ _ _ (by omega) (by omega) ia.1 ia.2 ja.1 ja.2).mono ?_
    rintro e w' ⟨rfl, rfl⟩
    go_wp2
    go_ret
    exact ⟨ret_int H.out.symm, rfl⟩

end Go.Proofs.Ytkmnjekpogbkkaa
