/-
  Plain facts: places, arrays, delays. No program in sight.
-/
import Derived.Test.YtkmnjekpogbkkaaBet
import Derived.Test.YtkmnjekpogbkkaaPairsB
namespace Go.Proofs.Ytkmnjekpogbkkaa
open Go.RowKit
set_option linter.unusedVariables false

/-- Both coordinates in range. -/
def plc (x y : Int) : Bool := betB x (-1000) 1000 && betB y (-1000) 1000
theorem plc_true {x y : Int} : plc x y = true ↔ (-1000 ≤ x ∧ x ≤ 1000) ∧ (-1000 ≤ y ∧ y ≤ 1000) := by
  simp only [plc, Bool.and_eq_true, betB_true]
theorem plc_x {x y : Int} (h : betB x (-1000) 1000 = false) : plc x y = false := by simp [plc, h]
theorem plc_y {x y : Int} (h : betB x (-1000) 1000 = true) : plc x y = betB y (-1000) 1000 := by simp [plc, h]

/-- Whether a pair stands in a list. -/
def hasP (ps : List (Int × Int)) (x y : Int) : Bool := decide (∃ j, j < ps.length ∧ px ps j = x ∧ py ps j = y)
theorem hasP_true {ps : List (Int × Int)} {x y : Int} : hasP ps x y = true ↔ ∃ j, j < ps.length ∧ px ps j = x ∧ py ps j = y := by simp [hasP]
theorem hasP_false {ps : List (Int × Int)} {x y : Int} : hasP ps x y = false ↔ ∀ j, j < ps.length → ¬ (px ps j = x ∧ py ps j = y) := by
  rw [← Bool.not_eq_true, hasP_true]
  constructor
  · intro h j hj e; exact h ⟨j, hj, e.1, e.2⟩
  · rintro h ⟨j, hj, e1, e2⟩; exact h j hj ⟨e1, e2⟩

/-- The j-th antenna is in range and stands nowhere ahead. -/
def antOk (ps : List (Int × Int)) (j : Nat) : Bool := plc (px ps j) (py ps j) && !hasP (ps.take j) (px ps j) (py ps j)
/-- A list of antennas is an array. -/
def avB (ps : List (Int × Int)) : Bool := betB ps.length 2 7 && decide (∀ j, j < ps.length → antOk ps j = true)
theorem av_len {ps : List (Int × Int)} (h : avB ps = true) : 2 ≤ ps.length ∧ ps.length ≤ 7 := by
  simp only [avB, Bool.and_eq_true] at h
  have := betB_true.1 h.1
  omega
theorem av_no {ps : List (Int × Int)} (h : betB ps.length 2 7 = false) : avB ps = false := by simp [avB, h]
theorem av_bad {ps : List (Int × Int)} {j : Nat} (hj : j < ps.length) (h : antOk ps j = false) : avB ps = false := by
  cases e : avB ps
  · rfl
  · simp only [avB, Bool.and_eq_true, decide_eq_true_eq] at e
    rw [e.2 j hj] at h; cases h
theorem av_mk {ps : List (Int × Int)} (h : betB ps.length 2 7 = true) (h' : ∀ j, j < ps.length → antOk ps j = true) : avB ps = true := by
  simp only [avB, Bool.and_eq_true, decide_eq_true_eq]; exact ⟨h, h'⟩
theorem av_all {ps : List (Int × Int)} (h' : ∀ j, j < ps.length → antOk ps j = true) : avB ps = betB ps.length 2 7 := by
  cases h : betB ps.length 2 7
  · exact av_no h
  · exact av_mk h h'
theorem av_at {ps : List (Int × Int)} (h : avB ps = true) {j : Nat} (hj : j < ps.length) : antOk ps j = true := by
  simp only [avB, Bool.and_eq_true, decide_eq_true_eq] at h
  exact h.2 j hj
theorem av_in {ps : List (Int × Int)} (h : avB ps = true) {j : Nat} (hj : j < ps.length) : (-1000 ≤ px ps j ∧ px ps j ≤ 1000) ∧ (-1000 ≤ py ps j ∧ py ps j ≤ 1000) := by
  have := av_at h hj
  simp only [antOk, Bool.and_eq_true] at this
  exact plc_true.1 this.1
theorem antOk_iff {ps : List (Int × Int)} {j : Nat} (hj : j < ps.length) : antOk ps j = true ↔ plc (px ps j) (py ps j) = true ∧ ∀ i, i < j → ¬ (px ps i = px ps j ∧ py ps i = py ps j) := by
  simp only [antOk, Bool.and_eq_true, Bool.not_eq_true', hasP_false, List.length_take]
  constructor
  · rintro ⟨h1, h2⟩
    refine ⟨h1, fun i hi => ?_⟩
    have := h2 i (by omega)
    rwa [px_take hi, py_take hi] at this
  · rintro ⟨h1, h2⟩
    refine ⟨h1, fun i hi => ?_⟩
    have hi' : i < j := by omega
    rw [px_take hi', py_take hi']
    exact h2 i hi'
theorem av_ne {ps : List (Int × Int)} (h : avB ps = true) {i j : Nat} (hi : i < ps.length) (hj : j < ps.length) (hij : i ≠ j) : ¬ (px ps i = px ps j ∧ py ps i = py ps j) := by
  rcases Nat.lt_or_ge i j with hlt | hge
  · exact ((antOk_iff hj).1 (av_at h hj)).2 i hlt
  · intro e
    exact ((antOk_iff hi).1 (av_at h hi)).2 j (by omega) ⟨e.1.symm, e.2.symm⟩
theorem av_of {ps : List (Int × Int)} (h1 : 2 ≤ ps.length) (h2 : ps.length ≤ 7) (h3 : ∀ j, j < ps.length → plc (px ps j) (py ps j) = true) (h4 : ∀ i j, i < j → j < ps.length → ¬ (px ps i = px ps j ∧ py ps i = py ps j)) : avB ps = true :=
  av_mk (betB_true.2 (by omega)) fun j hj => (antOk_iff hj).2 ⟨h3 j hj, fun i hi => h4 i j hi hj⟩

/-- An antenna of n. -/
def isA (n i : Int) : Bool := betB i 0 (n - 1)
theorem isA_true {n i : Int} : isA n i = true ↔ 0 ≤ i ∧ i < n := by simp only [isA, betB_true]; omega
theorem isA_nat {n i : Int} (h : isA n i = true) : ∃ k : Nat, i = (k : Int) ∧ (k : Int) < n := by
  have := isA_true.1 h
  exact ⟨i.toNat, by omega, by omega⟩

/-- DelayOf. -/
def doOk (ps : List (Int × Int)) (i x y : Int) : Bool := avB ps && (isA ps.length i && plc x y)
def doV (ps : List (Int × Int)) (i x y : Int) : Int := if doOk ps i x y then px ps i.toNat * x + py ps i.toNat * y else 0
theorem do_no {ps : List (Int × Int)} {i x y : Int} (h : doOk ps i x y = false) : doV ps i x y = 0 := by simp [doV, h]
theorem do_yes {ps : List (Int × Int)} {i x y : Int} (h : doOk ps i x y = true) : doV ps i x y = px ps i.toNat * x + py ps i.toNat * y := by simp [doV, h]
theorem do_true {ps : List (Int × Int)} {i x y : Int} : doOk ps i x y = true ↔ avB ps = true ∧ isA ps.length i = true ∧ plc x y = true := by simp only [doOk, Bool.and_eq_true]
theorem mul_in {a b : Int} (ha : -1000 ≤ a ∧ a ≤ 1000) (hb : -1000 ≤ b ∧ b ≤ 1000) : -1000000 ≤ a * b ∧ a * b ≤ 1000000 := by
  have h1 : (a * b).natAbs ≤ 1000 * 1000 := by
    rw [Int.natAbs_mul]; exact Nat.mul_le_mul (by omega) (by omega)
  omega
theorem do_in (ps : List (Int × Int)) (i x y : Int) : -2000000 ≤ doV ps i x y ∧ doV ps i x y ≤ 2000000 := by
  cases h : doOk ps i x y
  · rw [do_no h]; omega
  · rw [do_yes h]
    obtain ⟨h1, h2, h3⟩ := do_true.1 h
    obtain ⟨k, rfl, hk⟩ := isA_nat h2
    have ha := av_in h1 (j := k) (by omega)
    have hb := plc_true.1 h3
    have m1 := mul_in ha.1 hb.1
    have m2 := mul_in ha.2 hb.2
    simp only [Int.toNat_natCast]
    omega

/-- DelayBase. -/
def dbOk (ps : List (Int × Int)) (i j x y : Int) : Bool := doOk ps i x y && doOk ps j x y
def dbV (ps : List (Int × Int)) (i j x y : Int) : Int := if dbOk ps i j x y then doV ps j x y - doV ps i x y else 0
theorem db_no {ps : List (Int × Int)} {i j x y : Int} (h : dbOk ps i j x y = false) : dbV ps i j x y = 0 := by simp [dbV, h]
theorem db_yes {ps : List (Int × Int)} {i j x y : Int} (h : dbOk ps i j x y = true) : dbV ps i j x y = doV ps j x y - doV ps i x y := by simp [dbV, h]
theorem db_true {ps : List (Int × Int)} {i j x y : Int} : dbOk ps i j x y = true ↔ doOk ps i x y = true ∧ doOk ps j x y = true := by simp only [dbOk, Bool.and_eq_true]
theorem db_in (ps : List (Int × Int)) (i j x y : Int) : -4000000 ≤ dbV ps i j x y ∧ dbV ps i j x y ≤ 4000000 := by
  cases h : dbOk ps i j x y
  · rw [db_no h]; omega
  · rw [db_yes h]
    have := do_in ps i x y
    have := do_in ps j x y
    omega

end Go.Proofs.Ytkmnjekpogbkkaa
