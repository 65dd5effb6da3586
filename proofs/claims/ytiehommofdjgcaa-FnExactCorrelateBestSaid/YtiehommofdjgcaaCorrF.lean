/-
  Plain facts on correlations: sums over a circle. No program in sight but for the names of the contracts' functions.
-/
import Derived.Test.YtiehommofdjgcaaCorr2
namespace Go.Proofs.Ytiehommofdjgcaa
set_option linter.unusedVariables false

/-- f 0 + .. + f (n - 1). -/
def S (f : Nat → Int) : Nat → Int
  | 0 => 0
  | k + 1 => S f k + f k

theorem S_congr {f g : Nat → Int} : ∀ {n : Nat}, (∀ i, i < n → f i = g i) → S f n = S g n
  | 0, _ => rfl
  | n + 1, h => by rw [S, S, S_congr (fun i hi => h i (by omega)), h n (by omega)]
theorem S_add (f g : Nat → Int) : ∀ n, S (fun i => f i + g i) n = S f n + S g n
  | 0 => rfl
  | n + 1 => by simp only [S, S_add f g n]; omega
theorem S_mul (c : Int) (f : Nat → Int) : ∀ n, S (fun i => c * f i) n = c * S f n
  | 0 => by simp [S]
  | n + 1 => by simp only [S, S_mul c f n, Int.mul_add]
theorem S_mul_right (c : Int) (f : Nat → Int) (n : Nat) : S (fun i => f i * c) n = S f n * c := by
  rw [Int.mul_comm, ← S_mul]; exact S_congr fun i _ => Int.mul_comm _ _
theorem S_zero : ∀ n, S (fun _ => 0) n = 0
  | 0 => rfl
  | n + 1 => by simp [S, S_zero n]
theorem S_le {f g : Nat → Int} : ∀ {n : Nat}, (∀ i, i < n → f i ≤ g i) → S f n ≤ S g n
  | 0, _ => Int.le_refl _
  | n + 1, h => by
    have h1 := S_le (n := n) (fun i hi => h i (by omega))
    have h2 := h n (by omega)
    simp only [S]; omega
theorem S_nonneg {f : Nat → Int} {n : Nat} (h : ∀ i, i < n → 0 ≤ f i) : 0 ≤ S f n := by
  have := S_le (f := fun _ => 0) (g := f) h
  rwa [S_zero] at this
theorem S_swap (f : Nat → Nat → Int) (m : Nat) : ∀ n, S (fun i => S (fun j => f i j) m) n = S (fun j => S (fun i => f i j) n) m
  | 0 => by simp only [S]; rw [S_zero]
  | n + 1 => by simp only [S, S_swap f m n]; rw [← S_add]
theorem S_first (f : Nat → Int) : ∀ n, S f (n + 1) = f 0 + S (fun i => f (i + 1)) n
  | 0 => by simp [S]
  | n + 1 => by rw [S, S_first f n, S]; omega
theorem S_ext_zero {f : Nat → Int} : ∀ {n : Nat}, (∀ i, i < n → 0 ≤ f i) → S f n = 0 → ∀ i, i < n → f i = 0
  | 0, _, _, i, hi => absurd hi (by omega)
  | n + 1, h, h0, i, hi => by
    have h1 : 0 ≤ S f n := S_nonneg fun i hi => h i (by omega)
    have h2 := h n (by omega)
    simp only [S] at h0
    rcases Nat.lt_or_ge i n with hl | hl
    · exact S_ext_zero (fun i hi => h i (by omega)) (by omega) i hl
    · obtain rfl : i = n := by omega
      omega

theorem S_rot1 (f : Nat → Int) {n : Nat} (hn : 1 ≤ n) : S (fun k => f (cyc ((k : Int) + 1) n).toNat) n = S f n := by
  obtain ⟨m, rfl⟩ : ∃ m, n = m + 1 := ⟨n - 1, by omega⟩
  rw [S, S_first f m]
  have h1 : S (fun k => f (cyc ((k : Int) + 1) ((m + 1 : Nat) : Int)).toNat) m = S (fun i => f (i + 1)) m := by
    apply S_congr
    intro i hi
    rw [cyc_small (by omega) (by omega)]
    congr 1
  have h2 : cyc ((m : Int) + 1) ((m + 1 : Nat) : Int) = 0 := by
    unfold cyc
    rw [show ((m : Int) + 1) = ((m + 1 : Nat) : Int) by omega, Int.emod_self]
  rw [h1, h2]
  have : f (Int.toNat 0) = f 0 := rfl
  omega
theorem cyc_idem (x n : Int) : cyc (cyc x n) n = cyc x n := by unfold cyc; exact Int.emod_emod _ _
theorem S_rotN (f : Nat → Int) {n : Nat} (hn : 1 ≤ n) : ∀ s : Nat, S (fun k => f (cyc ((k : Int) + (s : Int)) n).toNat) n = S f n
  | 0 => by
    apply S_congr
    intro i hi
    rw [show ((i : Int) + ((0 : Nat) : Int)) = i by omega, cyc_small (by omega) (by omega)]
    rfl
  | s + 1 => by
    rw [← S_rotN f hn s, ← S_rot1 (fun k => f (cyc ((k : Int) + (s : Int)) n).toNat) hn]
    apply S_congr
    intro i hi
    have h1 := cyc_ge (k := (i : Int) + 1) (n := n) (by omega)
    rw [Int.toNat_of_nonneg h1, cyc_cyc]
    congr 3
    omega
theorem S_rot (f : Nat → Int) {n : Nat} (hn : 1 ≤ n) (s : Int) : S (fun k => f (cyc ((k : Int) + s) n).toNat) n = S f n := by
  have h1 := cyc_ge (k := s) (n := n) (by omega)
  obtain ⟨t, ht⟩ := Int.eq_ofNat_of_zero_le h1
  rw [← S_rotN f hn t]
  apply S_congr
  intro i hi
  rw [← ht, show (i : Int) + cyc s n = cyc s n + i by omega, cyc_cyc]
  congr 3
  omega

theorem sumTo_S (a b : List Int) (lag : Int) (n : Nat) : ∀ k, sumTo a b lag n k = S (fun i => el a i * el b (cyc ((i : Int) + lag) n).toNat) k
  | 0 => rfl
  | k + 1 => by rw [sumTo, S, sumTo_S a b lag n k]
theorem corr_S (a b : List Int) (lag : Int) : corr a b lag = S (fun i => el a i * el b (cyc ((i : Int) + lag) a.length).toNat) a.length := sumTo_S a b lag _ _

theorem corr_swap {a b : List Int} (lag : Int) (hl : a.length = b.length) (h1 : 1 ≤ a.length) : corr b a (-lag) = corr a b lag := by
  rw [corr_S, corr_S, ← hl, ← S_rot (fun i => el b i * el a (cyc ((i : Int) + -lag) a.length).toNat) h1 lag]
  apply S_congr
  intro i hi
  have h2 := cyc_ge (k := (i : Int) + lag) (n := a.length) (by omega)
  rw [Int.toNat_of_nonneg h2, cyc_cyc, show (i : Int) + lag + -lag = i by omega, cyc_small (k := (i : Int)) (n := a.length) (by omega) (by omega), Int.toNat_natCast, Int.mul_comm]
theorem corr_round {a b : List Int} (lag : Int) : corr a b (lag + a.length) = corr a b lag := by
  rw [corr_S, corr_S]
  apply S_congr
  intro i hi
  congr 2
  unfold cyc
  rw [show (i : Int) + (lag + a.length) = i + lag + a.length by omega, Int.add_emod_right]

/-- Element by element. -/
def mapL (f : Int → Int) (zs : List Int) : List Int := zs.map f
def addL (a b : List Int) : List Int := (List.range a.length).map fun i => el a i + el b i
theorem mapL_len (f : Int → Int) (zs : List Int) : (mapL f zs).length = zs.length := by simp [mapL]
theorem mapL_at {f : Int → Int} {zs : List Int} {k : Nat} (h : k < zs.length) : el (mapL f zs) k = f (el zs k) := by
  rw [el_lt (by rw [mapL_len]; exact h), el_lt h]; simp [mapL]
theorem addL_len (a b : List Int) : (addL a b).length = a.length := by simp [addL]
theorem addL_at {a b : List Int} {k : Nat} (h : k < a.length) : el (addL a b) k = el a k + el b k := by
  rw [el_lt (by rw [addL_len]; exact h)]; simp [addL]

theorem corr_times {a b : List Int} (lag c : Int) : corr (mapL (fun x => c * x) a) b lag = c * corr a b lag := by
  rw [corr_S, corr_S, mapL_len, ← S_mul]
  apply S_congr
  intro i hi
  rw [mapL_at hi, Int.mul_assoc]
theorem corr_add {a b : List Int} (lag : Int) (hl : a.length = b.length) : corr (addL a b) b lag = corr a b lag + corr b b lag := by
  rw [corr_S, corr_S, corr_S, addL_len, ← hl, ← S_add]
  apply S_congr
  intro i hi
  rw [addL_at hi, Int.add_mul]
theorem corr_both {a b : List Int} (lag k : Int) (hl : a.length = b.length) (h1 : 1 ≤ a.length) : corr (shl a k) (shl b k) lag = corr a b lag := by
  rw [corr_S, corr_S, shl_len, ← S_rot (fun i => el a i * el b (cyc ((i : Int) + lag) a.length).toNat) h1 (-k)]
  apply S_congr
  intro i hi
  have h2 := cyc_ge (k := (i : Int) + lag) (n := a.length) (by omega)
  have h3 := cyc_lt (k := (i : Int) + lag) (n := a.length) (by omega)
  have h4 := cyc_ge (k := (i : Int) + -k) (n := a.length) (by omega)
  rw [shl_at hi, shl_at (by omega), ← hl, Int.toNat_of_nonneg h2, Int.toNat_of_nonneg h4, show cyc ((i : Int) + lag) a.length - k = cyc ((i : Int) + lag) a.length + -k by omega, cyc_cyc, cyc_cyc, show (i : Int) + lag + -k = (i : Int) + -k + lag by omega, ← Int.sub_eq_add_neg]
theorem corr_back {a b : List Int} (lag : Int) (hl : a.length = b.length) : corr a (shl b (-lag)) 0 = corr a b lag := by
  rw [corr_S, corr_S]
  apply S_congr
  intro i hi
  rw [show (i : Int) + 0 = i by omega, cyc_small (k := (i : Int)) (n := a.length) (by omega) (by omega), Int.toNat_natCast, shl_at (by omega), ← hl]
  congr 3
  congr 1
  omega
theorem corr_sum {a b : List Int} (hl : a.length = b.length) (h1 : 1 ≤ a.length) : S (fun k => corr a b (k : Int)) a.length = S (el a) a.length * S (el b) a.length := by
  have e : S (fun k => corr a b (k : Int)) a.length = S (fun k => S (fun i => el a i * el b (cyc ((i : Int) + (k : Int)) a.length).toNat) a.length) a.length := S_congr fun k _ => corr_S a b _
  rw [e, S_swap, ← S_mul_right]
  apply S_congr
  intro i hi
  rw [S_mul]
  congr 1
  rw [← S_rot (el b) h1 (i : Int)]
  apply S_congr
  intro k hk
  rw [show (i : Int) + (k : Int) = (k : Int) + (i : Int) by omega]
theorem corr_zero (a : List Int) : corr a a 0 = S (fun i => el a i * el a i) a.length := by
  rw [corr_S]
  apply S_congr
  intro i hi
  rw [show (i : Int) + 0 = i by omega, cyc_small (by omega) (by omega), Int.toNat_natCast]
theorem sq_nonneg (x : Int) : 0 ≤ x * x := by
  rcases Int.le_total 0 x with h | h
  · exact Int.mul_nonneg h h
  · exact Int.mul_nonneg_of_nonpos_of_nonpos h h
theorem corr_pos (a : List Int) : 0 ≤ corr a a 0 := by rw [corr_zero]; exact S_nonneg fun i _ => sq_nonneg _
theorem rot_sq {b : List Int} {n : Nat} (hn : 1 ≤ n) (lag : Int) : S (fun i => el b (cyc ((i : Int) + lag) n).toNat * el b (cyc ((i : Int) + lag) n).toNat) n = S (fun i => el b i * el b i) n :=
  S_rot (fun i => el b i * el b i) hn lag
/-- Twice a correlation is at most the sum of both powers. -/
theorem corr_two {a b : List Int} (lag : Int) (hl : a.length = b.length) (h1 : 1 ≤ a.length) : 2 * corr a b lag ≤ corr a a 0 + corr b b 0 ∧ -(2 * corr a b lag) ≤ corr a a 0 + corr b b 0 := by
  rw [corr_zero, corr_zero, ← hl, ← rot_sq (b := b) h1 lag, ← S_add, corr_S, ← S_mul]
  constructor
  · apply S_le
    intro i hi
    have := sq_nonneg (el a i - el b (cyc ((i : Int) + lag) a.length).toNat)
    simp only [Int.sub_mul, Int.mul_sub] at this
    have hc := Int.mul_comm (el b (cyc ((i : Int) + lag) a.length).toNat) (el a i)
    omega
  · rw [show ∀ x : Int, -x = (-1) * x from fun x => by omega, ← S_mul]
    apply S_le
    intro i hi
    have := sq_nonneg (el a i + el b (cyc ((i : Int) + lag) a.length).toNat)
    simp only [Int.add_mul, Int.mul_add] at this
    have hc := Int.mul_comm (el b (cyc ((i : Int) + lag) a.length).toNat) (el a i)
    omega
theorem corr_self {a : List Int} (lag : Int) (h1 : 1 ≤ a.length) : corr a a lag ≤ corr a a 0 ∧ -(corr a a lag) ≤ corr a a 0 := by
  have := corr_two (a := a) (b := a) lag rfl h1
  omega
/-- Cauchy and Schwarz. -/
theorem cauchy (f g : Nat → Int) (n : Nat) : S (fun i => f i * g i) n * S (fun i => f i * g i) n ≤ S (fun i => f i * f i) n * S (fun i => g i * g i) n := by
  have hY : 0 ≤ S (fun i => g i * g i) n := S_nonneg fun i _ => sq_nonneg _
  generalize hP : S (fun i => f i * g i) n = P
  generalize hX : S (fun i => f i * f i) n = X
  generalize hYY : S (fun i => g i * g i) n = Y at *
  rcases Int.lt_or_eq_of_le hY with hpos | hz
  · have h0 : 0 ≤ S (fun i => (f i * Y - g i * P) * (f i * Y - g i * P)) n := S_nonneg fun i _ => sq_nonneg _
    have e : S (fun i => (f i * Y - g i * P) * (f i * Y - g i * P)) n = Y * (X * Y - P * P) := by
      have e1 : S (fun i => (f i * Y - g i * P) * (f i * Y - g i * P)) n = S (fun i => ((Y * Y) * (f i * f i) + (-(2 * (Y * P))) * (f i * g i)) + (P * P) * (g i * g i)) n := by
        apply S_congr
        intro i _
        generalize f i = x
        generalize g i = y
        simp only [Int.sub_mul, Int.mul_sub, Int.neg_mul]
        have e1 : x * Y * (x * Y) = Y * Y * (x * x) := by ac_rfl
        have e2 : x * Y * (y * P) = Y * P * (x * y) := by ac_rfl
        have e3 : y * P * (x * Y) = Y * P * (x * y) := by ac_rfl
        have e4 : y * P * (y * P) = P * P * (y * y) := by ac_rfl
        rw [e1, e2, e3, e4, Int.mul_assoc 2]
        omega
      rw [e1, S_add, S_add, S_mul, S_mul, S_mul, hX, hP, hYY]
      simp only [Int.mul_sub, Int.neg_mul]
      have e1 : Y * Y * X = Y * (X * Y) := by ac_rfl
      have e2 : 2 * (Y * P) * P = 2 * (Y * (P * P)) := by rw [Int.mul_assoc, Int.mul_assoc]
      have e3 : P * P * Y = Y * (P * P) := by ac_rfl
      rw [e1, e2, e3]
      omega
    rw [e] at h0
    have := Int.nonneg_of_mul_nonneg_right h0 hpos
    omega
  · have hz' : S (fun i => g i * g i) n = 0 := by rw [hYY]; exact hz.symm
    have h0 := S_ext_zero (f := fun i => g i * g i) (fun i _ => sq_nonneg _) hz'
    have hg : ∀ i, i < n → g i = 0 := fun i hi => by
      have := h0 i hi
      rcases Int.mul_eq_zero.1 this with h | h <;> exact h
    have hP0 : P = 0 := by
      rw [← hP, ← S_zero n]
      exact S_congr fun i hi => by rw [hg i hi, Int.mul_zero]
    rw [hP0, ← hz]
    simp
theorem corr_bound {a b : List Int} (lag : Int) (hl : a.length = b.length) (h1 : 1 ≤ a.length) : corr a b lag * corr a b lag ≤ corr a a 0 * corr b b 0 := by
  rw [corr_S, corr_zero, corr_zero, ← hl, ← rot_sq (b := b) h1 lag]
  exact cauchy _ _ _

theorem bst_facts (a b : List Int) : ∀ k, 1 ≤ k → (bst a b k).2 = corr a b ((bst a b k).1 : Int) ∧ (bst a b k).1 < k ∧ (∀ j, j < k → corr a b (j : Int) ≤ (bst a b k).2) ∧ (∀ j, j < (bst a b k).1 → corr a b (j : Int) < (bst a b k).2)
  | 0, h => absurd h (by omega)
  | 1, _ => by
    rw [bst_one]
    refine ⟨rfl, by simp, fun j hj => ?_, fun j hj => absurd hj (by simp)⟩
    obtain rfl : j = 0 := by omega
    exact Int.le_refl _
  | k + 2, _ => by
    obtain ⟨h1, h2, h3, h4⟩ := bst_facts a b (k + 1) (by omega)
    by_cases h : (bst a b (k + 1)).2 < corr a b ((k + 1 : Nat) : Int)
    · rw [bst_up h]
      refine ⟨rfl, by simp, fun j hj => ?_, fun j hj => ?_⟩
      · rcases Nat.lt_or_ge j (k + 1) with hlt | hge
        · have := h3 j hlt; simp only; omega
        · obtain rfl : j = k + 1 := by omega
          exact Int.le_refl _
      · have := h3 j hj; simp only; omega
    · rw [bst_stay h]
      refine ⟨h1, by omega, fun j hj => ?_, h4⟩
      rcases Nat.lt_or_ge j (k + 1) with hlt | hge
      · exact h3 j hlt
      · obtain rfl : j = k + 1 := by omega
        omega
theorem sq_shl {a : List Int} (k : Int) (h1 : 1 ≤ a.length) : corr (shl a k) (shl a k) 0 = corr a a 0 := corr_both 0 k rfl h1
/-- A shift is found. -/
theorem best_shift {a : List Int} (k : Int) (h1 : 1 ≤ a.length) : corr a (shl a k) ((bst a (shl a k) a.length).1 : Int) = corr a a 0 := by
  obtain ⟨e1, e2, e3, _⟩ := bst_facts a (shl a k) a.length h1
  have hle := (corr_two (a := a) (b := shl a k) ((bst a (shl a k) a.length).1 : Int) (by rw [shl_len]) h1).1
  rw [sq_shl k h1] at hle
  have hc0 := cyc_ge (k := k) (n := a.length) (by omega)
  have hc1 := cyc_lt (k := k) (n := a.length) (by omega)
  obtain ⟨j, hj⟩ := Int.eq_ofNat_of_zero_le hc0
  have hge := e3 j (by omega)
  have hat : corr a (shl a k) (j : Int) = corr a a 0 := by
    rw [corr_S, corr_zero]
    apply S_congr
    intro i hi
    have h2 := cyc_ge (k := (i : Int) + (j : Int)) (n := a.length) (by omega)
    have h3 := cyc_lt (k := (i : Int) + (j : Int)) (n := a.length) (by omega)
    rw [shl_at (by omega), Int.toNat_of_nonneg h2, show cyc ((i : Int) + (j : Int)) a.length - k = cyc ((i : Int) + (j : Int)) a.length + -k by omega, cyc_cyc, ← hj,
      show (i : Int) + cyc k a.length + -k = cyc k a.length + ((i : Int) + -k) by omega, cyc_cyc, show k + ((i : Int) + -k) = i by omega, cyc_small (by omega) (by omega), Int.toNat_natCast]
  rw [e1] at hge
  omega

end Go.Proofs.Ytiehommofdjgcaa
