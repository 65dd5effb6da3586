/-
  Plain facts on shifted and turned arrays. No program in sight.
-/
import Derived.Test.YtkmnjekpogbkkaaArrS
import Derived.Test.YtkmnjekpogbkkaaArrT
import Derived.Test.YtkmnjekpogbkkaaBaseV
import Derived.Test.YtkmnjekpogbkkaaDelay
namespace Go.Proofs.Ytkmnjekpogbkkaa
open Go.RowKit
set_option linter.unusedVariables false

theorem av_turn {ps : List (Int × Int)} (h : avB ps = true) : avB (ps.map tuF) = true := by
  have hl := av_len h
  refine av_of (by rw [List.length_map]; exact hl.1) (by rw [List.length_map]; exact hl.2) (fun j hj => ?_) (fun i j hij hj => ?_)
  · rw [List.length_map] at hj
    have := av_in h hj
    rw [px_map tuF hj, py_map tuF hj]
    refine plc_true.2 ?_
    simp only [tuF]
    omega
  · rw [List.length_map] at hj
    rw [px_map tuF hj, py_map tuF hj, px_map tuF (show i < ps.length by omega), py_map tuF (show i < ps.length by omega)]
    simp only [tuF]
    have := av_ne h (show i < ps.length by omega) hj (by omega)
    omega
theorem av_tuN {ps : List (Int × Int)} (h : avB ps = true) : ∀ k, avB (tuN ps k) = true
  | 0 => h
  | k + 1 => av_turn (av_tuN h k)
theorem tuN_add (ps : List (Int × Int)) (a : Nat) : ∀ b, tuN (tuN ps a) b = tuN ps (a + b)
  | 0 => rfl
  | b + 1 => by show (tuN (tuN ps a) b).map tuF = (tuN ps (a + b)).map tuF; rw [tuN_add ps a b]
theorem tuN_four (ps : List (Int × Int)) : tuN ps 4 = ps := by
  show (((ps.map tuF).map tuF).map tuF).map tuF = ps
  have h4 : ∀ p : Int × Int, tuF (tuF (tuF (tuF p))) = p := fun p => by simp [tuF]
  simp only [List.map_map, Function.comp_def, h4, List.map_id']
theorem tuN_mod (ps : List (Int × Int)) (k : Nat) (h : 4 ≤ k) : tuN ps k = tuN ps (k - 4) := by
  rw [show k = 4 + (k - 4) by omega, ← tuN_add, tuN_four, show 4 + (k - 4) - 4 = k - 4 by omega]
theorem tu_back {ps : List (Int × Int)} {K : Nat} (h : avB ps = true) (hK : K ≤ 3) : atOk (tuN ps K) (((4 - K) % 4 : Nat) : Int) = true ∧ atV (tuN ps K) (((4 - K) % 4 : Nat) : Int) = ps := by
  have hok : atOk (tuN ps K) (((4 - K) % 4 : Nat) : Int) = true := at_true.2 ⟨av_tuN h K, by omega⟩
  refine ⟨hok, ?_⟩
  rw [at_yes hok, Int.toNat_natCast, tuN_add]
  obtain rfl | rfl | rfl | rfl : K = 0 ∨ K = 1 ∨ K = 2 ∨ K = 3 := by omega
  · rfl
  all_goals exact tuN_four ps
theorem tu_next {ps : List (Int × Int)} {K : Nat} (h : avB ps = true) (hK : K ≤ 3) : atOk (tuN ps K) 1 = true ∧ atOk ps (((K + 1) % 4 : Nat) : Int) = true ∧ atV (tuN ps K) 1 = atV ps (((K + 1) % 4 : Nat) : Int) := by
  have h1 : atOk (tuN ps K) 1 = true := at_true.2 ⟨av_tuN h K, by omega⟩
  have h2 : atOk ps (((K + 1) % 4 : Nat) : Int) = true := at_true.2 ⟨h, by omega⟩
  refine ⟨h1, h2, ?_⟩
  rw [at_yes h1, at_yes h2, Int.toNat_natCast]
  show (tuN ps K).map tuF = _
  rcases Nat.lt_or_ge K 3 with hlt | hge
  · rw [Nat.mod_eq_of_lt (by omega)]; rfl
  · obtain rfl : K = 3 := by omega
    exact tuN_four ps
theorem tu_norm {ps : List (Int × Int)} : ∀ (K j : Nat), j < ps.length → px (tuN ps K) j * px (tuN ps K) j + py (tuN ps K) j * py (tuN ps K) j = px ps j * px ps j + py ps j * py ps j
  | 0, _, _ => rfl
  | K + 1, j, hj => by
    have ih := tu_norm K j hj
    have hj' : j < (tuN ps K).length := by rw [tuN_len]; exact hj
    show px ((tuN ps K).map tuF) j * px ((tuN ps K).map tuF) j + py ((tuN ps K).map tuF) j * py ((tuN ps K).map tuF) j = _
    rw [px_map tuF hj', py_map tuF hj']
    simp only [tuF, Int.neg_mul_neg]
    omega
theorem sh_sh (ps : List (Int × Int)) (x y u v : Int) : (ps.map (shF x y)).map (shF u v) = ps.map (shF (x + u) (y + v)) := by
  rw [List.map_map]
  congr 1
  funext p
  simp only [Function.comp, shF]
  rw [Int.add_assoc, Int.add_assoc]
theorem sh_zero (ps : List (Int × Int)) : ps.map (shF 0 0) = ps := by
  have : shF 0 0 = id := by funext p; simp [shF]
  rw [this, List.map_id]
theorem sh_back {ps : List (Int × Int)} {x y : Int} (h : asOk ps x y = true) : asOk (ps.map (shF x y)) (-x) (-y) = true ∧ asV (ps.map (shF x y)) (-x) (-y) = ps := by
  obtain ⟨h1, h2, h3, h4⟩ := as_true.1 h
  have e : (ps.map (shF x y)).map (shF (-x) (-y)) = ps := by rw [sh_sh, Int.add_right_neg, Int.add_right_neg]; exact sh_zero ps
  have hok : asOk (ps.map (shF x y)) (-x) (-y) = true := as_true.2 ⟨h4, by omega, by omega, by rw [e]; exact h1⟩
  exact ⟨hok, by rw [as_yes hok, e]⟩
theorem sh_vec {ps : List (Int × Int)} {x y : Int} {i j : Nat} (h : asOk ps x y = true) (hi : i < ps.length) (hj : j < ps.length) :
    bvOk ps (i : Int) (j : Int) = true ∧ bvOk (ps.map (shF x y)) (i : Int) (j : Int) = true ∧ bvX (ps.map (shF x y)) (i : Int) (j : Int) = bvX ps (i : Int) (j : Int) ∧ bvY (ps.map (shF x y)) (i : Int) (j : Int) = bvY ps (i : Int) (j : Int) := by
  obtain ⟨h1, h2, h3, h4⟩ := as_true.1 h
  have k1 : bvOk ps (i : Int) (j : Int) = true := bv_true.2 ⟨h1, isA_true.2 (by omega), isA_true.2 (by omega)⟩
  have k2 : bvOk (ps.map (shF x y)) (i : Int) (j : Int) = true := bv_true.2 ⟨h4, isA_true.2 (by rw [List.length_map]; omega), isA_true.2 (by rw [List.length_map]; omega)⟩
  refine ⟨k1, k2, ?_, ?_⟩
  · rw [(bv_yes k1).1, (bv_yes k2).1, Int.toNat_natCast, Int.toNat_natCast, px_map _ hi, px_map _ hj]; simp only [shF]; omega
  · rw [(bv_yes k1).2, (bv_yes k2).2, Int.toNat_natCast, Int.toNat_natCast, py_map _ hi, py_map _ hj]; simp only [shF]; omega
theorem tu_vec {ps : List (Int × Int)} {i j : Nat} (h : avB ps = true) (hi : i < ps.length) (hj : j < ps.length) :
    bvOk ps (i : Int) (j : Int) = true ∧ bvOk (ps.map tuF) (i : Int) (j : Int) = true ∧ bvX (ps.map tuF) (i : Int) (j : Int) = -(bvY ps (i : Int) (j : Int)) ∧ bvY (ps.map tuF) (i : Int) (j : Int) = bvX ps (i : Int) (j : Int) := by
  have k1 : bvOk ps (i : Int) (j : Int) = true := bv_true.2 ⟨h, isA_true.2 (by omega), isA_true.2 (by omega)⟩
  have k2 : bvOk (ps.map tuF) (i : Int) (j : Int) = true := bv_true.2 ⟨av_turn h, isA_true.2 (by rw [List.length_map]; omega), isA_true.2 (by rw [List.length_map]; omega)⟩
  refine ⟨k1, k2, ?_, ?_⟩
  · rw [(bv_yes k1).2, (bv_yes k2).1, Int.toNat_natCast, Int.toNat_natCast, px_map _ hi, px_map _ hj]; simp only [tuF]; omega
  · rw [(bv_yes k1).1, (bv_yes k2).2, Int.toNat_natCast, Int.toNat_natCast, py_map _ hi, py_map _ hj]; simp only [tuF]
theorem bv_swap {ps : List (Int × Int)} {i j : Int} (h : bvOk ps i j = true) : bvOk ps j i = true ∧ bvX ps j i = -(bvX ps i j) ∧ bvY ps j i = -(bvY ps i j) := by
  obtain ⟨h1, h2, h3⟩ := bv_true.1 h
  have k : bvOk ps j i = true := bv_true.2 ⟨h1, h3, h2⟩
  rw [(bv_yes h).1, (bv_yes h).2, (bv_yes k).1, (bv_yes k).2]
  exact ⟨k, by omega, by omega⟩
theorem bv_three {ps : List (Int × Int)} {i j k : Int} (h : bvOk ps i j = true) (hk : isA ps.length k = true) : bvOk ps i k = true ∧ bvOk ps k j = true ∧ bvX ps i k + bvX ps k j = bvX ps i j ∧ bvY ps i k + bvY ps k j = bvY ps i j := by
  obtain ⟨h1, h2, h3⟩ := bv_true.1 h
  have k1 : bvOk ps i k = true := bv_true.2 ⟨h1, h2, hk⟩
  have k2 : bvOk ps k j = true := bv_true.2 ⟨h1, hk, h3⟩
  rw [(bv_yes h).1, (bv_yes h).2, (bv_yes k1).1, (bv_yes k1).2, (bv_yes k2).1, (bv_yes k2).2]
  exact ⟨k1, k2, by omega, by omega⟩
theorem bv_same {ps : List (Int × Int)} {i j : Int} (h : bvOk ps i j = true) : decide (bvX ps i j = 0 ∧ bvY ps i j = 0) = (i == j) := by
  obtain ⟨h1, h2, h3⟩ := bv_true.1 h
  rw [(bv_yes h).1, (bv_yes h).2]
  obtain ⟨a, rfl, ha⟩ := isA_nat h2
  obtain ⟨b, rfl, hb⟩ := isA_nat h3
  simp only [Int.toNat_natCast]
  by_cases e : a = b
  · subst e; simp
  · have := av_ne h1 (i := b) (j := a) (by omega) (by omega) (fun e' => e e'.symm)
    have e1 : ((a : Int) == (b : Int)) = false := by simp; omega
    rw [e1, decide_eq_false_iff_not]
    omega
/-- Delays of a shifted and of a turned array. -/
theorem db_shift {ps : List (Int × Int)} {i j x y u v : Int} (h : dbOk ps i j x y = true) (hs : asOk ps u v = true) : dbOk (ps.map (shF u v)) i j x y = true ∧ dbV (ps.map (shF u v)) i j x y = dbV ps i j x y := by
  obtain ⟨h1, h2⟩ := db_true.1 h
  obtain ⟨a1, a2, a3⟩ := do_true.1 h1
  obtain ⟨b1, b2, b3⟩ := do_true.1 h2
  have hav := (as_true.1 hs).2.2.2
  have k1 : doOk (ps.map (shF u v)) i x y = true := do_true.2 ⟨hav, by rw [List.length_map]; exact a2, a3⟩
  have k2 : doOk (ps.map (shF u v)) j x y = true := do_true.2 ⟨hav, by rw [List.length_map]; exact b2, a3⟩
  have k : dbOk (ps.map (shF u v)) i j x y = true := db_true.2 ⟨k1, k2⟩
  refine ⟨k, ?_⟩
  rw [db_yes k, db_yes h, do_yes k1, do_yes k2, do_yes h1, do_yes h2]
  obtain ⟨a, rfl, ha⟩ := isA_nat a2
  obtain ⟨b, rfl, hb⟩ := isA_nat b2
  simp only [Int.toNat_natCast]
  rw [px_map _ (show a < ps.length by omega), py_map _ (show a < ps.length by omega), px_map _ (show b < ps.length by omega), py_map _ (show b < ps.length by omega)]
  simp only [shF, Int.add_mul]
  omega
theorem db_turn {ps : List (Int × Int)} {i j x y : Int} (h : dbOk ps i j x y = true) : dbOk (ps.map tuF) i j (-y) x = true ∧ dbV (ps.map tuF) i j (-y) x = dbV ps i j x y := by
  obtain ⟨h1, h2⟩ := db_true.1 h
  obtain ⟨a1, a2, a3⟩ := do_true.1 h1
  obtain ⟨b1, b2, b3⟩ := do_true.1 h2
  have hp := plc_true.1 a3
  have k1 : doOk (ps.map tuF) i (-y) x = true := do_true.2 ⟨av_turn a1, by rw [List.length_map]; exact a2, plc_true.2 (by omega)⟩
  have k2 : doOk (ps.map tuF) j (-y) x = true := do_true.2 ⟨av_turn a1, by rw [List.length_map]; exact b2, plc_true.2 (by omega)⟩
  have k : dbOk (ps.map tuF) i j (-y) x = true := db_true.2 ⟨k1, k2⟩
  refine ⟨k, ?_⟩
  rw [db_yes k, db_yes h, do_yes k1, do_yes k2, do_yes h1, do_yes h2]
  obtain ⟨a, rfl, ha⟩ := isA_nat a2
  obtain ⟨b, rfl, hb⟩ := isA_nat b2
  simp only [Int.toNat_natCast]
  rw [px_map _ (show a < ps.length by omega), py_map _ (show a < ps.length by omega), px_map _ (show b < ps.length by omega), py_map _ (show b < ps.length by omega)]
  simp only [tuF, Int.neg_mul_neg]
  omega
/-- A turn of a shift (1, 2). -/
def oneTwo : Nat → Int × Int
  | 0 => (1, 2)
  | k + 1 => tuF (oneTwo k)
theorem oneTwo_in : ∀ k, (-2 ≤ (oneTwo k).1 ∧ (oneTwo k).1 ≤ 2) ∧ (-2 ≤ (oneTwo k).2 ∧ (oneTwo k).2 ≤ 2)
  | 0 => by decide
  | k + 1 => by have := oneTwo_in k; show (-2 ≤ -(oneTwo k).2 ∧ -(oneTwo k).2 ≤ 2) ∧ (-2 ≤ (oneTwo k).1 ∧ (oneTwo k).1 ≤ 2); omega
theorem tu_sh (ps : List (Int × Int)) : ∀ K, tuN (ps.map (shF 1 2)) K = (tuN ps K).map (shF (oneTwo K).1 (oneTwo K).2)
  | 0 => rfl
  | K + 1 => by
    show (tuN (ps.map (shF 1 2)) K).map tuF = ((tuN ps K).map tuF).map (shF (tuF (oneTwo K)).1 (tuF (oneTwo K)).2)
    rw [tu_sh ps K, List.map_map, List.map_map]
    congr 1
    funext p
    simp only [Function.comp, shF, tuF]
    rw [Int.neg_add]
theorem tu_shift {ps : List (Int × Int)} {K : Nat} (hK : K ≤ 3) (h : avB ps = true) (hs : asOk ps 1 2 = true) :
    atOk (ps.map (shF 1 2)) (K : Int) = true ∧ asOk (tuN ps K) (oneTwo K).1 (oneTwo K).2 = true ∧ atV (ps.map (shF 1 2)) (K : Int) = asV (tuN ps K) (oneTwo K).1 (oneTwo K).2 := by
  have hav := (as_true.1 hs).2.2.2
  have h1 : atOk (ps.map (shF 1 2)) (K : Int) = true := at_true.2 ⟨hav, by omega⟩
  have hi := oneTwo_in K
  have h2 : asOk (tuN ps K) (oneTwo K).1 (oneTwo K).2 = true := as_true.2 ⟨av_tuN h K, by omega, by omega, by rw [← tu_sh]; exact av_tuN hav K⟩
  refine ⟨h1, h2, ?_⟩
  rw [at_yes h1, as_yes h2, Int.toNat_natCast, tu_sh]

end Go.Proofs.Ytkmnjekpogbkkaa
