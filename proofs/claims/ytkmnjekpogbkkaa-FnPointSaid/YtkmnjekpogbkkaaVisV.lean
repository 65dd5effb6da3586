/-
  Contracts: impl.visInRange, VisValid and GainsValid of the program and of the reference say whether pairs are visibilities or gains.
-/
import Derived.Test.YtkmnjekpogbkkaaMany
import Derived.Test.YtkmnjekpogbkkaaPairs
namespace Go.Proofs.Ytkmnjekpogbkkaa
open Go.RowKit
set_option linter.unusedVariables false

/-- An amplitude from 1 to lim, and a phase. -/
def vin (lim x y : Int) : Bool := betB x 1 lim && betB y 0 359
def vAll (ps : List (Int × Int)) (lim : Int) : Bool := ps.all fun p => vin lim p.1 p.2
theorem vAll_true {ps : List (Int × Int)} {lim : Int} (h : ∀ j, j < ps.length → vin lim (px ps j) (py ps j) = true) : vAll ps lim = true := by
  simp only [vAll, List.all_eq_true]
  intro x hx
  obtain ⟨j, hj, rfl⟩ := List.mem_iff_getElem.1 hx
  rw [← px_lt hj, ← py_lt hj]; exact h j hj
theorem vAll_at {ps : List (Int × Int)} {lim : Int} (h : vAll ps lim = true) {j : Nat} (hj : j < ps.length) : vin lim (px ps j) (py ps j) = true := by
  simp only [vAll, List.all_eq_true] at h
  rw [px_lt hj, py_lt hj]; exact h _ (List.getElem_mem hj)
theorem vAll_false {ps : List (Int × Int)} {lim : Int} {j : Nat} (hj : j < ps.length) (h : vin lim (px ps j) (py ps j) = false) : vAll ps lim = false := by
  cases e : vAll ps lim
  · rfl
  · rw [vAll_at e hj] at h; cases h
theorem vin_ways (lim x y : Int) : (x < 1 ∧ Hid (vin lim x y = false)) ∨ (1 ≤ x ∧ lim < x ∧ Hid (vin lim x y = false)) ∨ (1 ≤ x ∧ x ≤ lim ∧ betB y 0 359 = false ∧ Hid (vin lim x y = false)) ∨ (1 ≤ x ∧ x ≤ lim ∧ betB y 0 359 = true ∧ Hid (vin lim x y = true)) := by
  by_cases a : x < 1
  · exact .inl ⟨a, by simp [vin, betB_false.2 (show ¬ (1 ≤ x ∧ x ≤ lim) by omega), Hid]⟩
  by_cases b : lim < x
  · exact .inr (.inl ⟨by omega, b, by simp [vin, betB_false.2 (show ¬ (1 ≤ x ∧ x ≤ lim) by omega), Hid]⟩)
  have hx : betB x 1 lim = true := betB_true.2 ⟨by omega, by omega⟩
  cases c : betB y 0 359
  · exact .inr (.inr (.inl ⟨by omega, by omega, rfl, by simp [vin, c, Hid]⟩))
  · exact .inr (.inr (.inr ⟨by omega, by omega, rfl, by simp [vin, c, hx, Hid]⟩))

set_option maxHeartbeats 1000000 in
theorem visInRange_any (A : Option Addr) (n c : Nat) (ps : List (Int × Int)) (lim : Int) (w : World) (hz : Prs w A n ps) (hn : n ≤ 1048577) :
    Calls Try.prog 47 #[.slice A n c, .int .i64 lim] w fun e w' => e = .returned (.bool (vAll ps lim)) ∧ Below w.heap.size w w' := by
  have HL := Lib.hid hz.len
  go_enter Try.func47, Try.ntmps47
  go_wp2
  go_loopw [9] (fun i wr => ∃ k : Nat, k ≤ n ∧ i = .int .i64 k ∧ (∀ j, j < k → vin lim (px ps j) (py ps j) = true) ∧ Below w.heap.size w wr) (fun i _ => n - (intOf i).toNat)
  case atStart => exact ⟨0, Nat.zero_le _, rfl, fun j hj => absurd hj (by omega), Below.refl _ _⟩
  case round =>
    obtain ⟨k, hk, rfl, ha, hbl⟩ := hrel
    have HA := Lib.hid ha
    clear ha
    by_cases hlt : k < n
    · obtain ⟨b, off, rfl, hb, hc⟩ := (hz.below hbl).at_ (by omega)
      obtain ⟨hc1, hc2⟩ := hc k hlt
      have hbl1 := hbl.alloc hbl.size (.cells #[.int .i64 (px ps k), .int .i64 (py ps k)] 35)
      clear hc
      rcases vin_ways lim (px ps k) (py ps k) with ⟨h1, H⟩ | ⟨h1, h2, H⟩ | ⟨h1, h2, h3, H⟩ | ⟨h1, h2, h3, H⟩
      · go_wp2
        go_ret
        exact ⟨ret_bool (vAll_false (by rw [HL.out]; exact hlt) H.out).symm, hbl1⟩
      · go_wp2
        go_ret
        exact ⟨ret_bool (vAll_false (by rw [HL.out]; exact hlt) H.out).symm, hbl1⟩
      · go_wp2_with (go_at_call 60; refine (isPhase_any _ _).mono ?_; rintro e w' ⟨rfl, rfl⟩)
        go_ret
        exact ⟨ret_bool (vAll_false (by rw [HL.out]; exact hlt) H.out).symm, hbl1⟩
      · go_wp2_with (go_at_call 60; refine (isPhase_any _ _).mono ?_; rintro e w' ⟨rfl, rfl⟩)
        go_roundw
        case rel =>
          refine ⟨k + 1, by omega, by go_num, fun j hj => ?_, hbl1⟩
          rcases Nat.lt_or_ge j k with h | h
          · exact HA.out j h
          · obtain rfl : j = k := by omega
            exact H.out
        case measure => simp [intOf]; omega
    · go_wp2
      go_ret
      exact ⟨ret_bool (vAll_true fun j hj => HA.out j (by rw [HL.out] at hj; omega)).symm, hbl⟩

end Go.Proofs.Ytkmnjekpogbkkaa
