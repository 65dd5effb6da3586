/-
  Contracts: impl.allInRange, impl.SamplesValid and spec.SamplesValid say whether a list of integers are samples; they leave the world alone.
-/
import Derived.Test.YtiehommofdjgcaaRange
namespace Go.Proofs.Ytiehommofdjgcaa
open Go.RowKit
set_option linter.unusedVariables false

/-- All numbers lie between -lim and lim. -/
def allIn (zs : List Int) (lim : Int) : Bool := zs.all fun x => betB x (-lim) lim
theorem allIn_true {zs : List Int} {lim : Int} (h : ∀ j, j < zs.length → betB (el zs j) (-lim) lim = true) : allIn zs lim = true := by
  simp only [allIn, List.all_eq_true]
  intro x hx
  obtain ⟨j, hj, rfl⟩ := List.mem_iff_getElem.1 hx
  rw [← el_lt hj]; exact h j hj
theorem allIn_at {zs : List Int} {lim : Int} (h : allIn zs lim = true) {j : Nat} (hj : j < zs.length) : betB (el zs j) (-lim) lim = true := by
  simp only [allIn, List.all_eq_true] at h
  rw [el_lt hj]; exact h _ (List.getElem_mem hj)
theorem allIn_false {zs : List Int} {lim : Int} {j : Nat} (hj : j < zs.length) (h : betB (el zs j) (-lim) lim = false) : allIn zs lim = false := by
  cases e : allIn zs lim
  · rfl
  · rw [allIn_at e hj] at h; cases h

/-- Samples: 1 to 32 numbers between -1000 and 1000. -/
def svB (zs : List Int) : Bool := betB zs.length 1 32 && allIn zs 1000

set_option maxHeartbeats 400000 in
theorem allInRange_any (A : Option Addr) (n c : Nat) (zs : List Int) (lim : Int) (w : World) (hz : Ints w A n zs) (hn : n ≤ 1048577) (h0 : 0 ≤ lim) (h1 : lim ≤ 1000000000) :
    Calls Try.prog 35 #[.slice A n c, .int .i64 lim] w fun e w' => e = .returned (.bool (allIn zs lim)) ∧ w = w' := by
  have HL := Lib.hid hz.len
  go_enter Try.func35, Try.ntmps35
  go_wp2
  go_loop [9] (fun i => ∃ k : Nat, k ≤ n ∧ i = .int .i64 k ∧ ∀ j, j < k → betB (el zs j) (-lim) lim = true) (fun i => n - (intOf i).toNat)
  case atStart => exact ⟨0, Nat.zero_le _, rfl, fun j hj => absurd hj (by omega)⟩
  case round =>
    obtain ⟨k, hk, rfl, ha⟩ := hrel
    have HA := Lib.hid ha
    clear ha
    by_cases hlt : k < n
    · obtain ⟨b, off, rfl, hb, hc⟩ := hz.at_ (by omega)
      have hck := hc k hlt
      clear hc
      cases hB : betB (el zs k) (-lim) lim
      · have HB := Lib.hid hB
        go_wp2_with (go_at_call 27; refine (inRange_any _ _ _ h0 h1).mono ?_; rintro e w' ⟨rfl, rfl⟩)
        go_ret
        exact ⟨ret_bool (allIn_false (by rw [HL.out]; exact hlt) HB.out).symm, rfl⟩
      · have HB := Lib.hid hB
        go_wp2_with (go_at_call 27; refine (inRange_any _ _ _ h0 h1).mono ?_; rintro e w' ⟨rfl, rfl⟩)
        go_round
        case rel =>
          refine ⟨k + 1, by omega, by go_num, fun j hj => ?_⟩
          rcases Nat.lt_or_ge j k with h | h
          · exact HA.out j h
          · obtain rfl : j = k := by omega
            exact HB.out
        case measure => simp [intOf]; omega
    · go_wp2
      go_ret
      exact ⟨ret_bool (allIn_true fun j hj => HA.out j (by rw [HL.out] at hj; omega)).symm, rfl⟩

theorem svB_long {zs : List Int} (h : ¬ (1 ≤ (zs.length : Int) ∧ (zs.length : Int) ≤ 32)) : svB zs = false := by
  simp only [svB, betB_false.2 h, Bool.false_and]
theorem svB_in {zs : List Int} (h : 1 ≤ (zs.length : Int) ∧ (zs.length : Int) ≤ 32) : svB zs = allIn zs 1000 := by
  simp only [svB, betB_true.2 h, Bool.true_and]
theorem svB_of_not {zs : List Int} (h : allIn zs 1000 = false) : svB zs = false := by simp [svB, h]

set_option maxHeartbeats 400000 in
theorem iValid_any (A : Option Addr) (n c : Nat) (zs : List Int) (w : World) (hz : Ints w A n zs) (hn : n ≤ 1048577) :
    Calls Try.prog 26 #[.slice A n c] w fun e w' => e = .returned (.bool (svB zs)) ∧ w = w' := by
  have HL := Lib.hid hz.len
  by_cases h1 : 1 ≤ n
  · by_cases h2 : n ≤ 32
    · have H := Lib.hid (svB_in (zs := zs) (by rw [hz.len]; omega))
      go_enter Try.func26, Try.ntmps26
      go_wp2_with (go_at_call 35; refine (allInRange_any _ _ _ _ _ _ hz hn (by omega) (by omega)).mono ?_; rintro e w' ⟨rfl, rfl⟩)
      go_ret
      exact ⟨ret_bool (by rw [H.out]), rfl⟩
    · have H := Lib.hid (svB_long (zs := zs) (by rw [hz.len]; omega))
      have h2' : 32 < n := by omega
      clear h2
      go_enter Try.func26, Try.ntmps26
      go_wp2
      go_ret
      exact ⟨ret_bool (by rw [H.out]), rfl⟩
  · have H := Lib.hid (svB_long (zs := zs) (by rw [hz.len]; omega))
    obtain rfl : n = 0 := by omega
    go_enter Try.func26, Try.ntmps26
    go_wp2
    go_ret
    exact ⟨ret_bool (by rw [H.out]), rfl⟩

set_option maxHeartbeats 400000 in
theorem sValid_any (A : Option Addr) (n c : Nat) (zs : List Int) (w : World) (hz : Ints w A n zs) (hn : n ≤ 1048577) :
    Calls Try.prog 23 #[.slice A n c] w fun e w' => e = .returned (.bool (svB zs)) ∧ w = w' := by
  have HL := Lib.hid hz.len
  go_enter Try.func23, Try.ntmps23
  go_wp2
  go_loop [3] (fun i => ∃ k : Nat, k ≤ n ∧ i = .int .i64 k ∧ ∀ j, j < k → betB (el zs j) (-1000) 1000 = true) (fun i => n - (intOf i).toNat)
  case atStart => exact ⟨0, Nat.zero_le _, rfl, fun j hj => absurd hj (by omega)⟩
  case round =>
    obtain ⟨k, hk, rfl, ha⟩ := hrel
    have HA := Lib.hid ha
    clear ha
    by_cases hlt : k < n
    · obtain ⟨b, off, rfl, hb, hc⟩ := hz.at_ (by omega)
      have hck := hc k hlt
      clear hc
      cases hB : betB (el zs k) (-1000) 1000
      · have HB := Lib.hid hB
        go_wp2_with (go_at_call 24; refine (l6In_any _ _ _ _).mono ?_; rintro e w' ⟨rfl, rfl⟩)
        go_ret
        exact ⟨ret_bool (svB_of_not (allIn_false (by rw [HL.out]; exact hlt) HB.out)).symm, rfl⟩
      · have HB := Lib.hid hB
        go_wp2_with (go_at_call 24; refine (l6In_any _ _ _ _).mono ?_; rintro e w' ⟨rfl, rfl⟩)
        go_round
        case rel =>
          refine ⟨k + 1, by omega, by go_num, fun j hj => ?_⟩
          rcases Nat.lt_or_ge j k with h | h
          · exact HA.out j h
          · obtain rfl : j = k := by omega
            exact HB.out
        case measure => simp [intOf]; omega
    · have H : Hid (allIn zs 1000 = true) := allIn_true fun j hj => HA.out j (by rw [HL.out] at hj; omega)
      go_wp2_with (go_at_call 24; refine (l6In_any _ _ _ _).mono ?_; rintro e w' ⟨rfl, rfl⟩)
      go_ret
      exact ⟨ret_bool (by rw [svB, H.out, HL.out, Bool.and_true]), rfl⟩

end Go.Proofs.Ytiehommofdjgcaa
