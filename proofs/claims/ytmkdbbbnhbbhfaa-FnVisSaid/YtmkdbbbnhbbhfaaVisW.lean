/-
  Contracts: VisValid and GainsValid of the program and of the reference.
-/
import Derived.Test.YtmkdbbbnhbbhfaaVisV
namespace Go.Proofs.Ytmkdbbbnhbbhfaa
open Go.RowKit
set_option linter.unusedVariables false

def vvB (n : Int) (ps : List (Int × Int)) : Bool := betB n 2 7 && (decide ((ps.length : Int) = bm n) && vAll ps 1000000)
def gvB (n : Int) (ps : List (Int × Int)) : Bool := betB n 2 7 && (decide ((ps.length : Int) = n) && vAll ps 99)
theorem gv_many {n : Int} {ps : List (Int × Int)} (h : betB n 2 7 = false) : gvB n ps = false := by simp [gvB, h]
theorem gv_len {n : Int} {ps : List (Int × Int)} (h : (ps.length : Int) ≠ n) : gvB n ps = false := by simp [gvB, h]
theorem gv_in {n : Int} {ps : List (Int × Int)} (h : betB n 2 7 = true) (h' : (ps.length : Int) = n) : gvB n ps = vAll ps 99 := by simp [gvB, h, h']
theorem vv_many {n : Int} {ps : List (Int × Int)} (h : betB n 2 7 = false) : vvB n ps = false := by simp [vvB, h]
theorem vv_len {n : Int} {ps : List (Int × Int)} (h : (ps.length : Int) ≠ bm n) : vvB n ps = false := by simp [vvB, h]
theorem vv_in {n : Int} {ps : List (Int × Int)} (h : betB n 2 7 = true) (h' : (ps.length : Int) = bm n) : vvB n ps = vAll ps 1000000 := by simp [vvB, h, h']

set_option maxHeartbeats 1000000 in
theorem iGainsV_any (n : Int) (A : Option Addr) (m c : Nat) (ps : List (Int × Int)) (w : World) (hz : Prs w A m ps) (hm : m ≤ 1048577) :
    Calls Try.prog 13 #[.int .i64 n, .slice A m c] w fun e w' => e = .returned (.bool (gvB n ps)) ∧ Below w.heap.size w w' := by
  have HL := Lib.hid hz.len
  cases hB : betB n 2 7
  · have H := Lib.hid (gv_many (ps := ps) hB)
    go_enter Try.func13, Try.ntmps13
    go_wp2_with (go_at_call 35; refine (isMany_any _ _).mono ?_; rintro e w' ⟨rfl, rfl⟩)
    go_ret
    exact ⟨ret_bool H.out.symm, Below.refl _ _⟩
  · by_cases hl : (m : Int) = n
    · have H := Lib.hid (gv_in (ps := ps) hB (by rw [HL.out]; exact hl))
      have hE : ((m : Int) == n) = true := by simp [hl]
      have HBB := Lib.hid hB
      clear hl hB
      go_enter Try.func13, Try.ntmps13
      go_wp2_with fail
      refine (isMany_any _ _).mono ?_
      rintro e w' ⟨he, rfl⟩
      rw [HBB.out] at he
      subst he
      go_wp2_with fail
      refine (visInRange_any _ _ _ ps _ _ hz hm).mono ?_
      rintro e w1 ⟨rfl, hb1⟩
      go_wp2
      go_ret
      exact ⟨ret_bool (by rw [H.out]), hb1⟩
    · have H := Lib.hid (gv_len (n := n) (ps := ps) (by rw [HL.out]; exact hl))
      have hE : ((m : Int) == n) = false := by simp [hl]
      have HBB := Lib.hid hB
      clear hl hB
      go_enter Try.func13, Try.ntmps13
      go_wp2_with fail
      refine (isMany_any _ _).mono ?_
      rintro e w' ⟨he, rfl⟩
      rw [HBB.out] at he
      subst he
      go_wp2
      go_ret
      exact ⟨ret_bool H.out.symm, Below.refl _ _⟩

set_option maxHeartbeats 1000000 in
theorem iVisV_any (n : Int) (A : Option Addr) (m c : Nat) (ps : List (Int × Int)) (w : World) (hz : Prs w A m ps) (hm : m ≤ 1048577) :
    Calls Try.prog 16 #[.int .i64 n, .slice A m c] w fun e w' => e = .returned (.bool (vvB n ps)) ∧ Below w.heap.size w w' := by
  have HL := Lib.hid hz.len
  cases hB : betB n 2 7
  · have H := Lib.hid (vv_many (ps := ps) hB)
    go_enter Try.func16, Try.ntmps16
    go_wp2_with (go_at_call 35; refine (isMany_any _ _).mono ?_; rintro e w' ⟨rfl, rfl⟩)
    go_ret
    exact ⟨ret_bool H.out.symm, Below.refl _ _⟩
  · by_cases hl : (m : Int) = bm n
    · have H := Lib.hid (vv_in (ps := ps) hB (by rw [HL.out]; exact hl))
      have hE : ((m : Int) == bm n) = true := by simp [hl]
      have HBB := Lib.hid hB
      clear hl hB
      go_enter Try.func16, Try.ntmps16
      go_wp2_with fail
      refine (isMany_any _ _).mono ?_
      rintro e w' ⟨he, rfl⟩
      rw [HBB.out] at he
      subst he
      go_wp2_with fail
      refine (iBaseMany_any _ _).mono ?_
      rintro e w' ⟨rfl, rfl⟩
      go_wp2_with fail
      refine (visInRange_any _ _ _ ps _ _ hz hm).mono ?_
      rintro e w1 ⟨rfl, hb1⟩
      go_wp2
      go_ret
      exact ⟨ret_bool (by rw [H.out]), hb1⟩
    · have H := Lib.hid (vv_len (n := n) (ps := ps) (by rw [HL.out]; exact hl))
      have hE : ((m : Int) == bm n) = false := by simp [hl]
      have HBB := Lib.hid hB
      clear hl hB
      go_enter Try.func16, Try.ntmps16
      go_wp2_with fail
      refine (isMany_any _ _).mono ?_
      rintro e w' ⟨he, rfl⟩
      rw [HBB.out] at he
      subst he
      go_wp2_with fail
      refine (iBaseMany_any _ _).mono ?_
      rintro e w' ⟨rfl, rfl⟩
      go_wp2
      go_ret
      exact ⟨ret_bool H.out.symm, Below.refl _ _⟩

set_option maxHeartbeats 2000000 in
theorem sGainsV_any (n : Int) (A : Option Addr) (m c : Nat) (ps : List (Int × Int)) (w : World) (hz : Prs w A m ps) (hm : m ≤ 1048577) :
    Calls Try.prog 11 #[.int .i64 n, .slice A m c] w fun e w' => e = .returned (.bool (gvB n ps)) ∧ w = w' := by
  have HL := Lib.hid hz.len
  cases hB : betB n 2 7
  · have H := Lib.hid (gv_many (ps := ps) hB)
    have h0 : (bm n == 0) = true := by rw [bm_no hB]; rfl
    clear hB
    go_enter Try.func11, Try.ntmps11
    go_wp2_with (go_at_call 31; refine (sBaseMany_any _ _).mono ?_; rintro e w' ⟨rfl, rfl⟩)
    go_ret
    exact ⟨ret_bool H.out.symm, rfl⟩
  · have h0 : (bm n == 0) = false := by
      rcases bm_cases hB with ⟨_, h⟩ | ⟨_, h⟩ | ⟨_, h⟩ | ⟨_, h⟩ | ⟨_, h⟩ | ⟨_, h⟩ <;> rw [h] <;> rfl
    by_cases hl : (m : Int) = n
    · have H := Lib.hid (gv_in (ps := ps) hB (by rw [HL.out]; exact hl))
      subst hl
      clear hB
      go_enter Try.func11, Try.ntmps11
      go_wp2_with fail
      refine (sBaseMany_any _ _).mono ?_
      rintro e w' ⟨rfl, rfl⟩
      go_wp2
      go_loop [5] (fun i => ∃ k : Nat, k ≤ m ∧ i = .int .i64 k ∧ ∀ j, j < k → vin 99 (px ps j) (py ps j) = true) (fun i => m - (intOf i).toNat)
      case atStart => exact ⟨0, Nat.zero_le _, rfl, fun j hj => absurd hj (by omega)⟩
      case round =>
        obtain ⟨k, hk, rfl, ha⟩ := hrel
        have HA := Lib.hid ha
        clear ha
        by_cases hlt : k < m
        · obtain ⟨b, off, rfl, hb, hc⟩ := hz.at_ (by omega)
          obtain ⟨hc1, hc2⟩ := hc k hlt
          clear hc
          cases hx : betB (px ps k) 1 99
          · have HV : Hid (vin 99 (px ps k) (py ps k) = false) := by unfold vin; rw [hx]; rfl
            go_wp2_with (first | (go_at_call 32; refine (l6In_any _ _ _ _).mono ?_; rintro e w' ⟨rfl, rfl⟩))
            go_ret
            exact ⟨ret_bool (by rw [H.out]; exact (vAll_false (by rw [HL.out]; exact hlt) HV.out).symm), rfl⟩
          · cases hy : betB (py ps k) 0 359
            · have HV : Hid (vin 99 (px ps k) (py ps k) = false) := by unfold vin; rw [hx, hy]; rfl
              go_wp2_with (first | (go_at_call 32; refine (l6In_any _ _ _ _).mono ?_; rintro e w' ⟨rfl, rfl⟩) | (go_at_call 33; refine (l2Phase_any _ _).mono ?_; rintro e w' ⟨rfl, rfl⟩))
              go_ret
              exact ⟨ret_bool (by rw [H.out]; exact (vAll_false (by rw [HL.out]; exact hlt) HV.out).symm), rfl⟩
            · have HV : Hid (vin 99 (px ps k) (py ps k) = true) := by unfold vin; rw [hx, hy]; rfl
              go_wp2_with (first | (go_at_call 32; refine (l6In_any _ _ _ _).mono ?_; rintro e w' ⟨rfl, rfl⟩) | (go_at_call 33; refine (l2Phase_any _ _).mono ?_; rintro e w' ⟨rfl, rfl⟩))
              go_round
              case rel =>
                refine ⟨k + 1, by omega, by go_num, fun j hj => ?_⟩
                rcases Nat.lt_or_ge j k with h | h
                · exact HA.out j h
                · obtain rfl : j = k := by omega
                  exact HV.out
              case measure => simp [intOf]; omega
        · go_wp2
          go_ret
          exact ⟨ret_bool (by rw [H.out]; exact (vAll_true fun j hj => HA.out j (by rw [HL.out] at hj; omega)).symm), rfl⟩
    · have H := Lib.hid (gv_len (n := n) (ps := ps) (by rw [HL.out]; exact hl))
      have hE : ((m : Int) != n) = true := by simp [hl]
      clear hl hB
      go_enter Try.func11, Try.ntmps11
      go_wp2_with (go_at_call 31; refine (sBaseMany_any _ _).mono ?_; rintro e w' ⟨rfl, rfl⟩)
      go_ret
      exact ⟨ret_bool H.out.symm, rfl⟩

set_option maxHeartbeats 2000000 in
theorem sVisV_any (n : Int) (A : Option Addr) (m c : Nat) (ps : List (Int × Int)) (w : World) (hz : Prs w A m ps) (hm : m ≤ 1048577) :
    Calls Try.prog 15 #[.int .i64 n, .slice A m c] w fun e w' => e = .returned (.bool (vvB n ps)) ∧ w = w' := by
  have HL := Lib.hid hz.len
  cases hB : betB n 2 7
  · have H := Lib.hid (vv_many (ps := ps) hB)
    have h0 : (bm n == 0) = true := by rw [bm_no hB]; rfl
    clear hB
    go_enter Try.func15, Try.ntmps15
    go_wp2_with (go_at_call 31; refine (sBaseMany_any _ _).mono ?_; rintro e w' ⟨rfl, rfl⟩)
    go_ret
    exact ⟨ret_bool H.out.symm, rfl⟩
  · have h0 : (bm n == 0) = false := by
      rcases bm_cases hB with ⟨_, h⟩ | ⟨_, h⟩ | ⟨_, h⟩ | ⟨_, h⟩ | ⟨_, h⟩ | ⟨_, h⟩ <;> rw [h] <;> rfl
    by_cases hl : (m : Int) = bm n
    · have H := Lib.hid (vv_in (ps := ps) hB (by rw [HL.out]; exact hl))
      have hE : ((m : Int) != bm n) = false := by simp [hl]
      clear hB hl
      go_enter Try.func15, Try.ntmps15
      go_wp2_with fail
      refine (sBaseMany_any _ _).mono ?_
      rintro e w' ⟨rfl, rfl⟩
      go_wp2_with fail
      refine (sBaseMany_any _ _).mono ?_
      rintro e w' ⟨rfl, rfl⟩
      go_wp2
      go_loop [5] (fun i => ∃ k : Nat, k ≤ m ∧ i = .int .i64 k ∧ ∀ j, j < k → vin 1000000 (px ps j) (py ps j) = true) (fun i => m - (intOf i).toNat)
      case atStart => exact ⟨0, Nat.zero_le _, rfl, fun j hj => absurd hj (by omega)⟩
      case round =>
        obtain ⟨k, hk, rfl, ha⟩ := hrel
        have HA := Lib.hid ha
        clear ha
        by_cases hlt : k < m
        · obtain ⟨b, off, rfl, hb, hc⟩ := hz.at_ (by omega)
          obtain ⟨hc1, hc2⟩ := hc k hlt
          clear hc
          cases hx : betB (px ps k) 1 1000000
          · have HV : Hid (vin 1000000 (px ps k) (py ps k) = false) := by unfold vin; rw [hx]; rfl
            go_wp2_with (first | (go_at_call 32; refine (l6In_any _ _ _ _).mono ?_; rintro e w' ⟨rfl, rfl⟩))
            go_ret
            exact ⟨ret_bool (by rw [H.out]; exact (vAll_false (by rw [HL.out]; exact hlt) HV.out).symm), rfl⟩
          · cases hy : betB (py ps k) 0 359
            · have HV : Hid (vin 1000000 (px ps k) (py ps k) = false) := by unfold vin; rw [hx, hy]; rfl
              go_wp2_with (first | (go_at_call 32; refine (l6In_any _ _ _ _).mono ?_; rintro e w' ⟨rfl, rfl⟩) | (go_at_call 33; refine (l2Phase_any _ _).mono ?_; rintro e w' ⟨rfl, rfl⟩))
              go_ret
              exact ⟨ret_bool (by rw [H.out]; exact (vAll_false (by rw [HL.out]; exact hlt) HV.out).symm), rfl⟩
            · have HV : Hid (vin 1000000 (px ps k) (py ps k) = true) := by unfold vin; rw [hx, hy]; rfl
              go_wp2_with (first | (go_at_call 32; refine (l6In_any _ _ _ _).mono ?_; rintro e w' ⟨rfl, rfl⟩) | (go_at_call 33; refine (l2Phase_any _ _).mono ?_; rintro e w' ⟨rfl, rfl⟩))
              go_round
              case rel =>
                refine ⟨k + 1, by omega, by go_num, fun j hj => ?_⟩
                rcases Nat.lt_or_ge j k with h | h
                · exact HA.out j h
                · obtain rfl : j = k := by omega
                  exact HV.out
              case measure => simp [intOf]; omega
        · go_wp2
          go_ret
          exact ⟨ret_bool (by rw [H.out]; exact (vAll_true fun j hj => HA.out j (by rw [HL.out] at hj; omega)).symm), rfl⟩
    · have H := Lib.hid (vv_len (n := n) (ps := ps) (by rw [HL.out]; exact hl))
      have hE : ((m : Int) != bm n) = true := by simp [hl]
      clear hl hB
      go_enter Try.func15, Try.ntmps15
      go_wp2_with (go_at_call 31; refine (sBaseMany_any _ _).mono ?_; rintro e w' ⟨rfl, rfl⟩)
      go_ret
      exact ⟨ret_bool H.out.symm, rfl⟩

end Go.Proofs.Ytmkdbbbnhbbhfaa
