/-
  Contracts: spec.Correlate; impl.CorrelateBest and spec.CorrelateBest look for the least lag at which a correlation is greatest.
-/
import Derived.Test.YtiehommofdjgcaaCorr
namespace Go.Proofs.Ytiehommofdjgcaa
open Go.RowKit
set_option linter.unusedVariables false

set_option maxHeartbeats 1000000 in
theorem sCorr_any (A B : Option Addr) (n m c d : Nat) (a b : List Int) (lag : Int) (w : World) (ha : Ints w A n a) (hb : Ints w B m b) (hn : n ≤ 1048577) (hm : m ≤ 1048577) :
    Calls Try.prog 14 #[.slice A n c, .slice B m d, .int .i64 lag] w fun e w' => e = .returned (.tuple #[.int .i64 (coV a b lag), .bool (coOk a b lag)]) ∧ Below w.heap.size w w' := by
  have HA := Lib.hid ha.len
  have HB := Lib.hid hb.len
  cases hva : svB a
  · have H : Hid (coOk a b lag = false) := by unfold coOk; rw [hva]; rfl
    go_enter Try.func14, Try.ntmps14
    go_wp2_with fail
    refine (sValid_any _ _ _ a _ ha hn).mono ?_
    rintro e w' ⟨rfl, rfl⟩
    go_wp2
    go_ret2
    exact ⟨by rw [coV_no H.out, H.out]; rfl, Below.refl _ _⟩
  cases hvb : svB b
  · have H : Hid (coOk a b lag = false) := by unfold coOk; rw [hva, hvb]; rfl
    go_enter Try.func14, Try.ntmps14
    go_wp2_with fail
    refine (sValid_any _ _ _ a _ ha hn).mono ?_
    rintro e w' ⟨rfl, rfl⟩
    go_wp2_with fail
    refine (sValid_any _ _ _ b _ hb hm).mono ?_
    rintro e w' ⟨rfl, rfl⟩
    go_wp2
    go_ret2
    exact ⟨by rw [coV_no H.out, H.out]; rfl, Below.refl _ _⟩
  by_cases hnm : n = m
  · subst hnm
    cases hl : betB lag (-1000) 1000
    · have H : Hid (coOk a b lag = false) := co_no_lag hl
      go_enter Try.func14, Try.ntmps14
      go_wp2_with fail
      refine (sValid_any _ _ _ a _ ha hn).mono ?_
      rintro e w' ⟨rfl, rfl⟩
      go_wp2_with fail
      refine (sValid_any _ _ _ b _ hb hm).mono ?_
      rintro e w' ⟨rfl, rfl⟩
      go_wp2_with fail
      refine (l6In_any _ _ _ _).mono ?_
      rintro e w' ⟨rfl, rfl⟩
      go_wp2
      go_ret2
      exact ⟨by rw [coV_no H.out, H.out]; rfl, Below.refl _ _⟩
    · obtain ⟨hl1, hl2⟩ := betB_true.1 hl
      have HSA : Hid (svB a = true) := hva
      have HSB : Hid (svB b = true) := hvb
      have H : Hid (coOk a b lag = true) := co_mk HSA.out HSB.out (by rw [HA.out, HB.out]) hl1 hl2
      go_enter Try.func14, Try.ntmps14
      go_wp2_with fail
      refine (sValid_any _ _ _ a _ ha hn).mono ?_
      rintro e w' ⟨rfl, rfl⟩
      go_wp2_with fail
      refine (sValid_any _ _ _ b _ hb hm).mono ?_
      rintro e w' ⟨rfl, rfl⟩
      go_wp2_with fail
      refine (l6In_any _ _ _ _).mono ?_
      rintro e w' ⟨rfl, rfl⟩
      go_wp2_with fail
      refine (l5Sum_any _ _ _ _ _ a b _ _ ha hb HSA.out HSB.out hl1 hl2).mono ?_
      rintro e w1 ⟨rfl, hb1⟩
      go_wp2
      go_ret2
      exact ⟨by rw [coV_yes H.out, H.out]; rfl, hb1⟩
  · have H : Hid (coOk a b lag = false) := by
      unfold coOk; rw [hva, hvb, show decide (a.length = b.length) = false by rw [HA.out, HB.out]; simpa using hnm]; rfl
    have h1 : ((n : Int) != (m : Int)) = true := by simp; omega
    have h2 : (n != m) = true := by simp; omega
    go_enter Try.func14, Try.ntmps14
    go_wp2_with fail
    refine (sValid_any _ _ _ a _ ha hn).mono ?_
    rintro e w' ⟨rfl, rfl⟩
    go_wp2_with fail
    refine (sValid_any _ _ _ b _ hb hm).mono ?_
    rintro e w' ⟨rfl, rfl⟩
    go_wp2
    go_ret2
    exact ⟨by rw [coV_no H.out, H.out]; rfl, Below.refl _ _⟩

/-- The best of the lags below k (of the lag 0, if k is 0), and the correlation there. -/
def bst (a b : List Int) : Nat → Nat × Int
  | 0 => (0, corr a b 0)
  | k + 1 => if (bst a b k).2 < corr a b (k : Int) then (k, corr a b (k : Int)) else bst a b k
def cbV (a b : List Int) : Int := if coOk a b 0 then ((bst a b a.length).1 : Int) else 0
theorem cbV_no {a b : List Int} (h : coOk a b 0 = false) : cbV a b = 0 := by simp [cbV, h]
theorem cbV_yes {a b : List Int} (h : coOk a b 0 = true) : cbV a b = ((bst a b a.length).1 : Int) := by simp [cbV, h]
theorem bst_up {a b : List Int} {k : Nat} (h : (bst a b k).2 < corr a b (k : Int)) : bst a b (k + 1) = (k, corr a b (k : Int)) := by rw [bst, if_pos h]
theorem bst_stay {a b : List Int} {k : Nat} (h : ¬ (bst a b k).2 < corr a b (k : Int)) : bst a b (k + 1) = bst a b k := by rw [bst, if_neg h]
theorem bst_one (a b : List Int) : bst a b 1 = (0, corr a b 0) := by
  rw [bst_stay]
  · rfl
  · simp [bst]

set_option maxHeartbeats 1000000 in
theorem iBest_any (A B : Option Addr) (n m c d : Nat) (a b : List Int) (w : World) (ha : Ints w A n a) (hb : Ints w B m b) (hn : n ≤ 1048577) (hm : m ≤ 1048577) :
    Calls Try.prog 19 #[.slice A n c, .slice B m d] w fun e w' => e = .returned (.tuple #[.int .i64 (cbV a b), .bool (coOk a b 0)]) ∧ w = w' := by
  have HA := Lib.hid ha.len
  have HB := Lib.hid hb.len
  cases hok : coOk a b 0
  · have H : Hid (coOk a b 0 = false) := hok
    go_enter Try.func19, Try.ntmps19
    go_wp2_with fail
    refine (iCorr_any _ _ _ _ _ _ a b _ _ ha hb hn hm).mono ?_
    rintro e w' ⟨rfl, rfl⟩
    go_wp2
    go_ret2
    exact ⟨by rw [cbV_no H.out]; rfl, rfl⟩
  · have H : Hid (coOk a b 0 = true) := hok
    obtain ⟨hsa, hsb, hll, _, _⟩ := co_ok H.out
    have hlen : 1 ≤ n ∧ n ≤ 32 := by have := sv_len hsa; rw [HA.out] at this; exact this
    obtain ⟨hn1, hn2⟩ := hlen
    have HK : Hid (∀ k : Nat, k < n → coOk a b (k : Int) = true) := fun k hk => co_mk hsa hsb hll (by omega) (by omega)
    clear hsa hsb hll
    go_enter Try.func19, Try.ntmps19
    go_wp2_with fail
    refine (iCorr_any _ _ _ _ _ _ a b _ _ ha hb hn hm).mono ?_
    rintro e w' ⟨he, rfl⟩
    rw [coV_yes H.out, H.out] at he
    subst he
    clear hok
    go_wp2
    go_loop [6, 8, 22] (fun x y i => ∃ k : Nat, k ≤ n ∧ i = .int .i64 k ∧ y = .int .i64 ((bst a b k).1 : Int) ∧ x = .int .i64 (bst a b k).2) (fun _ _ i => n - (intOf i).toNat)
    case atStart => exact ⟨0, Nat.zero_le _, rfl, rfl, rfl⟩
    case round =>
      obtain ⟨k, hk, rfl, rfl, rfl⟩ := hrel
      by_cases hlt : k < n
      · by_cases hg : (bst a b k).2 < corr a b (k : Int)
        · have HT := Lib.hid (bst_up hg)
          go_wp2_with fail
          refine (iCorr_any _ _ _ _ _ _ a b _ _ ha hb hn hm).mono ?_
          rintro e w' ⟨he, rfl⟩
          rw [coV_yes (HK.out k hlt), HK.out k hlt] at he
          subst he
          go_wp2
          go_round
          case rel => exact ⟨k + 1, by omega, by go_num, by rw [HT.out], by rw [HT.out]⟩
          case measure => simp [intOf]; omega
        · have HT := Lib.hid (bst_stay hg)
          have hg' : corr a b (k : Int) ≤ (bst a b k).2 := by omega
          clear hg
          go_wp2_with fail
          refine (iCorr_any _ _ _ _ _ _ a b _ _ ha hb hn hm).mono ?_
          rintro e w' ⟨he, rfl⟩
          rw [coV_yes (HK.out k hlt), HK.out k hlt] at he
          subst he
          go_wp2
          go_round
          case rel => exact ⟨k + 1, by omega, by go_num, by rw [HT.out], by rw [HT.out]⟩
          case measure => simp [intOf]; omega
      · obtain rfl : k = n := by omega
        go_wp2
        go_ret2
        exact ⟨by rw [cbV_yes H.out, HA.out]; rfl, rfl⟩

set_option maxHeartbeats 1000000 in
theorem sBest_any (A B : Option Addr) (n m c d : Nat) (a b : List Int) (w : World) (ha : Ints w A n a) (hb : Ints w B m b) (hn : n ≤ 1048577) (hm : m ≤ 1048577) :
    Calls Try.prog 18 #[.slice A n c, .slice B m d] w fun e w' => e = .returned (.tuple #[.int .i64 (cbV a b), .bool (coOk a b 0)]) ∧ Below w.heap.size w w' := by
  have HA := Lib.hid ha.len
  have HB := Lib.hid hb.len
  cases hok : coOk a b 0
  · have H : Hid (coOk a b 0 = false) := hok
    go_enter Try.func18, Try.ntmps18
    go_wp2_with fail
    refine (sCorr_any _ _ _ _ _ _ a b _ _ ha hb hn hm).mono ?_
    rintro e w1 ⟨rfl, hb1⟩
    go_wp2
    go_ret2
    exact ⟨by rw [cbV_no H.out]; rfl, hb1⟩
  · have H : Hid (coOk a b 0 = true) := hok
    obtain ⟨hsa, hsb, hll, _, _⟩ := co_ok H.out
    have hlen : 1 ≤ n ∧ n ≤ 32 := by have := sv_len hsa; rw [HA.out] at this; exact this
    obtain ⟨hn1, hn2⟩ := hlen
    obtain rfl : m = n := by rw [HA.out, HB.out] at hll; omega
    have HSA := Lib.hid hsa
    have HSB := Lib.hid hsb
    clear hsa hsb hll
    go_enter Try.func18, Try.ntmps18
    go_wp2_with fail
    refine (sCorr_any _ _ _ _ _ _ a b _ _ ha hb hn hm).mono ?_
    rintro e w1 ⟨he, hb1⟩
    rw [coV_yes H.out, H.out] at he
    subst he
    clear hok
    go_wp2
    go_loopw [6, 8, 9] (fun x y i wr => ∃ k : Nat, 1 ≤ k ∧ k ≤ m ∧ i = .int .i64 k ∧ y = .int .i64 ((bst a b k).1 : Int) ∧ x = .int .i64 (bst a b k).2 ∧ Below w.heap.size w wr) (fun _ _ i _ => m - (intOf i).toNat)
    case atStart => exact ⟨1, Nat.le_refl _, by omega, rfl, by rw [bst_one]; rfl, by rw [bst_one], hb1⟩
    case round =>
      obtain ⟨k, hk0, hk, rfl, rfl, rfl, hbl⟩ := hrel
      by_cases hlt : k < m
      · by_cases hg : (bst a b k).2 < corr a b (k : Int)
        · have HT := Lib.hid (bst_up hg)
          go_wp2_with fail
          refine (l5Sum_any _ _ _ _ _ a b _ _ (ha.below hbl) (hb.below hbl) HSA.out HSB.out (by omega) (by omega)).mono ?_
          rintro e w2 ⟨rfl, hb2⟩
          have hB2 := below_step hbl hb2
          go_wp2_with fail
          refine (l5Sum_any _ _ _ _ _ a b _ _ (ha.below hB2) (hb.below hB2) HSA.out HSB.out (by omega) (by omega)).mono ?_
          rintro e w3 ⟨rfl, hb3⟩
          have hB3 := below_step hB2 hb3
          go_wp2
          go_roundw
          case rel => exact ⟨k + 1, by omega, by omega, by go_num, by rw [HT.out], by rw [HT.out], hB3⟩
          case measure => simp [intOf]; omega
        · have HT := Lib.hid (bst_stay hg)
          have hg' : corr a b (k : Int) ≤ (bst a b k).2 := by omega
          clear hg
          go_wp2_with fail
          refine (l5Sum_any _ _ _ _ _ a b _ _ (ha.below hbl) (hb.below hbl) HSA.out HSB.out (by omega) (by omega)).mono ?_
          rintro e w2 ⟨rfl, hb2⟩
          have hB2 := below_step hbl hb2
          go_wp2
          go_roundw
          case rel => exact ⟨k + 1, by omega, by omega, by go_num, by rw [HT.out], by rw [HT.out], hB2⟩
          case measure => simp [intOf]; omega
      · obtain rfl : k = m := by omega
        go_wp2
        go_ret2
        exact ⟨by rw [cbV_yes H.out, HA.out]; rfl, hbl⟩

end Go.Proofs.Ytiehommofdjgcaa
