/-
  The walks of laws.FnBest and FnBestShift.
-/
import Derived.Test.YtiehommofdjgcaaCorrF
import Derived.Test.YtiehommofdjgcaaCorrG
import Derived.Test.YtiehommofdjgcaaDrawC
import Derived.Test.YtiehommofdjgcaaToInts
import Derived.Deep.RegionLaw
namespace Go.Proofs.Ytiehommofdjgcaa
open Go.RowKit
set_option linter.unusedVariables false

set_option maxHeartbeats 4000000 in
theorem walkFnBest (w : World) (A : Option Addr) (n c : Nat) (bs : List Int) (hz : IntsK .u8 w A n bs) (hl : n ≤ maxLen ∧ n ≤ c) (hf : ∀ j, (Lit.int .u8 (el bs j)).wf = true) :
    Calls Try.prog 12 #[.slice A n c] w fun e w' => e = .returned (.bool true) ∧ Below w.heap.size w w' := by
  obtain ⟨hl, hcap⟩ := hl
  unfold maxLen at hl
  by_cases hb : n ≤ 1048576
  · have HF := Lib.hid (bytes_in hf)
    clear hf
    go_enter Try.func12, Try.ntmps12
    go_wp2_with fail
    refine (DrawCorrelateBest_any _ _ _ bs _ hz hb hcap HF.out).mono ?_
    rintro e w1 ⟨A1, n1, c1, a, B1, m1, d1, b, rfl, hOa, hOb, hn1, hm1, hb1⟩
    have HA := Lib.hid hOa.len
    have HB := Lib.hid hOb.len
    cases hok : coOk a b 0
    · go_wp2_with fail
      refine (iBest_any _ _ _ _ _ _ a b _ hOa.ints hOb.ints (by omega) (by omega)).mono ?_
      rintro e w' ⟨rfl, rfl⟩
      go_wp2_with fail
      refine (sBest_any _ _ _ _ _ _ a b _ hOa.ints hOb.ints (by omega) (by omega)).mono ?_
      rintro e w2 ⟨rfl, hb2⟩
      go_wp2
      go_ret
      exact ⟨ret_bool (by simp), below_step hb1 hb2⟩
    · obtain ⟨hsa, hsb, hll, _, _⟩ := co_ok hok
      have hlen : 1 ≤ n1 ∧ n1 ≤ 32 := by have := sv_len hsa; rw [HA.out] at this; exact this
      obtain ⟨hn1', hn2'⟩ := hlen
      obtain rfl : m1 = n1 := by rw [HA.out, HB.out] at hll; omega
      have HSA := Lib.hid hsa
      have HSB := Lib.hid hsb
      have HLL := Lib.hid hll
      have HOK := Lib.hid hok
      have h1a : 1 ≤ a.length := by rw [HA.out]; exact hn1'
      have H1 := Lib.hid h1a
      obtain ⟨L, hL⟩ : ∃ L : Nat, L = (bst a b a.length).1 := ⟨_, rfl⟩
      obtain ⟨hf1, hf2, hf3, hf4⟩ := bst_facts a b a.length h1a
      rw [← hL, HA.out] at hf2
      have HF1 : Hid ((bst a b a.length).2 = corr a b (L : Int)) := by rw [hL]; exact hf1
      have HF3 : Hid (∀ j, j < m1 → corr a b (j : Int) ≤ corr a b (L : Int)) := fun j hj => by rw [← HF1.out]; exact hf3 j (by rw [HA.out]; exact hj)
      have HF4 : Hid (∀ j, j < L → corr a b (j : Int) < corr a b (L : Int)) := fun j hj => by rw [← HF1.out]; exact hf4 j (by rw [← hL]; exact hj)
      have HV : Hid (cbV a b = (L : Int)) := by rw [cbV_yes hok, hL]; exact rfl
      clear hsa hsb hll hok h1a hf1 hf3 hf4 hL
      go_wp2_with fail
      refine (iBest_any _ _ _ _ _ _ a b _ hOa.ints hOb.ints (by omega) (by omega)).mono ?_
      rintro e w' ⟨he, rfl⟩
      rw [HV.out, HOK.out] at he
      subst he
      go_wp2_with fail
      refine (sBest_any _ _ _ _ _ _ a b _ hOa.ints hOb.ints (by omega) (by omega)).mono ?_
      rintro e w2 ⟨he, hb2⟩
      rw [HV.out, HOK.out] at he
      subst he
      have hB2 := below_step hb1 hb2
      have hOa2 := hOa.below hb2
      have hOb2 := hOb.below hb2
      have HK : Hid (∀ k : Nat, k < m1 → coOk a b (k : Int) = true) := fun k hk => co_mk HSA.out HSB.out HLL.out (by omega) (by omega)
      go_wp2_with fail
      refine (iCorr_any _ _ _ _ _ _ a b _ _ hOa2.ints hOb2.ints (by omega) (by omega)).mono ?_
      rintro e w' ⟨he, rfl⟩
      rw [coV_yes (HK.out L hf2), HK.out L hf2] at he
      subst he
      go_wp2
      go_loop [11] (fun i => ∃ k : Nat, k ≤ m1 ∧ i = .int .i64 k) (fun i => m1 - (intOf i).toNat)
      case atStart => exact ⟨0, Nat.zero_le _, rfl⟩
      case round =>
        obtain ⟨k, hk, rfl⟩ := hrel
        by_cases hlt : k < m1
        · have hle := HF3.out k hlt
          by_cases hkL : k < L
          · have hl4 := HF4.out k hkL
            have hne : (corr a b (k : Int) == corr a b (L : Int)) = false := by simp; omega
            go_wp2_with fail
            refine (iCorr_any _ _ _ _ _ _ a b _ _ hOa2.ints hOb2.ints (by omega) (by omega)).mono ?_
            rintro e w' ⟨he, rfl⟩
            rw [coV_yes (HK.out k hlt), HK.out k hlt] at he
            subst he
            go_wp2
            go_round
            case rel => exact ⟨k + 1, by omega, by go_num⟩
            case measure => simp [intOf]; omega
          · have hkL' : L ≤ k := by omega
            clear hkL
            go_wp2_with fail
            refine (iCorr_any _ _ _ _ _ _ a b _ _ hOa2.ints hOb2.ints (by omega) (by omega)).mono ?_
            rintro e w' ⟨he, rfl⟩
            rw [coV_yes (HK.out k hlt), HK.out k hlt] at he
            subst he
            go_wp2
            go_round
            case rel => exact ⟨k + 1, by omega, by go_num⟩
            case measure => simp [intOf]; omega
        · go_wp2
          go_ret
          exact ⟨ret_bool (by first | rfl | (simp; omega)), hB2⟩
  · have hb' : 1048576 < n := by omega
    clear hb
    go_enter Try.func12, Try.ntmps12
    go_wp2
    go_ret
    exact ⟨rfl, Below.refl _ _⟩

set_option maxHeartbeats 4000000 in
theorem walkFnBestShift (w : World) (A : Option Addr) (n c : Nat) (bs : List Int) (hz : IntsK .u8 w A n bs) (hl : n ≤ maxLen ∧ n ≤ c) (hf : ∀ j, (Lit.int .u8 (el bs j)).wf = true)
    (B : Option Addr) (m d : Nat) (ms : List Int) (hy : IntsK .u8 w B m ms) (hl' : m ≤ maxLen ∧ m ≤ d) (_ : ∀ j, (Lit.int .u8 (el ms j)).wf = true) :
    Calls Try.prog 13 #[.slice A n c, .slice B m d] w fun e w' => e = .returned (.bool true) ∧ Below w.heap.size w w' := by
  obtain ⟨hl, hcap⟩ := hl
  obtain ⟨hl', hcap'⟩ := hl'
  unfold maxLen at hl hl'
  by_cases hb : n ≤ 1048576
  · by_cases hbm : m ≤ 1048576
    · have HF := Lib.hid (bytes_in hf)
      clear hf
      go_enter Try.func13, Try.ntmps13
      go_wp2_with fail
      refine (DrawCorrelateBest_any _ _ _ bs _ hz hb hcap HF.out).mono ?_
      rintro e w1 ⟨A1, n1, c1, a, B1, m1, d1, b, rfl, hOa, hOb, hn1, hm1, hb1⟩
      have HA := Lib.hid hOa.len
      have HB := Lib.hid hOb.len
      cases hok : coOk a b 0
      · go_wp2_with fail
        refine (iBest_any _ _ _ _ _ _ a b _ hOa.ints hOb.ints (by omega) (by omega)).mono ?_
        rintro e w' ⟨rfl, rfl⟩
        go_wp2_with fail
        refine (sBest_any _ _ _ _ _ _ a b _ hOa.ints hOb.ints (by omega) (by omega)).mono ?_
        rintro e w2 ⟨rfl, hb2⟩
        go_wp2
        go_ret
        exact ⟨ret_bool (by simp), below_step hb1 hb2⟩
      · obtain ⟨hsa, hsb, hll, _, _⟩ := co_ok hok
        have hlen : 1 ≤ n1 ∧ n1 ≤ 32 := by have := sv_len hsa; rw [HA.out] at this; exact this
        obtain ⟨hn1', hn2'⟩ := hlen
        obtain rfl : m1 = n1 := by rw [HA.out, HB.out] at hll; omega
        have HSA := Lib.hid hsa
        have HSB := Lib.hid hsb
        have HLL := Lib.hid hll
        have HOK := Lib.hid hok
        have h1a : 1 ≤ a.length := by rw [HA.out]; exact hn1'
        have H1 := Lib.hid h1a
        obtain ⟨L, hL⟩ : ∃ L : Nat, L = (bst a b a.length).1 := ⟨_, rfl⟩
        obtain ⟨hf1, hf2, hf3, hf4⟩ := bst_facts a b a.length h1a
        rw [← hL, HA.out] at hf2
        have HF1 : Hid ((bst a b a.length).2 = corr a b (L : Int)) := by rw [hL]; exact hf1
        have HF3 : Hid (∀ j, j < m1 → corr a b (j : Int) ≤ corr a b (L : Int)) := fun j hj => by rw [← HF1.out]; exact hf3 j (by rw [HA.out]; exact hj)
        have HF4 : Hid (∀ j, j < L → corr a b (j : Int) < corr a b (L : Int)) := fun j hj => by rw [← HF1.out]; exact hf4 j (by rw [← hL]; exact hj)
        have HV : Hid (cbV a b = (L : Int)) := by rw [cbV_yes hok, hL]; exact rfl
        clear hsa hsb hll hok h1a hf1 hf3 hf4 hL
        go_wp2_with fail
        refine (iBest_any _ _ _ _ _ _ a b _ hOa.ints hOb.ints (by omega) (by omega)).mono ?_
        rintro e w' ⟨he, rfl⟩
        rw [HV.out, HOK.out] at he
        subst he
        go_wp2_with fail
        refine (sBest_any _ _ _ _ _ _ a b _ hOa.ints hOb.ints (by omega) (by omega)).mono ?_
        rintro e w2 ⟨he, hb2⟩
        rw [HV.out, HOK.out] at he
        subst he
        have hB2 := below_step hb1 hb2
        have hOa2 := hOa.below hb2
        have hOb2 := hOb.below hb2
        go_wp2_with fail
        obtain ⟨k, hk⟩ : ∃ k : Int, (m : Int) % 30 = k := ⟨_, rfl⟩
        have hk1 : 0 ≤ k := by omega
        have hk2 : k ≤ 29 := by omega
        rw [hk]
        clear hk
        have HK1 : Hid (shOk a k = true) := sh_ok_mk HSA.out (by omega) (by omega)
        have HC0 : Hid (coOk a (shl a k) 0 = true) := co_mk HSA.out (sv_shl k HSA.out) (by rw [shl_len]) (by omega) (by omega)
        obtain ⟨M, hM⟩ : ∃ M : Nat, M = (bst a (shl a k) a.length).1 := ⟨_, rfl⟩
        have hMlt : M < m1 := by have := (bst_facts a (shl a k) a.length H1.out).2.1; rw [← hM, HA.out] at this; exact this
        have HVM : Hid (cbV a (shl a k) = (M : Int)) := by rw [cbV_yes HC0.out, hM]; exact rfl
        have HCM : Hid (coOk a (shl a k) (M : Int) = true) := co_mk HSA.out (sv_shl k HSA.out) (by rw [shl_len]) (by omega) (by omega)
        have HCE : Hid (corr a (shl a k) (M : Int) = corr a a 0) := by rw [hM]; exact best_shift k H1.out
        have HCS : Hid (coOk a a 0 = true) := co_mk HSA.out HSA.out rfl (by omega) (by omega)
        clear hM
        refine (iShift_any _ _ _ a _ _ hOa2.ints (by omega)).mono ?_
        rintro e w3 ⟨A3, n3, c3, he, hO3, hb3⟩
        (try simp only [Int.zero_sub] at he hO3)
        rw [HK1.out] at he
        rw [shV_yes HK1.out] at hO3
        subst he
        have hB3 := below_step hB2 hb3
        have hOa3 := hOa2.below hb3
        have hn3 : n3 ≤ 1048577 := by have := hO3.len; rw [shl_len, HA.out] at this; omega
        go_wp2_with fail
        refine (iBest_any _ _ _ _ _ _ a (shl a k) _ hOa3.ints hO3.ints (by omega) (by omega)).mono ?_
        rintro e w' ⟨he, rfl⟩
        rw [HVM.out, HC0.out] at he
        subst he
        go_wp2_with fail
        refine (iCorr_any _ _ _ _ _ _ a (shl a k) _ _ hOa3.ints hO3.ints (by omega) (by omega)).mono ?_
        rintro e w' ⟨he, rfl⟩
        (try simp only [Int.zero_sub] at he)
        rw [coV_yes HCM.out, HCM.out, HCE.out] at he
        subst he
        go_wp2_with fail
        refine (iCorr_any _ _ _ _ _ _ a a _ _ hOa3.ints hOa3.ints (by omega) (by omega)).mono ?_
        rintro e w' ⟨he, rfl⟩
        (try simp only [Int.zero_sub] at he)
        rw [coV_yes HCS.out, HCS.out] at he
        subst he
        go_wp2
        go_ret
        exact ⟨ret_bool (by first | rfl | (simp; omega)), hB3⟩
    · have hb' : 1048576 < m := by omega
      clear hbm
      go_enter Try.func13, Try.ntmps13
      go_wp2
      go_ret
      exact ⟨rfl, Below.refl _ _⟩
  · have hb' : 1048576 < n := by omega
    clear hb
    go_enter Try.func13, Try.ntmps13
    go_wp2
    go_ret
    exact ⟨rfl, Below.refl _ _⟩

end Go.Proofs.Ytiehommofdjgcaa
