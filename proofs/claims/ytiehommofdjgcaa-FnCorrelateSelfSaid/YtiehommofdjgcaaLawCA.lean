/-
  The walks of laws.FnCorrelateSwap, FnCorrelateBound and FnCorrelateSelf.
-/
import Derived.Test.YtiehommofdjgcaaCorrF
import Derived.Test.YtiehommofdjgcaaCorrG
import Derived.Test.YtiehommofdjgcaaDrawC
import Derived.Test.YtiehommofdjgcaaToInts
import Derived.Deep.RegionLaw
namespace Go.Proofs.Ytiehommofdjgcaa
open Go.RowKit
set_option linter.unusedVariables false

set_option maxHeartbeats 4000000 in
theorem walkFnCorrelateSwap (w : World) (A : Option Addr) (n c : Nat) (bs : List Int) (hz : IntsK .u8 w A n bs) (hl : n ≤ maxLen ∧ n ≤ c) (hf : ∀ j, (Lit.int .u8 (el bs j)).wf = true) :
    Calls Try.prog 9 #[.slice A n c] w fun e w' => e = .returned (.bool true) ∧ Below w.heap.size w w' := by
  obtain ⟨hl, hcap⟩ := hl
  unfold maxLen at hl
  by_cases hb : n ≤ 1048576
  · have HF := Lib.hid (bytes_in hf)
    clear hf
    go_enter Try.func9, Try.ntmps9
    go_wp2_with fail
    refine (DrawCorrelate_any _ _ _ bs _ hz hb hcap HF.out).mono ?_
    rintro e w1 ⟨A1, n1, c1, a, B1, m1, d1, b, lag, rfl, hOa, hOb, hn1, hm1, hl0, hl1, hb1⟩
    have HA := Lib.hid hOa.len
    have HB := Lib.hid hOb.len
    cases hok : coOk a b lag
    · go_wp2_with fail
      refine (iCorr_any _ _ _ _ _ _ a b _ _ hOa.ints hOb.ints (by omega) (by omega)).mono ?_
      rintro e w' ⟨rfl, rfl⟩
      go_wp2_with fail
      refine (sCorr_any _ _ _ _ _ _ a b _ _ hOa.ints hOb.ints (by omega) (by omega)).mono ?_
      rintro e w2 ⟨rfl, hb2⟩
      go_wp2
      go_ret
      exact ⟨ret_bool (by simp), below_step hb1 hb2⟩
    · obtain ⟨hsa, hsb, hll, hlag0, hlag1⟩ := co_ok hok
      have hlen : 1 ≤ n1 ∧ n1 ≤ 32 := by have := sv_len hsa; rw [HA.out] at this; exact this
      obtain ⟨hn1', hn2'⟩ := hlen
      obtain rfl : m1 = n1 := by rw [HA.out, HB.out] at hll; omega
      have HSA := Lib.hid hsa
      have HSB := Lib.hid hsb
      have HLL := Lib.hid hll
      have HOK := Lib.hid hok
      have h1a : 1 ≤ a.length := by rw [HA.out]; exact hn1'
      have H1 := Lib.hid h1a
      clear hsa hsb hll hok h1a
      go_wp2_with fail
      refine (iCorr_any _ _ _ _ _ _ a b _ _ hOa.ints hOb.ints (by omega) (by omega)).mono ?_
      rintro e w' ⟨he, rfl⟩
      rw [coV_yes HOK.out, HOK.out] at he
      subst he
      go_wp2_with fail
      refine (sCorr_any _ _ _ _ _ _ a b _ _ hOa.ints hOb.ints (by omega) (by omega)).mono ?_
      rintro e w2 ⟨he, hb2⟩
      rw [coV_yes HOK.out, HOK.out] at he
      subst he
      have hB2 := below_step hb1 hb2
      have hOa2 := hOa.below hb2
      have hOb2 := hOb.below hb2
      have HK1 : Hid (coOk b a (-lag) = true) := co_mk HSB.out HSA.out HLL.out.symm (by omega) (by omega)
      have HV1 : Hid (corr b a (-lag) = corr a b lag) := corr_swap lag HLL.out H1.out
      have HV2 : Hid (corr a b (lag + (m1 : Int)) = corr a b lag) := by have := corr_round (a := a) (b := b) lag; rw [HA.out] at this; exact this
      go_wp2_with fail
      refine (iCorr_any _ _ _ _ _ _ b a _ _ hOb2.ints hOa2.ints (by omega) (by omega)).mono ?_
      rintro e w' ⟨he, rfl⟩
      (try simp only [Int.zero_sub] at he)
      rw [coV_yes HK1.out, HK1.out, HV1.out] at he
      subst he
      cases hok2 : coOk a b (lag + (m1 : Int))
      · go_wp2_with fail
        refine (iCorr_any _ _ _ _ _ _ a b _ _ hOa2.ints hOb2.ints (by omega) (by omega)).mono ?_
        rintro e w' ⟨he, rfl⟩
        rw [coV_no hok2, hok2] at he
        subst he
        go_wp2
        go_ret
        exact ⟨rfl, hB2⟩
      · go_wp2_with fail
        refine (iCorr_any _ _ _ _ _ _ a b _ _ hOa2.ints hOb2.ints (by omega) (by omega)).mono ?_
        rintro e w' ⟨he, rfl⟩
        rw [coV_yes hok2, hok2, HV2.out] at he
        subst he
        go_wp2
        go_ret
        exact ⟨rfl, hB2⟩
  · have hb' : 1048576 < n := by omega
    clear hb
    go_enter Try.func9, Try.ntmps9
    go_wp2
    go_ret
    exact ⟨rfl, Below.refl _ _⟩

set_option maxHeartbeats 4000000 in
theorem walkFnCorrelateBound (w : World) (A : Option Addr) (n c : Nat) (bs : List Int) (hz : IntsK .u8 w A n bs) (hl : n ≤ maxLen ∧ n ≤ c) (hf : ∀ j, (Lit.int .u8 (el bs j)).wf = true) :
    Calls Try.prog 6 #[.slice A n c] w fun e w' => e = .returned (.bool true) ∧ Below w.heap.size w w' := by
  obtain ⟨hl, hcap⟩ := hl
  unfold maxLen at hl
  by_cases hb : n ≤ 1048576
  · have HF := Lib.hid (bytes_in hf)
    clear hf
    go_enter Try.func6, Try.ntmps6
    go_wp2_with fail
    refine (DrawCorrelate_any _ _ _ bs _ hz hb hcap HF.out).mono ?_
    rintro e w1 ⟨A1, n1, c1, a, B1, m1, d1, b, lag, rfl, hOa, hOb, hn1, hm1, hl0, hl1, hb1⟩
    have HA := Lib.hid hOa.len
    have HB := Lib.hid hOb.len
    cases hok : coOk a b lag
    · go_wp2_with fail
      refine (iCorr_any _ _ _ _ _ _ a b _ _ hOa.ints hOb.ints (by omega) (by omega)).mono ?_
      rintro e w' ⟨rfl, rfl⟩
      go_wp2_with fail
      refine (sCorr_any _ _ _ _ _ _ a b _ _ hOa.ints hOb.ints (by omega) (by omega)).mono ?_
      rintro e w2 ⟨rfl, hb2⟩
      go_wp2
      go_ret
      exact ⟨ret_bool (by simp), below_step hb1 hb2⟩
    · obtain ⟨hsa, hsb, hll, hlag0, hlag1⟩ := co_ok hok
      have hlen : 1 ≤ n1 ∧ n1 ≤ 32 := by have := sv_len hsa; rw [HA.out] at this; exact this
      obtain ⟨hn1', hn2'⟩ := hlen
      obtain rfl : m1 = n1 := by rw [HA.out, HB.out] at hll; omega
      have HSA := Lib.hid hsa
      have HSB := Lib.hid hsb
      have HLL := Lib.hid hll
      have HOK := Lib.hid hok
      have h1a : 1 ≤ a.length := by rw [HA.out]; exact hn1'
      have H1 := Lib.hid h1a
      clear hsa hsb hll hok h1a
      go_wp2_with fail
      refine (iCorr_any _ _ _ _ _ _ a b _ _ hOa.ints hOb.ints (by omega) (by omega)).mono ?_
      rintro e w' ⟨he, rfl⟩
      rw [coV_yes HOK.out, HOK.out] at he
      subst he
      go_wp2_with fail
      refine (sCorr_any _ _ _ _ _ _ a b _ _ hOa.ints hOb.ints (by omega) (by omega)).mono ?_
      rintro e w2 ⟨he, hb2⟩
      rw [coV_yes HOK.out, HOK.out] at he
      subst he
      have hB2 := below_step hb1 hb2
      have hOa2 := hOa.below hb2
      have hOb2 := hOb.below hb2
      have HK1 : Hid (coOk a a 0 = true) := co_mk HSA.out HSA.out rfl (by omega) (by omega)
      have HK2 : Hid (coOk b b 0 = true) := co_mk HSB.out HSB.out rfl (by omega) (by omega)
      have hcb := corr_bound lag HLL.out H1.out
      obtain ⟨hp0, hp1⟩ := corr_small lag HSA.out HSB.out HLL.out
      obtain ⟨hx0, hx1⟩ := corr_small (a := a) (b := a) 0 HSA.out HSA.out rfl
      obtain ⟨hy0, hy1⟩ := corr_small (a := b) (b := b) 0 HSB.out HSB.out rfl
      go_wp2_with fail
      refine (iCorr_any _ _ _ _ _ _ a a _ _ hOa2.ints hOa2.ints (by omega) (by omega)).mono ?_
      rintro e w' ⟨he, rfl⟩
      (try simp only [Int.zero_sub] at he)
      rw [coV_yes HK1.out, HK1.out] at he
      subst he
      go_wp2_with fail
      refine (iCorr_any _ _ _ _ _ _ b b _ _ hOb2.ints hOb2.ints (by omega) (by omega)).mono ?_
      rintro e w' ⟨he, rfl⟩
      (try simp only [Int.zero_sub] at he)
      rw [coV_yes HK2.out, HK2.out] at he
      subst he
      generalize corr a b lag = P at *
      generalize corr a a 0 = X at *
      generalize corr b b 0 = Y at *
      obtain ⟨hq0, hq1⟩ := prod_small hp0 hp1 hp0 hp1
      obtain ⟨hr0, hr1⟩ := prod_small hx0 hx1 hy0 hy1
      go_wp2
      go_ret
      exact ⟨ret_bool (by first | rfl | (simp; omega)), hB2⟩
  · have hb' : 1048576 < n := by omega
    clear hb
    go_enter Try.func6, Try.ntmps6
    go_wp2
    go_ret
    exact ⟨rfl, Below.refl _ _⟩

set_option maxHeartbeats 4000000 in
theorem walkFnCorrelateSelf (w : World) (A : Option Addr) (n c : Nat) (bs : List Int) (hz : IntsK .u8 w A n bs) (hl : n ≤ maxLen ∧ n ≤ c) (hf : ∀ j, (Lit.int .u8 (el bs j)).wf = true) :
    Calls Try.prog 7 #[.slice A n c] w fun e w' => e = .returned (.bool true) ∧ Below w.heap.size w w' := by
  obtain ⟨hl, hcap⟩ := hl
  unfold maxLen at hl
  by_cases hb : n ≤ 1048576
  · have HF := Lib.hid (bytes_in hf)
    clear hf
    go_enter Try.func7, Try.ntmps7
    go_wp2_with fail
    refine (DrawCorrelate_any _ _ _ bs _ hz hb hcap HF.out).mono ?_
    rintro e w1 ⟨A1, n1, c1, a, B1, m1, d1, b, lag, rfl, hOa, hOb, hn1, hm1, hl0, hl1, hb1⟩
    have HA := Lib.hid hOa.len
    have HB := Lib.hid hOb.len
    cases hok : coOk a b lag
    · go_wp2_with fail
      refine (iCorr_any _ _ _ _ _ _ a b _ _ hOa.ints hOb.ints (by omega) (by omega)).mono ?_
      rintro e w' ⟨rfl, rfl⟩
      go_wp2_with fail
      refine (sCorr_any _ _ _ _ _ _ a b _ _ hOa.ints hOb.ints (by omega) (by omega)).mono ?_
      rintro e w2 ⟨rfl, hb2⟩
      go_wp2
      go_ret
      exact ⟨ret_bool (by simp), below_step hb1 hb2⟩
    · obtain ⟨hsa, hsb, hll, hlag0, hlag1⟩ := co_ok hok
      have hlen : 1 ≤ n1 ∧ n1 ≤ 32 := by have := sv_len hsa; rw [HA.out] at this; exact this
      obtain ⟨hn1', hn2'⟩ := hlen
      obtain rfl : m1 = n1 := by rw [HA.out, HB.out] at hll; omega
      have HSA := Lib.hid hsa
      have HSB := Lib.hid hsb
      have HLL := Lib.hid hll
      have HOK := Lib.hid hok
      have h1a : 1 ≤ a.length := by rw [HA.out]; exact hn1'
      have H1 := Lib.hid h1a
      clear hsa hsb hll hok h1a
      go_wp2_with fail
      refine (iCorr_any _ _ _ _ _ _ a b _ _ hOa.ints hOb.ints (by omega) (by omega)).mono ?_
      rintro e w' ⟨he, rfl⟩
      rw [coV_yes HOK.out, HOK.out] at he
      subst he
      go_wp2_with fail
      refine (sCorr_any _ _ _ _ _ _ a b _ _ hOa.ints hOb.ints (by omega) (by omega)).mono ?_
      rintro e w2 ⟨he, hb2⟩
      rw [coV_yes HOK.out, HOK.out] at he
      subst he
      have hB2 := below_step hb1 hb2
      have hOa2 := hOa.below hb2
      have hOb2 := hOb.below hb2
      have HK1 : Hid (coOk a a 0 = true) := co_mk HSA.out HSA.out rfl (by omega) (by omega)
      have HK2 : Hid (coOk a a lag = true) := co_mk HSA.out HSA.out rfl hlag0 hlag1
      obtain ⟨hs1, hs2⟩ := corr_self lag H1.out
      have hs3 := corr_pos a
      obtain ⟨hx0, hx1⟩ := corr_small (a := a) (b := a) 0 HSA.out HSA.out rfl
      obtain ⟨hy0, hy1⟩ := corr_small (a := a) (b := a) lag HSA.out HSA.out rfl
      go_wp2_with fail
      refine (iCorr_any _ _ _ _ _ _ a a _ _ hOa2.ints hOa2.ints (by omega) (by omega)).mono ?_
      rintro e w' ⟨he, rfl⟩
      (try simp only [Int.zero_sub] at he)
      rw [coV_yes HK1.out, HK1.out] at he
      subst he
      go_wp2_with fail
      refine (iCorr_any _ _ _ _ _ _ a a _ _ hOa2.ints hOa2.ints (by omega) (by omega)).mono ?_
      rintro e w' ⟨he, rfl⟩
      (try simp only [Int.zero_sub] at he)
      rw [coV_yes HK2.out, HK2.out] at he
      subst he
      generalize corr a a 0 = X at *
      generalize corr a a lag = Y at *
      go_wp2
      go_ret
      exact ⟨ret_bool (by first | rfl | (simp; omega)), hB2⟩
  · have hb' : 1048576 < n := by omega
    clear hb
    go_enter Try.func7, Try.ntmps7
    go_wp2
    go_ret
    exact ⟨rfl, Below.refl _ _⟩

end Go.Proofs.Ytiehommofdjgcaa
