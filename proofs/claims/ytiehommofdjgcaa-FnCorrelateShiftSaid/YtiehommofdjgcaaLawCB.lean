/-
  The walks of laws.FnCorrelateShift.
-/
import Derived.Test.YtiehommofdjgcaaCorrF
import Derived.Test.YtiehommofdjgcaaCorrG
import Derived.Test.YtiehommofdjgcaaDrawC
import Derived.Test.YtiehommofdjgcaaToInts
import Derived.Deep.RegionLaw
namespace Go.Proofs.Ytiehommofdjgcaa
open Go.RowKit
set_option linter.unusedVariables false

set_option maxHeartbeats 4000000 in
theorem walkFnCorrelateShift (w : World) (A : Option Addr) (n c : Nat) (bs : List Int) (hz : IntsK .u8 w A n bs) (hl : n ≤ maxLen ∧ n ≤ c) (hf : ∀ j, (Lit.int .u8 (el bs j)).wf = true)
    (B : Option Addr) (m d : Nat) (ms : List Int) (hy : IntsK .u8 w B m ms) (hl' : m ≤ maxLen ∧ m ≤ d) (_ : ∀ j, (Lit.int .u8 (el ms j)).wf = true) :
    Calls Try.prog 11 #[.slice A n c, .slice B m d] w fun e w' => e = .returned (.bool true) ∧ Below w.heap.size w w' := by
  obtain ⟨hl, hcap⟩ := hl
  obtain ⟨hl', hcap'⟩ := hl'
  unfold maxLen at hl hl'
  by_cases hb : n ≤ 1048576
  · by_cases hbm : m ≤ 1048576
    · have HF := Lib.hid (bytes_in hf)
      clear hf
      go_enter Try.func11, Try.ntmps11
      go_wp2_with fail
      refine (DrawCorrelate_any _ _ _ bs _ hz hb hcap HF.out).mono ?_
      rintro e w1 ⟨A1, n1, c1, a, B1, m1, d1, b, lag, rfl, hOa, hOb, hn1, hm1, hl0, hl1, hb1⟩
      have HA := Lib.hid hOa.len
      have HB := Lib.hid hOb.len
      cases hok : coOk a b lag
      · go_wp2_with fail
        refine (iCorr_any _ _ _ _ _ _ a b _ _ hOa.ints hOb.ints (by omega) (by omega)).mono ?_
        rintro e w' ⟨rfl, rfl⟩
        go_wp2_with fail
        refine (sCorr_any _ _ _ _ _ _ a b _ _ hOa.ints hOb.ints (by omega) (by omega)).mono ?_
        rintro e w2 ⟨rfl, hb2⟩
        go_wp2
        go_ret
        exact ⟨ret_bool (by simp), below_step hb1 hb2⟩
      · obtain ⟨hsa, hsb, hll, hlag0, hlag1⟩ := co_ok hok
        have hlen : 1 ≤ n1 ∧ n1 ≤ 32 := by have := sv_len hsa; rw [HA.out] at this; exact this
        obtain ⟨hn1', hn2'⟩ := hlen
        obtain rfl : m1 = n1 := by rw [HA.out, HB.out] at hll; omega
        have HSA := Lib.hid hsa
        have HSB := Lib.hid hsb
        have HLL := Lib.hid hll
        have HOK := Lib.hid hok
        have h1a : 1 ≤ a.length := by rw [HA.out]; exact hn1'
        have H1 := Lib.hid h1a
        clear hsa hsb hll hok h1a
        go_wp2_with fail
        refine (iCorr_any _ _ _ _ _ _ a b _ _ hOa.ints hOb.ints (by omega) (by omega)).mono ?_
        rintro e w' ⟨he, rfl⟩
        rw [coV_yes HOK.out, HOK.out] at he
        subst he
        go_wp2_with fail
        refine (sCorr_any _ _ _ _ _ _ a b _ _ hOa.ints hOb.ints (by omega) (by omega)).mono ?_
        rintro e w2 ⟨he, hb2⟩
        rw [coV_yes HOK.out, HOK.out] at he
        subst he
        have hB2 := below_step hb1 hb2
        have hOa2 := hOa.below hb2
        have hOb2 := hOb.below hb2
        go_wp2_with fail
        obtain ⟨k, hk⟩ : ∃ k : Int, (m : Int) % 30 = k := ⟨_, rfl⟩
        have hk1 : 0 ≤ k := by omega
        have hk2 : k ≤ 29 := by omega
        rw [hk]
        clear hk
        have HK1 : Hid (shOk a k = true) := sh_ok_mk HSA.out (by omega) (by omega)
        have HK2 : Hid (shOk b k = true) := sh_ok_mk HSB.out (by omega) (by omega)
        have HK3 : Hid (shOk b (-lag) = true) := sh_ok_mk HSB.out (by omega) (by omega)
        have HC1 : Hid (coOk (shl a k) (shl b k) lag = true) := co_mk (sv_shl k HSA.out) (sv_shl k HSB.out) (by rw [shl_len, shl_len, HLL.out]) hlag0 hlag1
        have HC2 : Hid (coOk a (shl b (-lag)) 0 = true) := co_mk HSA.out (sv_shl _ HSB.out) (by rw [shl_len, HLL.out]) (by omega) (by omega)
        have HV1 : Hid (corr (shl a k) (shl b k) lag = corr a b lag) := corr_both lag k HLL.out H1.out
        have HV2 : Hid (corr a (shl b (-lag)) 0 = corr a b lag) := corr_back lag HLL.out
        refine (iShift_any _ _ _ a _ _ hOa2.ints (by omega)).mono ?_
        rintro e w3 ⟨A3, n3, c3, he, hO3, hb3⟩
        (try simp only [Int.zero_sub] at he hO3)
        rw [HK1.out] at he
        rw [shV_yes HK1.out] at hO3
        subst he
        have hB3 := below_step hB2 hb3
        go_wp2_with fail
        refine (iShift_any _ _ _ b _ _ (hOb2.below hb3).ints (by omega)).mono ?_
        rintro e w4 ⟨A4, n4, c4, he, hO4, hb4⟩
        (try simp only [Int.zero_sub] at he hO4)
        rw [HK2.out] at he
        rw [shV_yes HK2.out] at hO4
        subst he
        have hB4 := below_step hB3 hb4
        have hOa4 := (hOa2.below hb3).below hb4
        have hOb4 := (hOb2.below hb3).below hb4
        have hO34 := hO3.below hb4
        have hn3 : n3 ≤ 1048577 := by have := hO3.len; rw [shl_len, HA.out] at this; omega
        have hn4 : n4 ≤ 1048577 := by have := hO4.len; rw [shl_len, HB.out] at this; omega
        go_wp2_with fail
        refine (iCorr_any _ _ _ _ _ _ (shl a k) (shl b k) _ _ hO34.ints hO4.ints (by omega) (by omega)).mono ?_
        rintro e w' ⟨he, rfl⟩
        (try simp only [Int.zero_sub] at he)
        rw [coV_yes HC1.out, HC1.out, HV1.out] at he
        subst he
        go_wp2_with fail
        refine (iShift_any _ _ _ b _ _ hOb4.ints (by omega)).mono ?_
        rintro e w5 ⟨A5, n5, c5, he, hO5, hb5⟩
        (try simp only [Int.zero_sub] at he hO5)
        rw [HK3.out] at he
        rw [shV_yes HK3.out] at hO5
        subst he
        have hB5 := below_step hB4 hb5
        have hn5 : n5 ≤ 1048577 := by have := hO5.len; rw [shl_len, HB.out] at this; omega
        have hOa5 := hOa4.below hb5
        go_wp2_with fail
        refine (iCorr_any _ _ _ _ _ _ a (shl b (-lag)) _ _ hOa5.ints hO5.ints (by omega) (by omega)).mono ?_
        rintro e w' ⟨he, rfl⟩
        (try simp only [Int.zero_sub] at he)
        rw [coV_yes HC2.out, HC2.out, HV2.out] at he
        subst he
        go_wp2
        go_ret
        exact ⟨rfl, hB5⟩
    · have hb' : 1048576 < m := by omega
      clear hbm
      go_enter Try.func11, Try.ntmps11
      go_wp2
      go_ret
      exact ⟨rfl, Below.refl _ _⟩
  · have hb' : 1048576 < n := by omega
    clear hb
    go_enter Try.func11, Try.ntmps11
    go_wp2
    go_ret
    exact ⟨rfl, Below.refl _ _⟩

end Go.Proofs.Ytiehommofdjgcaa
