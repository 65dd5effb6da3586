/-
  The walks of laws.FnExactCorrelate and FnExactCorrelateBest.
-/
import Derived.Test.YtiehommofdjgcaaCorrF
import Derived.Test.YtiehommofdjgcaaCorrG
import Derived.Test.YtiehommofdjgcaaDrawC
import Derived.Test.YtiehommofdjgcaaToInts
import Derived.Deep.RegionLaw
namespace Go.Proofs.Ytiehommofdjgcaa
open Go.RowKit
set_option linter.unusedVariables false

set_option maxHeartbeats 4000000 in
theorem walkFnExactCorrelate (w : World) (A : Option Addr) (n c : Nat) (a : List Int) (ha : Ints w A n a) (hl : n ≤ maxLen ∧ n ≤ c) (_ : ∀ j, (Lit.int .i64 (el a j)).wf = true)
    (B : Option Addr) (m d : Nat) (b : List Int) (hb : Ints w B m b) (hl' : m ≤ maxLen ∧ m ≤ d) (_ : ∀ j, (Lit.int .i64 (el b j)).wf = true) (lag : Int) (_ : (Lit.int .i64 lag).wf = true) :
    Calls Try.prog 3 #[.slice A n c, .slice B m d, .int .i64 lag] w fun e w' => e = .returned (.bool true) ∧ Below w.heap.size w w' := by
  obtain ⟨hl, hcap⟩ := hl
  obtain ⟨hl', hcap'⟩ := hl'
  unfold maxLen at hl hl'
  by_cases hbn : n ≤ 1048576
  · by_cases hbm : m ≤ 1048576
    · have HA := Lib.hid ha.len
      have HB := Lib.hid hb.len
      generalize hV : coV a b lag = V
      generalize hOK : coOk a b lag = ok
      have HV := Lib.hid hV
      have HOK := Lib.hid hOK
      clear hV hOK
      go_enter Try.func3, Try.ntmps3
      go_wp2_with fail
      refine (toIntS_any _ _ _ a _ ha hbn).mono ?_
      rintro e w1 ⟨A1, n1, c1, rfl, ho1, hb1⟩
      have hn1 : n1 ≤ 1048577 := by have := ho1.len; have := HA.out; omega
      go_wp2_with fail
      refine (toIntS_any _ _ _ b _ (hb.below hb1) hbm).mono ?_
      rintro e w2 ⟨A2, n2, c2, rfl, ho2, hb2⟩
      have hn2 : n2 ≤ 1048577 := by have := ho2.len; have := HB.out; omega
      have hB2 := below_step hb1 hb2
      go_wp2_with fail
      refine (sCorr_any _ _ _ _ _ _ a b _ _ (ho1.below hb2).ints ho2.ints hn1 hn2).mono ?_
      rintro e w3 ⟨he, hb3⟩
      rw [HV.out, HOK.out] at he
      subst he
      have hB3 := below_step hB2 hb3
      go_wp2_with fail
      refine (toIntS_any _ _ _ a _ (ha.below hB3) hbn).mono ?_
      rintro e w4 ⟨A4, n4, c4, rfl, ho4, hb4⟩
      have hn4 : n4 ≤ 1048577 := by have := ho4.len; have := HA.out; omega
      have hB4 := below_step hB3 hb4
      go_wp2_with fail
      refine (toIntS_any _ _ _ b _ (hb.below hB4) hbm).mono ?_
      rintro e w5 ⟨A5, n5, c5, rfl, ho5, hb5⟩
      have hn5 : n5 ≤ 1048577 := by have := ho5.len; have := HB.out; omega
      have hB5 := below_step hB4 hb5
      have ho45 := ho4.below hb5
      go_wp2_with fail
      refine (iCorr_any _ _ _ _ _ _ a b _ _ ho45.ints ho5.ints hn4 hn5).mono ?_
      rintro e w' ⟨he, rfl⟩
      rw [HV.out, HOK.out] at he
      subst he
      have hEa := eqL_self a
      have hEb := eqL_self b
      go_wp2_with fail
      refine (toIntS_any _ _ _ a _ (ha.below hB5) hbn).mono ?_
      rintro e w6 ⟨A6, n6, c6, rfl, ho6, hb6⟩
      have hB6 := below_step hB5 hb6
      go_wp2_with fail
      refine (eqIntS_any _ _ _ _ _ _ _ _ _ (ho45.below hb6).ints ho6.ints hn4).mono ?_
      rintro e w7 ⟨rfl, hb7⟩
      have hB7 := below_step hB6 hb7
      go_wp2_with fail
      refine (toIntS_any _ _ _ b _ (hb.below hB7) hbm).mono ?_
      rintro e w8 ⟨A8, n8, c8, rfl, ho8, hb8⟩
      have hB8 := below_step hB7 hb8
      go_wp2_with fail
      refine (eqIntS_any _ _ _ _ _ _ _ _ _ (((ho5.below hb6).below hb7).below hb8).ints ho8.ints hn5).mono ?_
      rintro e w9 ⟨rfl, hb9⟩
      go_wp2
      go_ret
      exact ⟨rfl, below_step hB8 hb9⟩
    · have hb' : 1048576 < m := by omega
      clear hbm
      go_enter Try.func3, Try.ntmps3
      go_wp2
      go_ret
      exact ⟨rfl, Below.refl _ _⟩
  · have hb' : 1048576 < n := by omega
    clear hbn
    go_enter Try.func3, Try.ntmps3
    go_wp2
    go_ret
    exact ⟨rfl, Below.refl _ _⟩

set_option maxHeartbeats 4000000 in
theorem walkFnExactCorrelateBest (w : World) (A : Option Addr) (n c : Nat) (a : List Int) (ha : Ints w A n a) (hl : n ≤ maxLen ∧ n ≤ c) (_ : ∀ j, (Lit.int .i64 (el a j)).wf = true)
    (B : Option Addr) (m d : Nat) (b : List Int) (hb : Ints w B m b) (hl' : m ≤ maxLen ∧ m ≤ d) (_ : ∀ j, (Lit.int .i64 (el b j)).wf = true) :
    Calls Try.prog 4 #[.slice A n c, .slice B m d] w fun e w' => e = .returned (.bool true) ∧ Below w.heap.size w w' := by
  obtain ⟨hl, hcap⟩ := hl
  obtain ⟨hl', hcap'⟩ := hl'
  unfold maxLen at hl hl'
  by_cases hbn : n ≤ 1048576
  · by_cases hbm : m ≤ 1048576
    · have HA := Lib.hid ha.len
      have HB := Lib.hid hb.len
      generalize hV : cbV a b = V
      generalize hOK : coOk a b 0 = ok
      have HV := Lib.hid hV
      have HOK := Lib.hid hOK
      clear hV hOK
      go_enter Try.func4, Try.ntmps4
      go_wp2_with fail
      refine (toIntS_any _ _ _ a _ ha hbn).mono ?_
      rintro e w1 ⟨A1, n1, c1, rfl, ho1, hb1⟩
      have hn1 : n1 ≤ 1048577 := by have := ho1.len; have := HA.out; omega
      go_wp2_with fail
      refine (toIntS_any _ _ _ b _ (hb.below hb1) hbm).mono ?_
      rintro e w2 ⟨A2, n2, c2, rfl, ho2, hb2⟩
      have hn2 : n2 ≤ 1048577 := by have := ho2.len; have := HB.out; omega
      have hB2 := below_step hb1 hb2
      go_wp2_with fail
      refine (sBest_any _ _ _ _ _ _ a b _ (ho1.below hb2).ints ho2.ints hn1 hn2).mono ?_
      rintro e w3 ⟨he, hb3⟩
      rw [HV.out, HOK.out] at he
      subst he
      have hB3 := below_step hB2 hb3
      go_wp2_with fail
      refine (toIntS_any _ _ _ a _ (ha.below hB3) hbn).mono ?_
      rintro e w4 ⟨A4, n4, c4, rfl, ho4, hb4⟩
      have hn4 : n4 ≤ 1048577 := by have := ho4.len; have := HA.out; omega
      have hB4 := below_step hB3 hb4
      go_wp2_with fail
      refine (toIntS_any _ _ _ b _ (hb.below hB4) hbm).mono ?_
      rintro e w5 ⟨A5, n5, c5, rfl, ho5, hb5⟩
      have hn5 : n5 ≤ 1048577 := by have := ho5.len; have := HB.out; omega
      have hB5 := below_step hB4 hb5
      have ho45 := ho4.below hb5
      go_wp2_with fail
      refine (iBest_any _ _ _ _ _ _ a b _ ho45.ints ho5.ints hn4 hn5).mono ?_
      rintro e w' ⟨he, rfl⟩
      rw [HV.out, HOK.out] at he
      subst he
      have hEa := eqL_self a
      have hEb := eqL_self b
      go_wp2_with fail
      refine (toIntS_any _ _ _ a _ (ha.below hB5) hbn).mono ?_
      rintro e w6 ⟨A6, n6, c6, rfl, ho6, hb6⟩
      have hB6 := below_step hB5 hb6
      go_wp2_with fail
      refine (eqIntS_any _ _ _ _ _ _ _ _ _ (ho45.below hb6).ints ho6.ints hn4).mono ?_
      rintro e w7 ⟨rfl, hb7⟩
      have hB7 := below_step hB6 hb7
      go_wp2_with fail
      refine (toIntS_any _ _ _ b _ (hb.below hB7) hbm).mono ?_
      rintro e w8 ⟨A8, n8, c8, rfl, ho8, hb8⟩
      have hB8 := below_step hB7 hb8
      go_wp2_with fail
      refine (eqIntS_any _ _ _ _ _ _ _ _ _ (((ho5.below hb6).below hb7).below hb8).ints ho8.ints hn5).mono ?_
      rintro e w9 ⟨rfl, hb9⟩
      go_wp2
      go_ret
      exact ⟨rfl, below_step hB8 hb9⟩
    · have hb' : 1048576 < m := by omega
      clear hbm
      go_enter Try.func4, Try.ntmps4
      go_wp2
      go_ret
      exact ⟨rfl, Below.refl _ _⟩
  · have hb' : 1048576 < n := by omega
    clear hbn
    go_enter Try.func4, Try.ntmps4
    go_wp2
    go_ret
    exact ⟨rfl, Below.refl _ _⟩

end Go.Proofs.Ytiehommofdjgcaa
