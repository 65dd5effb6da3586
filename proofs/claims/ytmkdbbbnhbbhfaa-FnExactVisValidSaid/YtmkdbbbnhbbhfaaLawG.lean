/-
  The walks of laws.FnExactGainsValid and FnExactVisValid.
-/
import Derived.Test.YtmkdbbbnhbbhfaaVisW
import Derived.Test.YtmkdbbbnhbbhfaaToVis
namespace Go.Proofs.Ytmkdbbbnhbbhfaa
open Go.RowKit
set_option linter.unusedVariables false

set_option maxHeartbeats 2000000 in
theorem walkFnExactGainsValid (w : World) (N : Int) (_ : (Lit.int .i64 N).wf = true) (A : Option Addr) (n c : Nat) (ps : List (Int × Int)) (hz : Prs w A n ps) (hl : n ≤ maxLen ∧ n ≤ c) (_ : ∀ j, (Lit.int .i64 (px ps j)).wf = true ∧ (Lit.int .i64 (py ps j)).wf = true) :
    Calls Try.prog 3 #[.int .i64 N, .slice A n c] w fun e w' => e = .returned (.bool true) ∧ Below w.heap.size w w' := by
  obtain ⟨hl, hcap⟩ := hl
  unfold maxLen at hl
  by_cases hb : n ≤ 1048576
  · have HL := Lib.hid hz.len
    go_enter Try.func3, Try.ntmps3
    go_wp2_with fail
    refine (szVisS_any _ _ _ _ hb).mono ?_
    rintro e w' ⟨rfl, rfl⟩
    go_wp2_with fail
    refine (toVisS_any _ _ _ ps _ hz hb).mono ?_
    rintro e w1 ⟨A1, n1, c1, rfl, ho1, hb1⟩
    have hn1 : n1 ≤ 1048577 := by have := ho1.len; have := HL.out; omega
    go_wp2_with fail
    refine (sGainsV_any _ _ _ _ ps _ ho1.prs hn1).mono ?_
    rintro e w' ⟨rfl, rfl⟩
    go_wp2_with fail
    refine (toVisS_any _ _ _ ps _ (hz.below hb1) hb).mono ?_
    rintro e w2 ⟨A2, n2, c2, rfl, ho2, hb2⟩
    have hn2 : n2 ≤ 1048577 := by have := ho2.len; have := HL.out; omega
    have hB2 := below_step hb1 hb2
    go_wp2_with fail
    refine (iGainsV_any _ _ _ _ ps _ ho2.prs hn2).mono ?_
    rintro e w3 ⟨rfl, hb3⟩
    have hB3 := below_step hB2 hb3
    have he := eqP_self ps
    go_wp2_with fail
    refine (toVisS_any _ _ _ ps _ (hz.below hB3) hb).mono ?_
    rintro e w4 ⟨A4, n4, c4, rfl, ho4, hb4⟩
    have hB4 := below_step hB3 hb4
    go_wp2_with fail
    refine (eqVisS_any _ _ _ _ _ _ ps ps _ ((ho2.below hb3).below hb4).prs ho4.prs hn2).mono ?_
    rintro e w5 ⟨rfl, hb5⟩
    go_wp2
    go_ret
    exact ⟨rfl, below_step hB4 hb5⟩
  · have hb' : 1048576 < n := by omega
    clear hb
    go_enter Try.func3, Try.ntmps3
    go_wp2_with fail
    refine (szVisS_big _ _ _ _ hb' (by omega)).mono ?_
    rintro e w' ⟨rfl, rfl⟩
    go_wp2
    go_ret
    exact ⟨rfl, Below.refl _ _⟩

set_option maxHeartbeats 2000000 in
theorem walkFnExactVisValid (w : World) (N : Int) (_ : (Lit.int .i64 N).wf = true) (A : Option Addr) (n c : Nat) (ps : List (Int × Int)) (hz : Prs w A n ps) (hl : n ≤ maxLen ∧ n ≤ c) (_ : ∀ j, (Lit.int .i64 (px ps j)).wf = true ∧ (Lit.int .i64 (py ps j)).wf = true) :
    Calls Try.prog 4 #[.int .i64 N, .slice A n c] w fun e w' => e = .returned (.bool true) ∧ Below w.heap.size w w' := by
  obtain ⟨hl, hcap⟩ := hl
  unfold maxLen at hl
  by_cases hb : n ≤ 1048576
  · have HL := Lib.hid hz.len
    go_enter Try.func4, Try.ntmps4
    go_wp2_with fail
    refine (szVisS_any _ _ _ _ hb).mono ?_
    rintro e w' ⟨rfl, rfl⟩
    go_wp2_with fail
    refine (toVisS_any _ _ _ ps _ hz hb).mono ?_
    rintro e w1 ⟨A1, n1, c1, rfl, ho1, hb1⟩
    have hn1 : n1 ≤ 1048577 := by have := ho1.len; have := HL.out; omega
    go_wp2_with fail
    refine (sVisV_any _ _ _ _ ps _ ho1.prs hn1).mono ?_
    rintro e w' ⟨rfl, rfl⟩
    go_wp2_with fail
    refine (toVisS_any _ _ _ ps _ (hz.below hb1) hb).mono ?_
    rintro e w2 ⟨A2, n2, c2, rfl, ho2, hb2⟩
    have hn2 : n2 ≤ 1048577 := by have := ho2.len; have := HL.out; omega
    have hB2 := below_step hb1 hb2
    go_wp2_with fail
    refine (iVisV_any _ _ _ _ ps _ ho2.prs hn2).mono ?_
    rintro e w3 ⟨rfl, hb3⟩
    have hB3 := below_step hB2 hb3
    have he := eqP_self ps
    go_wp2_with fail
    refine (toVisS_any _ _ _ ps _ (hz.below hB3) hb).mono ?_
    rintro e w4 ⟨A4, n4, c4, rfl, ho4, hb4⟩
    have hB4 := below_step hB3 hb4
    go_wp2_with fail
    refine (eqVisS_any _ _ _ _ _ _ ps ps _ ((ho2.below hb3).below hb4).prs ho4.prs hn2).mono ?_
    rintro e w5 ⟨rfl, hb5⟩
    go_wp2
    go_ret
    exact ⟨rfl, below_step hB4 hb5⟩
  · have hb' : 1048576 < n := by omega
    clear hb
    go_enter Try.func4, Try.ntmps4
    go_wp2_with fail
    refine (szVisS_big _ _ _ _ hb' (by omega)).mono ?_
    rintro e w' ⟨rfl, rfl⟩
    go_wp2
    go_ret
    exact ⟨rfl, Below.refl _ _⟩

end Go.Proofs.Ytmkdbbbnhbbhfaa
