/-
  The walk of laws.FnExactDelayPhase.
-/
import Derived.Test.YtjjogggallapjaaDelayP
import Derived.Test.YtjjogggallapjaaToAnt
import Derived.Deep.RegionWith
namespace Go.Proofs.Ytjjogggallapjaa
open Go.RowKit
set_option linter.unusedVariables false

set_option maxHeartbeats 4000000 in
theorem walkFnExactDelayPhase (w : World) (A : Option Addr) (n c : Nat) (ps : List (Int × Int)) (hz : Prs w A n ps) (hl : n ≤ maxLen ∧ n ≤ c) (_ : ∀ j, (Lit.int .i64 (px ps j)).wf = true ∧ (Lit.int .i64 (py ps j)).wf = true) (i : Int) (_ : (Lit.int .i64 i).wf = true) (j : Int) (_ : (Lit.int .i64 j).wf = true) (x y : Int) (_ : (Lit.int .i64 x).wf = true) (_ : (Lit.int .i64 y).wf = true) :
    Calls Try.prog 9 #[.slice A n c, .int .i64 i, .int .i64 j, .agg #[.int .i64 x, .int .i64 y]] w fun e w' => e = .returned (.bool true) ∧ Below w.heap.size w w' := by
  obtain ⟨hl, hcap⟩ := hl
  unfold maxLen at hl
  have hba := below_alloc w (.cells #[.int .i64 x, .int .i64 y] 24)

  by_cases hb : n ≤ 1048576
  rotate_left
  · have hb' : 1048576 < n := by omega
    clear hb
    go_enter Try.func9, Try.ntmps9
    go_wp2_with fail
    refine (szAntS_big _ _ _ _ hb' (by omega)).mono ?_
    rintro e w' ⟨rfl, rfl⟩
    go_wp2
    go_ret
    exact ⟨rfl, hba⟩
  have HL := Lib.hid hz.len
  have hz0 := hz.below hba
  have hx0 := Box.new w 24 x y

  go_enter Try.func9, Try.ntmps9
  go_wp2_with fail
  refine (szAntS_any _ _ _ _ hb).mono ?_
  rintro e w' ⟨rfl, rfl⟩
  go_wp2
  generalize w.alloc (.cells #[.int .i64 x, .int .i64 y] 24) = W at hba hz0 hx0 ⊢
  have q1 := hx0.2.1
  have q2 := hx0.2.2

  go_region_with (first | (go_at_call 16; refine (toAntS_any _ _ _ ps _ hz0.drew hb).mono ?_; rintro e w1 ⟨A1, n1, c1, rfl, ho1, hb1⟩; have q3 := (hx0.drew.below hb1).2.1; have q4 := (hx0.drew.below hb1).2.2; have hn1 : n1 ≤ 1048577 := by (have := ho1.len; have := HL.out; omega)) | (go_at_call 17; refine (toAnt_any _ _ _).mono ?_; rintro e w2 ⟨rfl, hb2⟩) | (go_at_call 24; refine (sDelayPhase_any _ _ _ ps _ _ _ _ _ (ho1.below hb2).prs hn1 ho1.cap).mono ?_; rintro e w3 ⟨rfl, hb3⟩))
  all_goals
    have B3 := below_step (below_step (below_step (below_drew hba) hb1) hb2) hb3
    have hx3 := ((hx0.drew.below hb1).below hb2).below hb3

    clear hx0 hz0 q1 q2
    try clear q3 q4
    try clear q5 q6
    go_wp2_with fail
    refine (toAntS_any _ _ _ ps _ (hz.below B3) hb).mono ?_
    rintro e w4 ⟨A4, n4, c4, rfl, ho4, hb4⟩
    have B4 := below_step B3 hb4
    have hn4 : n4 ≤ 1048577 := by have := ho4.len; have := HL.out; omega
    have hx4 := hx3.below hb4

    have B5 := B4
    have hx5 := hx4
    have ho45 := ho4

    have q1 := hx5.2.1
    have q2 := hx5.2.2
    go_wp2_with fail
    refine (toAnt_any _ _ _).mono ?_
    rintro e w6 ⟨rfl, hb6⟩
    have B6 := below_step B5 hb6
    go_wp2_with fail
    refine (iDelayPhase_any _ _ _ ps _ _ _ _ _ (ho45.below hb6).prs hn4 ho4.cap).mono ?_
    rintro e w7 ⟨rfl, hb7⟩
    have B7 := below_step B6 hb7
    have hE := eqP_self ps

    go_wp2_with fail
    refine (toAntS_any _ _ _ ps _ (hz.below B7) hb).mono ?_
    rintro e w8 ⟨A8, n8, c8, rfl, ho8, hb8⟩
    have B8 := below_step B7 hb8
    go_wp2_with fail
    refine (eqAntS_any _ _ _ _ _ _ ps ps _ (((ho45.below hb6).below hb7).below hb8).prs ho8.prs hn4).mono ?_
    rintro e w9 ⟨rfl, hb9⟩
    have B9 := below_step B8 hb9

    go_wp2
    go_ret
    exact ⟨rfl, B9⟩

end Go.Proofs.Ytjjogggallapjaa
