/-
  The walk of laws.FnExactDelayLoop.
-/
import Derived.Test.YtjjogggallapjaaDelayL
import Derived.Test.YtjjogggallapjaaToAnt
import Derived.Test.YtjjogggallapjaaToInts
import Derived.Deep.RegionWith
namespace Go.Proofs.Ytjjogggallapjaa
open Go.RowKit
set_option linter.unusedVariables false

set_option maxHeartbeats 4000000 in
theorem walkFnExactDelayLoop (w : World) (A : Option Addr) (n c : Nat) (ps : List (Int × Int)) (hz : Prs w A n ps) (hl : n ≤ maxLen ∧ n ≤ c) (_ : ∀ j, (Lit.int .i64 (px ps j)).wf = true ∧ (Lit.int .i64 (py ps j)).wf = true) (Z : Option Addr) (m d : Nat) (zs : List Int) (hy : Ints w Z m zs) (hly : m ≤ maxLen ∧ m ≤ d) (_ : ∀ j, (Lit.int .i64 (el zs j)).wf = true) (x y : Int) (_ : (Lit.int .i64 x).wf = true) (_ : (Lit.int .i64 y).wf = true) :
    Calls Try.prog 11 #[.slice A n c, .slice Z m d, .agg #[.int .i64 x, .int .i64 y]] w fun e w' => e = .returned (.bool true) ∧ Below w.heap.size w w' := by
  obtain ⟨hl, hcap⟩ := hl
  unfold maxLen at hl
  have hba := below_alloc w (.cells #[.int .i64 x, .int .i64 y] 24)

  obtain ⟨hly, hcapy⟩ := hly
  unfold maxLen at hly
  by_cases hm : m ≤ 1048576
  rotate_left
  · have hm' : 1048576 < m := by omega
    clear hm
    go_enter Try.func11, Try.ntmps11
    go_wp2
    go_ret
    exact ⟨rfl, hba⟩

  by_cases hb : n ≤ 1048576
  rotate_left
  · have hb' : 1048576 < n := by omega
    clear hb
    go_enter Try.func11, Try.ntmps11
    go_wp2_with fail
    refine (szAntS_big _ _ _ _ hb' (by omega)).mono ?_
    rintro e w' ⟨rfl, rfl⟩
    go_wp2
    go_ret
    exact ⟨rfl, hba⟩
  have HL := Lib.hid hz.len
  have hz0 := hz.below hba
  have hx0 := Box.new w 24 x y
  have hy0 := hy.below hba
  go_enter Try.func11, Try.ntmps11
  go_wp2_with fail
  refine (szAntS_any _ _ _ _ hb).mono ?_
  rintro e w' ⟨rfl, rfl⟩
  go_wp2
  generalize w.alloc (.cells #[.int .i64 x, .int .i64 y] 24) = W at hba hz0 hx0 hy0 ⊢
  have q1 := hx0.2.1
  have q2 := hx0.2.2

  go_region_with (first | (go_at_call 16; refine (toAntS_any _ _ _ ps _ hz0.drew hb).mono ?_; rintro e w1 ⟨A1, n1, c1, rfl, ho1, hb1⟩; have q3 := (hx0.drew.below hb1).2.1; have q4 := (hx0.drew.below hb1).2.2; have hn1 : n1 ≤ 1048577 := by (have := ho1.len; have := HL.out; omega)) | (go_at_call 28; refine (toIntS_any _ _ _ zs _ (hy0.drew.below hb1) hm).mono ?_; rintro e w1b ⟨A1b, n1b, c1b, rfl, ho1b, hb1b⟩; have q5 := ((hx0.drew.below hb1).below hb1b).2.1; have q6 := ((hx0.drew.below hb1).below hb1b).2.2; have hn1b : n1b ≤ 1048577 := by (have := ho1b.len; have := hy.len; omega)) | (go_at_call 17; refine (toAnt_any _ _ _).mono ?_; rintro e w2 ⟨rfl, hb2⟩) | (go_at_call 27; refine (sDelayLoop_any _ _ _ ps _ _ _ zs _ _ _ ((ho1.below hb1b).below hb2).prs hn1 ho1.cap (ho1b.below hb2).ints hn1b).mono ?_; rintro e w3 ⟨rfl, hb3⟩))
  all_goals
    have B3 := below_step (below_step (below_step (below_step (below_drew hba) hb1) hb1b) hb2) hb3
    have hx3 := (((hx0.drew.below hb1).below hb1b).below hb2).below hb3

    clear hx0 hz0 q1 q2
    try clear q3 q4
    try clear q5 q6
    go_wp2_with fail
    refine (toAntS_any _ _ _ ps _ (hz.below B3) hb).mono ?_
    rintro e w4 ⟨A4, n4, c4, rfl, ho4, hb4⟩
    have B4 := below_step B3 hb4
    have hn4 : n4 ≤ 1048577 := by have := ho4.len; have := HL.out; omega
    have hx4 := hx3.below hb4

    go_wp2_with fail
    refine (toIntS_any _ _ _ zs _ (hy.below B4) hm).mono ?_
    rintro e w5 ⟨A5, n5, c5, rfl, ho5, hb5⟩
    have B5 := below_step B4 hb5
    have hn5 : n5 ≤ 1048577 := by have := ho5.len; have := hy.len; omega
    have hx5 := hx4.below hb5
    have ho45 := ho4.below hb5

    have q1 := hx5.2.1
    have q2 := hx5.2.2
    go_wp2_with fail
    refine (toAnt_any _ _ _).mono ?_
    rintro e w6 ⟨rfl, hb6⟩
    have B6 := below_step B5 hb6
    go_wp2_with fail
    refine (iDelayLoop_any _ _ _ ps _ _ _ zs _ _ _ (ho45.below hb6).prs hn4 ho4.cap (ho5.below hb6).ints hn5).mono ?_
    rintro e w7 ⟨rfl, hb7⟩
    have B7 := below_step B6 hb7
    have hE := eqP_self ps
    have hE2 := eqL_self zs
    go_wp2_with fail
    refine (toAntS_any _ _ _ ps _ (hz.below B7) hb).mono ?_
    rintro e w8 ⟨A8, n8, c8, rfl, ho8, hb8⟩
    have B8 := below_step B7 hb8
    go_wp2_with fail
    refine (eqAntS_any _ _ _ _ _ _ ps ps _ (((ho45.below hb6).below hb7).below hb8).prs ho8.prs hn4).mono ?_
    rintro e w9 ⟨rfl, hb9⟩
    have B9 := below_step B8 hb9

    go_wp2_with fail
    refine (toIntS_any _ _ _ zs _ (hy.below B9) hm).mono ?_
    rintro e wa ⟨Aa, na, ca, rfl, hoa, hba'⟩
    have Ba := below_step B9 hba'
    go_wp2_with fail
    refine (eqIntS_any _ _ _ _ _ _ zs zs _ (((((ho5.below hb6).below hb7).below hb8).below hb9).below hba').ints hoa.ints hn5).mono ?_
    rintro e wb ⟨rfl, hbb⟩
    go_wp2
    go_ret
    exact ⟨rfl, below_step Ba hbb⟩

end Go.Proofs.Ytjjogggallapjaa
