/-
  The walk of laws.FnExactVisPoint.
-/
import Derived.Test.YtkmnjekpogbkkaaVisPs
import Derived.Test.YtkmnjekpogbkkaaToAnt
import Derived.Test.YtkmnjekpogbkkaaToVis
import Derived.Test.YtkmnjekpogbkkaaAntM
import Derived.Test.YtkmnjekpogbkkaaVisM
import Derived.Deep.RegionWith
namespace Go.Proofs.Ytkmnjekpogbkkaa
open Go.RowKit
set_option linter.unusedVariables false

set_option maxHeartbeats 8000000 in
theorem walkFnExactVisPoint (w : World) (A : Option Addr) (n c : Nat) (ps : List (Int × Int)) (hz : Prs w A n ps) (hl : n ≤ maxLen ∧ n ≤ c) (_ : ∀ j, (Lit.int .i64 (px ps j)).wf = true ∧ (Lit.int .i64 (py ps j)).wf = true) (x y : Int) (_ : (Lit.int .i64 x).wf = true) (_ : (Lit.int .i64 y).wf = true) (amp : Int) (_ : (Lit.int .i64 amp).wf = true) :
    Calls Try.prog 9 #[.slice A n c, .agg #[.int .i64 x, .int .i64 y], .int .i64 amp] w fun e w' => e = .returned (.bool true) ∧ Below w.heap.size w w' := by
  obtain ⟨hl, hcap⟩ := hl
  unfold maxLen at hl
  have hba := below_alloc w (.cells #[.int .i64 x, .int .i64 y] 51)
  by_cases hb : n ≤ 1048576
  rotate_left
  · have hb' : 1048576 < n := by omega
    clear hb
    go_enter Try.func9, Try.ntmps9
    go_wp2_with fail
    refine (szAntS_big _ _ _ _ hb' (by omega)).mono ?_
    rintro e w' ⟨rfl, rfl⟩
    go_wp2
    go_ret
    exact ⟨rfl, hba⟩
  have HL := Lib.hid hz.len
  have HV : Hid ((vpV ps x y amp).length ≤ 49) := vpV_len ps x y amp
  have hz0 := hz.below hba
  have hx0 := Box.new w 51 x y
  go_enter Try.func9, Try.ntmps9
  go_wp2_with fail
  refine (szAntS_any _ _ _ _ hb).mono ?_
  rintro e w' ⟨rfl, rfl⟩
  go_wp2
  generalize w.alloc (.cells #[.int .i64 x, .int .i64 y] 51) = W at hba hz0 hx0 ⊢
  have q1 := hx0.2.1
  have q2 := hx0.2.2
  have hLW := hx0.1
  go_region_with (first | (go_at_call 26; refine (toAntS_any _ _ _ ps _ hz0.drew hb).mono ?_; rintro e w1 ⟨A1, n1, c1, rfl, ho1, hb1⟩; have q3 := (hx0.drew.below hb1).2.1; have q4 := (hx0.drew.below hb1).2.2; have hn1 : n1 ≤ 1048577 := by (have := ho1.len; have := HL.out; omega)) | (go_at_call 27; refine (toAnt_any _ _ _).mono ?_; rintro e w2 ⟨rfl, hb2⟩) | (go_at_call 12; refine (sVisPoint_any _ _ _ ps _ _ _ _ (ho1.below hb2).prs hn1 ho1.cap).mono ?_; rintro e w3 ⟨A3, n3, c3, rfl, ho3, hb3⟩))
  all_goals
    have hW0 : w.heap.size ≤ w2.heap.size := Nat.le_of_lt ((hx0.drew.below hb1).below hb2).1
    have hW1 : w.heap.size < w2.heap.size := ((hx0.drew.below hb1).below hb2).1
    have B3 := below_step (below_step (below_step (below_drew hba) hb1) hb2) hb3
    have hx3 := ((hx0.drew.below hb1).below hb2).below hb3
    clear hx0 hz0 q1 q2
    try clear q3 q4
    generalize hOK : vpOk ps x y amp = ok
    have HOK := Lib.hid hOK
    clear hOK
    have H3 := Lib.hid ho3.lt
    go_wp2_with fail
    refine (toAntS_any _ _ _ ps _ (hz.below B3) hb).mono ?_
    rintro e w4 ⟨A4, n4, c4, rfl, ho4, hb4⟩
    have B4 := below_step B3 hb4
    have hn4 : n4 ≤ 1048577 := by have := ho4.len; have := HL.out; omega
    have hc4 := ho4.cap
    have H4 := Lib.hid ho4.lt
    have hx4 := hx3.below hb4
    have q1 := hx4.2.1
    have q2 := hx4.2.2
    go_wp2_with fail
    refine (toAnt_any _ _ _).mono ?_
    rintro e w5 ⟨rfl, hb5⟩
    have B5 := below_step B4 hb5
    go_wp2_with fail
    refine (iVisPoint_any _ _ _ ps _ _ _ _ (ho4.below hb5).prs hn4 hc4).mono ?_
    rintro e w6 ⟨A6, n6, c6, he, ho6, hb6⟩
    rw [HOK.out] at he
    subst he
    have B6 := below_step B5 hb6
    have hn6 : n6 ≤ 1048577 := by have := ho6.len; have := HV.out; omega
    have H6 := Lib.hid ho6.lt
    have x6 := (hx4.below hb5).below hb6
    have o36 := ((ho3.below hb4).below hb5).below hb6
    have o46 := (ho4.below hb5).below hb6
    clear q1 q2
    have hEq := eqP_self (vpV ps x y amp)
    go_wp2_with fail
    refine (eqVisS_any _ _ _ _ _ _ _ _ _ ho6.prs o36.prs hn6).mono ?_
    rintro e w7 ⟨rfl, hb7⟩
    have B7 := below_step B6 hb7
    go_wp2_with fail
    refine (toAntS_any _ _ _ ps _ (hz.below B7) hb).mono ?_
    rintro e w8 ⟨A8, n8, c8, rfl, ho8, hb8⟩
    have B8 := below_step B7 hb8
    have o48 := (o46.below hb7).below hb8
    have hEz := eqP_self ps
    go_wp2_with fail
    refine (eqAntS_any _ _ _ _ _ _ _ _ _ o48.prs ho8.prs hn4).mono ?_
    rintro e w9 ⟨rfl, hb9⟩
    have B9 := below_step B8 hb9
    have o49 := o48.below hb9
    have o69 := ((ho6.below hb7).below hb8).below hb9
    have o39 := ((o36.below hb7).below hb8).below hb9
    have x9 := ((x6.below hb7).below hb8).below hb9
    go_wp2_with fail
    refine (markAntS_any _ _ _ _ _ _ _ o49 hn4 (by omega) (by omega)).mono ?_
    rintro e wa ⟨rfl, oma, hga⟩
    have hsz2 := hb3.size
    have hsz3 := hb4.size
    have hsz4 := hb5.size
    have hsz5 := hb6.size
    have Ba := B9.grown hga B9.size (fun k e => by have := (H4.out k e).1; omega)
    have o3a := o39.far hga (fun k e e' => by have := (H3.out k e).2; have := (H4.out k e').1; omega)
    have o6a := o69.far hga (fun k e e' => by have := (H6.out k e).1; have := (H4.out k e').2; omega)
    have xa := box_far' x9 hga (fun k e => by have := (H4.out k e).1; omega)
    go_wp2_with fail
    refine (eqVisS_any _ _ _ _ _ _ _ _ _ o6a.prs o3a.prs hn6).mono ?_
    rintro e wb ⟨rfl, hbb⟩
    have Bb := below_step Ba hbb
    have o6b := o6a.below hbb
    have o3b := o3a.below hbb
    have xb := xa.below hbb
    cases ok
    all_goals
      go_wp2_with fail
      refine (markVisS_any _ _ _ _ _ _ _ o6b hn6 (by omega) (by omega)).mono ?_
      rintro e wc ⟨rfl, omc, hgc⟩
      have Bc := Bb.grown hgc Bb.size (fun k e => by have := (H6.out k e).1; omega)
      have o3c := o3b.far hgc (fun k e e' => by have := (H3.out k e).2; have := (H6.out k e').1; omega)
      have xc := box_far' xb hgc (fun k e => by have := (H6.out k e).1; omega)
      go_wp2_with fail
      refine (heldVisS_any _ _ _ _ _ omc.prs hn6 (by omega) (by omega)).mono ?_
      rintro e w' ⟨rfl, rfl⟩
      go_wp2
      have hzc := hz.below Bc
      have q1 := xc.2.1
      have q2 := xc.2.2
      go_region_with (first | (go_at_call 26; refine (toAntS_any _ _ _ ps _ hzc.drew hb).mono ?_; rintro e y1 ⟨D1, m1, d1, rfl, hp1, hy1⟩; have q3 := (xc.drew.below hy1).2.1; have q4 := (xc.drew.below hy1).2.2; have hm1 : m1 ≤ 1048577 := by (have := hp1.len; have := HL.out; omega)) | (go_at_call 27; refine (toAnt_any _ _ _).mono ?_; rintro e y2 ⟨rfl, hy2⟩) | (go_at_call 11; refine (iVisPoint_any _ _ _ ps _ _ _ _ (hp1.below hy2).prs hm1 hp1.cap).mono ?_; rintro e y3 ⟨D3, m3, d3, he, hp3, hy3⟩; rw [HOK.out] at he; subst he))
      all_goals
        have Y3 := below_step (below_step (below_step (below_drew Bc) hy1) hy2) hy3
        have hm3 : m3 ≤ 1048577 := by have := hp3.len; have := HV.out; omega
        have o3d : Prs y3 A3 n3 (vpV ps x y amp) := (((o3c.prs.drew).below hy1).below hy2).below hy3
        have omd : Prs y3 A6 n6 (marksP 1 n6) := (((omc.prs.drew).below hy1).below hy2).below hy3
        clear q1 q2
        try clear q3 q4
        go_wp2_with fail
        refine (eqVisS_any _ _ _ _ _ _ _ _ _ hp3.prs o3d hm3).mono ?_
        rintro e y4 ⟨rfl, hy4⟩
        have Y4 := below_step Y3 hy4
        go_wp2_with fail
        refine (heldVisS_any _ _ _ _ _ (omd.below hy4) hn6 (by omega) (by omega)).mono ?_
        rintro e w' ⟨rfl, rfl⟩
        go_wp2
        go_ret
        exact ⟨rfl, Y4⟩

end Go.Proofs.Ytkmnjekpogbkkaa
