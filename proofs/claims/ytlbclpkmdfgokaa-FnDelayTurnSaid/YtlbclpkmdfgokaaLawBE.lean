/-
  The walk of laws.FnDelayShift, FnDelayTurn.
-/
import Derived.Test.YtlbclpkmdfgokaaArrF
import Derived.Test.YtlbclpkmdfgokaaDrawDba
namespace Go.Proofs.Ytlbclpkmdfgokaa
open Go.RowKit
set_option linter.unusedVariables false


set_option maxHeartbeats 4000000 in
theorem walkFnDelayShift (w : World) (A : Option Addr) (n c : Nat) (bs : List Int) (hz : IntsK .u8 w A n bs) (hl : n ≤ maxLen ∧ n ≤ c) (hf : ∀ j, (Lit.int .u8 (el bs j)).wf = true) :
    Calls Try.prog 13 #[.slice A n c] w fun e w' => e = .returned (.bool true) ∧ Below w.heap.size w w' := by
  obtain ⟨hl, hcap⟩ := hl
  unfold maxLen at hl
  by_cases hb : n ≤ 1048576
  · have HF := Lib.hid (bytes_in hf)
    clear hf
    go_enter Try.func13, Try.ntmps13
    go_wp2_with fail
    refine (DrawDelayBase_any _ _ _ bs _ hz hb hcap HF.out).mono ?_
    rintro e w0 ⟨A1, n1, c1, ps, i, j, x, y, rfl, h0, hn1, hn2, B0⟩
    have hc1 := h0.cap
    have HL := Lib.hid h0.len
    have hp0 := h0
    clear h0
    have ha0 := below_alloc w0 (.cells #[.int .i64 x, .int .i64 y] 27)
    have dn := Box.new w0 27 x y
    have B1 := below_step B0 ha0
    have hp1 := hp0.below ha0
    clear hp0
    have d1 := dn
    clear dn
    have dx := d1.2.1
    have dy := d1.2.2
    go_wp2_with fail
    refine (iDelayBase_any _ _ _ ps _ _ _ _ _ hp1.prs (by omega) hc1).mono ?_
    rintro e w2 ⟨rfl, hb2⟩
    have B2 := below_step B1 hb2
    have hp2 := hp1.below hb2
    clear hp1
    have d2 := d1.below hb2
    clear d1
    clear dx dy
    have dx := d2.2.1
    have dy := d2.2.2
    go_wp2_with fail
    refine (sDelayBase_any _ _ _ ps _ _ _ _ _ hp2.prs (by omega) hc1).mono ?_
    rintro e w3 ⟨rfl, hb3⟩
    have B3 := below_step B2 hb3
    have hp3 := hp2.below hb3
    clear hp2
    have d3 := d2.below hb3
    clear d2
    clear dx dy
    have dx := d3.2.1
    have dy := d3.2.2
    have hd := db_in ps i j x y
    cases hok : dbOk ps i j x y
    · go_wp2
      go_ret
      exact ⟨rfl, B3⟩
    · have hok' := hok
      obtain ⟨hdi, hdj⟩ := db_true.1 hok'
      obtain ⟨hav, hia, hpl⟩ := do_true.1 hdi
      have hpb := plc_true.1 hpl
      obtain ⟨⟨hx1, hx2⟩, ⟨hy1, hy2⟩⟩ := hpb
      have HS : Hid (asOk ps 3 (-5) = true → dbOk (ps.map (shF 3 (-5))) i j x y = true ∧ dbV (ps.map (shF 3 (-5))) i j x y = dbV ps i j x y) := fun h => db_shift hok' h
      have HV1 : Hid ((asV ps 3 (-5)).length ≤ 1048576) := asV_len _ _ _ (by rw [HL.out]; omega)
      clear hav hia hpl hdi hdj hok'
      generalize dbV ps i j x y = D at hd HS ⊢
      go_wp2_with fail
      refine (iShift_any _ _ _ ps _ _ _ hp3.prs (by omega) hc1).mono ?_
      rintro e wa ⟨Aa, na, ca, he, hoa, hba⟩
      have Ba := below_step B3 hba
      have hna : na ≤ 1048577 := by have := hoa.len; have := HV1.out; omega
      have hca := hoa.cap
      have da := d3.below hba
      clear dx dy
      have dx := da.2.1
      have dy := da.2.2
      cases hs : asOk ps 3 (-5)
      · rw [hs] at he
        subst he
        rw [as_no hs] at hoa
        clear hs
        go_wp2_with fail
        refine (iDelayBase_any _ _ _ [] _ _ _ _ _ hoa.prs hna hca).mono ?_
        rintro e wb ⟨rfl, hbb⟩
        go_wp2
        go_ret
        exact ⟨rfl, below_step Ba hbb⟩
      · obtain ⟨e1, e2⟩ := HS.out hs
        have E1 := Lib.hid e1
        have E2 := Lib.hid e2
        rw [hs] at he
        subst he
        rw [as_yes hs] at hoa
        clear hs e1 e2
        go_wp2_with fail
        refine (iDelayBase_any _ _ _ (ps.map (shF 3 (-5))) _ _ _ _ _ hoa.prs hna hca).mono ?_
        rintro e wb ⟨he, hbb⟩
        rw [E1.out, E2.out] at he
        subst he
        go_wp2
        go_ret
        exact ⟨rfl, below_step Ba hbb⟩
  · have hb' : 1048576 < n := by omega
    clear hb
    go_enter Try.func13, Try.ntmps13
    go_wp2
    go_ret
    exact ⟨rfl, Below.refl _ _⟩

set_option maxHeartbeats 4000000 in
theorem walkFnDelayTurn (w : World) (A : Option Addr) (n c : Nat) (bs : List Int) (hz : IntsK .u8 w A n bs) (hl : n ≤ maxLen ∧ n ≤ c) (hf : ∀ j, (Lit.int .u8 (el bs j)).wf = true) :
    Calls Try.prog 14 #[.slice A n c] w fun e w' => e = .returned (.bool true) ∧ Below w.heap.size w w' := by
  obtain ⟨hl, hcap⟩ := hl
  unfold maxLen at hl
  by_cases hb : n ≤ 1048576
  · have HF := Lib.hid (bytes_in hf)
    clear hf
    go_enter Try.func14, Try.ntmps14
    go_wp2_with fail
    refine (DrawDelayBase_any _ _ _ bs _ hz hb hcap HF.out).mono ?_
    rintro e w0 ⟨A1, n1, c1, ps, i, j, x, y, rfl, h0, hn1, hn2, B0⟩
    have hc1 := h0.cap
    have HL := Lib.hid h0.len
    have hp0 := h0
    clear h0
    have ha0 := below_alloc w0 (.cells #[.int .i64 x, .int .i64 y] 27)
    have dn := Box.new w0 27 x y
    have B1 := below_step B0 ha0
    have hp1 := hp0.below ha0
    clear hp0
    have d1 := dn
    clear dn
    have dx := d1.2.1
    have dy := d1.2.2
    go_wp2_with fail
    refine (iDelayBase_any _ _ _ ps _ _ _ _ _ hp1.prs (by omega) hc1).mono ?_
    rintro e w2 ⟨rfl, hb2⟩
    have B2 := below_step B1 hb2
    have hp2 := hp1.below hb2
    clear hp1
    have d2 := d1.below hb2
    clear d1
    clear dx dy
    have dx := d2.2.1
    have dy := d2.2.2
    go_wp2_with fail
    refine (sDelayBase_any _ _ _ ps _ _ _ _ _ hp2.prs (by omega) hc1).mono ?_
    rintro e w3 ⟨rfl, hb3⟩
    have B3 := below_step B2 hb3
    have hp3 := hp2.below hb3
    clear hp2
    have d3 := d2.below hb3
    clear d2
    clear dx dy
    have dx := d3.2.1
    have dy := d3.2.2
    have hd := db_in ps i j x y
    cases hok : dbOk ps i j x y
    · go_wp2
      go_ret
      exact ⟨rfl, B3⟩
    · have hok' := hok
      obtain ⟨hdi, hdj⟩ := db_true.1 hok'
      obtain ⟨hav, hia, hpl⟩ := do_true.1 hdi
      have hpb := plc_true.1 hpl
      obtain ⟨⟨hx1, hx2⟩, ⟨hy1, hy2⟩⟩ := hpb
      have e0 : atOk ps 1 = true := at_true.2 ⟨hav, by omega⟩
      have E0 := Lib.hid e0
      have E9 : Hid (atV ps 1 = ps.map tuF) := at_yes e0
      obtain ⟨e1, e2⟩ := db_turn hok'
      have E1 := Lib.hid e1
      have E2 := Lib.hid e2
      clear e0 e1 e2 hav hia hpl hdi hdj hok'
      generalize dbV ps i j x y = D at hd E2 ⊢
      go_wp2_with fail
      refine (iTurn_any _ _ _ ps _ _ hp3.prs (by omega) hc1).mono ?_
      rintro e w4 ⟨Au, nu, cu, he, uo, hb4⟩
      rw [E0.out] at he
      subst he
      have B4 := below_step B3 hb4
      have hp4 := hp3.below hb4
      clear hp3
      have d4 := d3.below hb4
      clear d3
      clear dx dy
      have dx := d4.2.1
      have dy := d4.2.2
      rw [E9.out] at uo
      have hun : nu ≤ 1048577 := by have := uo.len; rw [List.length_map] at this; have := HL.out; omega
      have huc := uo.cap
      have u4 := uo
      clear uo
      go_wp2_with fail
      refine (iDelayBase_any _ _ _ (ps.map tuF) _ _ _ _ _ u4.prs hun huc).mono ?_
      rintro e w5 ⟨he, hb5⟩
      rw [E1.out, E2.out] at he
      subst he
      have B5 := below_step B4 hb5
      have hp5 := hp4.below hb5
      clear hp4
      have u5 := u4.below hb5
      clear u4
      have d5 := d4.below hb5
      clear d4
      clear dx dy
      have dx := d5.2.1
      have dy := d5.2.2
      go_wp2
      go_ret
      exact ⟨rfl, B5⟩
  · have hb' : 1048576 < n := by omega
    clear hb
    go_enter Try.func14, Try.ntmps14
    go_wp2
    go_ret
    exact ⟨rfl, Below.refl _ _⟩

end Go.Proofs.Ytlbclpkmdfgokaa
