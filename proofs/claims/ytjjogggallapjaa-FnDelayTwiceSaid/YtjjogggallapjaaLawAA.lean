/-
  The walk of laws.FnDelay, FnDelayAdd, FnDelayTwice.
-/
import Derived.Test.YtjjogggallapjaaDelay
import Derived.Test.YtjjogggallapjaaDrawDof
namespace Go.Proofs.Ytjjogggallapjaa
open Go.RowKit
set_option linter.unusedVariables false

theorem do_neg {ps : List (Int × Int)} {i x y : Int} (h : doOk ps i x y = true) : doV ps i (-x) (-y) = -(doV ps i x y) := by
  obtain ⟨h1, h2, h3⟩ := do_true.1 h
  have := plc_true.1 h3
  rw [do_yes h, do_yes (do_true.2 ⟨h1, h2, plc_true.2 (by omega)⟩), Int.mul_neg, Int.mul_neg]; omega
theorem do_zero (ps : List (Int × Int)) (i : Int) : doV ps i 0 0 = 0 := by
  cases h : doOk ps i 0 0
  · exact do_no h
  · rw [do_yes h]; simp
theorem do_x {ps : List (Int × Int)} {i x y : Int} (h : doOk ps i x y = true) : doOk ps i x 0 = true := by
  obtain ⟨h1, h2, h3⟩ := do_true.1 h
  have := plc_true.1 h3
  exact do_true.2 ⟨h1, h2, plc_true.2 (by omega)⟩
theorem do_y {ps : List (Int × Int)} {i x y : Int} (h : doOk ps i x y = true) : doOk ps i 0 y = true := by
  obtain ⟨h1, h2, h3⟩ := do_true.1 h
  have := plc_true.1 h3
  exact do_true.2 ⟨h1, h2, plc_true.2 (by omega)⟩
theorem do_add {ps : List (Int × Int)} {i x y : Int} (h : doOk ps i x y = true) : doV ps i x 0 + doV ps i 0 y = doV ps i x y := by
  rw [do_yes h, do_yes (do_x h), do_yes (do_y h)]; simp
theorem do_two {ps : List (Int × Int)} {i x y : Int} (h : doOk ps i x y = true) (h' : doOk ps i (2 * x) (2 * y) = true) : doV ps i (2 * x) (2 * y) = 2 * doV ps i x y := by
  rw [do_yes h, do_yes h', Int.mul_left_comm, Int.mul_left_comm _ 2 y, ← Int.mul_add]

set_option maxHeartbeats 4000000 in
theorem walkFnDelay (w : World) (A : Option Addr) (n c : Nat) (bs : List Int) (hz : IntsK .u8 w A n bs) (hl : n ≤ maxLen ∧ n ≤ c) (hf : ∀ j, (Lit.int .u8 (el bs j)).wf = true) :
    Calls Try.prog 5 #[.slice A n c] w fun e w' => e = .returned (.bool true) ∧ Below w.heap.size w w' := by
  obtain ⟨hl, hcap⟩ := hl
  unfold maxLen at hl
  by_cases hb : n ≤ 1048576
  · have HF := Lib.hid (bytes_in hf)
    clear hf
    go_enter Try.func5, Try.ntmps5
    go_wp2_with fail
    refine (DrawDelayOf_any _ _ _ bs _ hz hb hcap HF.out).mono ?_
    rintro e w0 ⟨A1, n1, c1, ps, i, x, y, rfl, h0, hn1, hn2, B0⟩
    have hc1 := h0.cap
    have HL := Lib.hid h0.len
    have hp0 := h0.prs
    have ha0 := below_alloc w0 (.cells #[.int .i64 x, .int .i64 y] 30)
    have dn := Box.new w0 30 x y
    have B1 := below_step B0 ha0
    have hp1 := hp0.below ha0
    clear hp0
    have d1 := dn
    clear dn
    have dx := d1.2.1
    have dy := d1.2.2
    go_wp2_with fail
    refine (iDelayOf_any _ _ _ ps _ _ _ _ hp1 (by omega) hc1).mono ?_
    rintro e w2 ⟨rfl, hb2⟩
    have B2 := below_step B1 hb2
    have hp2 := hp1.below hb2
    clear hp1
    have d2 := d1.below hb2
    clear d1
    clear dx dy
    have dx := d2.2.1
    have dy := d2.2.2
    go_wp2_with fail
    refine (sDelayOf_any _ _ _ ps _ _ _ _ hp2 (by omega) hc1).mono ?_
    rintro e w3 ⟨rfl, hb3⟩
    have B3 := below_step B2 hb3
    have hp3 := hp2.below hb3
    clear hp2
    have d3 := d2.below hb3
    clear d2
    clear dx dy
    have dx := d3.2.1
    have dy := d3.2.2
    have hd := do_in ps i x y
    cases hok : doOk ps i x y
    · go_wp2
      go_ret
      exact ⟨rfl, B3⟩
    · obtain ⟨hav, hia, hpl⟩ := do_true.1 hok
      have hpb := plc_true.1 hpl
      obtain ⟨⟨hx1, hx2⟩, ⟨hy1, hy2⟩⟩ := hpb
      have E1 : Hid (doOk ps i (-x) (-y) = true) := do_true.2 ⟨hav, hia, plc_true.2 (by omega)⟩
      have E2 : Hid (doV ps i (-x) (-y) = -(doV ps i x y)) := do_neg hok
      have E3 : Hid (doOk ps i 0 0 = true) := do_true.2 ⟨hav, hia, plc_true.2 (by omega)⟩
      have E4 : Hid (doV ps i 0 0 = 0) := do_zero ps i
      clear hav hia hpl
      generalize doV ps i x y = D at hd E2 ⊢
      go_wp2_with fail
      refine (iDelayOf_any _ _ _ ps _ _ _ _ hp3 (by omega) hc1).mono ?_
      rintro e w4 ⟨he, hb4⟩
      rw [E1.out, E2.out] at he
      subst he
      have B4 := below_step B3 hb4
      have hp4 := hp3.below hb4
      clear hp3
      have d4 := d3.below hb4
      clear d3
      clear dx dy
      have dx := d4.2.1
      have dy := d4.2.2
      go_wp2_with fail
      refine (iDelayOf_any _ _ _ ps _ _ _ _ hp4 (by omega) hc1).mono ?_
      rintro e w5 ⟨he, hb5⟩
      rw [E3.out, E4.out] at he
      subst he
      have B5 := below_step B4 hb5
      have hp5 := hp4.below hb5
      clear hp4
      have d5 := d4.below hb5
      clear d4
      clear dx dy
      have dx := d5.2.1
      have dy := d5.2.2
      go_wp2
      go_ret
      exact ⟨rfl, B5⟩
  · have hb' : 1048576 < n := by omega
    clear hb
    go_enter Try.func5, Try.ntmps5
    go_wp2
    go_ret
    exact ⟨rfl, Below.refl _ _⟩

set_option maxHeartbeats 4000000 in
theorem walkFnDelayAdd (w : World) (A : Option Addr) (n c : Nat) (bs : List Int) (hz : IntsK .u8 w A n bs) (hl : n ≤ maxLen ∧ n ≤ c) (hf : ∀ j, (Lit.int .u8 (el bs j)).wf = true) :
    Calls Try.prog 6 #[.slice A n c] w fun e w' => e = .returned (.bool true) ∧ Below w.heap.size w w' := by
  obtain ⟨hl, hcap⟩ := hl
  unfold maxLen at hl
  by_cases hb : n ≤ 1048576
  · have HF := Lib.hid (bytes_in hf)
    clear hf
    go_enter Try.func6, Try.ntmps6
    go_wp2_with fail
    refine (DrawDelayOf_any _ _ _ bs _ hz hb hcap HF.out).mono ?_
    rintro e w0 ⟨A1, n1, c1, ps, i, x, y, rfl, h0, hn1, hn2, B0⟩
    have hc1 := h0.cap
    have HL := Lib.hid h0.len
    have hp0 := h0.prs
    have ha0 := below_alloc w0 (.cells #[.int .i64 x, .int .i64 y] 30)
    have dn := Box.new w0 30 x y
    have B1 := below_step B0 ha0
    have hp1 := hp0.below ha0
    clear hp0
    have d1 := dn
    clear dn
    have dx := d1.2.1
    have dy := d1.2.2
    go_wp2_with fail
    refine (iDelayOf_any _ _ _ ps _ _ _ _ hp1 (by omega) hc1).mono ?_
    rintro e w2 ⟨rfl, hb2⟩
    have B2 := below_step B1 hb2
    have hp2 := hp1.below hb2
    clear hp1
    have d2 := d1.below hb2
    clear d1
    clear dx dy
    have dx := d2.2.1
    have dy := d2.2.2
    go_wp2_with fail
    refine (sDelayOf_any _ _ _ ps _ _ _ _ hp2 (by omega) hc1).mono ?_
    rintro e w3 ⟨rfl, hb3⟩
    have B3 := below_step B2 hb3
    have hp3 := hp2.below hb3
    clear hp2
    have d3 := d2.below hb3
    clear d2
    clear dx dy
    have dx := d3.2.1
    have dy := d3.2.2
    have hd := do_in ps i x y
    cases hok : doOk ps i x y
    · go_wp2
      go_ret
      exact ⟨rfl, B3⟩
    · obtain ⟨hav, hia, hpl⟩ := do_true.1 hok
      have hpb := plc_true.1 hpl
      obtain ⟨⟨hx1, hx2⟩, ⟨hy1, hy2⟩⟩ := hpb
      have E1 : Hid (doOk ps i x 0 = true) := do_x hok
      have E3 : Hid (doOk ps i 0 y = true) := do_y hok
      have E2 : Hid (doV ps i x 0 + doV ps i 0 y = doV ps i x y) := do_add hok
      have hd1 := do_in ps i x 0
      have hd2 := do_in ps i 0 y
      clear hav hia hpl
      generalize doV ps i x y = D at hd E2 ⊢
      go_wp2_with fail
      refine (iDelayOf_any _ _ _ ps _ _ _ _ hp3 (by omega) hc1).mono ?_
      rintro e w4 ⟨he, hb4⟩
      rw [E1.out] at he
      subst he
      have B4 := below_step B3 hb4
      have hp4 := hp3.below hb4
      clear hp3
      have d4 := d3.below hb4
      clear d3
      clear dx dy
      have dx := d4.2.1
      have dy := d4.2.2
      go_wp2_with fail
      refine (iDelayOf_any _ _ _ ps _ _ _ _ hp4 (by omega) hc1).mono ?_
      rintro e w5 ⟨he, hb5⟩
      rw [E3.out] at he
      subst he
      have B5 := below_step B4 hb5
      have hp5 := hp4.below hb5
      clear hp4
      have d5 := d4.below hb5
      clear d4
      clear dx dy
      have dx := d5.2.1
      have dy := d5.2.2
      have e2 := E2.out
      generalize doV ps i x 0 = D1 at hd1 e2 ⊢
      generalize doV ps i 0 y = D2 at hd2 e2 ⊢
      subst e2
      go_wp2
      go_ret
      exact ⟨rfl, B5⟩
  · have hb' : 1048576 < n := by omega
    clear hb
    go_enter Try.func6, Try.ntmps6
    go_wp2
    go_ret
    exact ⟨rfl, Below.refl _ _⟩

set_option maxHeartbeats 4000000 in
theorem walkFnDelayTwice (w : World) (A : Option Addr) (n c : Nat) (bs : List Int) (hz : IntsK .u8 w A n bs) (hl : n ≤ maxLen ∧ n ≤ c) (hf : ∀ j, (Lit.int .u8 (el bs j)).wf = true) :
    Calls Try.prog 7 #[.slice A n c] w fun e w' => e = .returned (.bool true) ∧ Below w.heap.size w w' := by
  obtain ⟨hl, hcap⟩ := hl
  unfold maxLen at hl
  by_cases hb : n ≤ 1048576
  · have HF := Lib.hid (bytes_in hf)
    clear hf
    go_enter Try.func7, Try.ntmps7
    go_wp2_with fail
    refine (DrawDelayOf_any _ _ _ bs _ hz hb hcap HF.out).mono ?_
    rintro e w0 ⟨A1, n1, c1, ps, i, x, y, rfl, h0, hn1, hn2, B0⟩
    have hc1 := h0.cap
    have HL := Lib.hid h0.len
    have hp0 := h0.prs
    have ha0 := below_alloc w0 (.cells #[.int .i64 x, .int .i64 y] 30)
    have dn := Box.new w0 30 x y
    have B1 := below_step B0 ha0
    have hp1 := hp0.below ha0
    clear hp0
    have d1 := dn
    clear dn
    have dx := d1.2.1
    have dy := d1.2.2
    go_wp2_with fail
    refine (iDelayOf_any _ _ _ ps _ _ _ _ hp1 (by omega) hc1).mono ?_
    rintro e w2 ⟨rfl, hb2⟩
    have B2 := below_step B1 hb2
    have hp2 := hp1.below hb2
    clear hp1
    have d2 := d1.below hb2
    clear d1
    clear dx dy
    have dx := d2.2.1
    have dy := d2.2.2
    go_wp2_with fail
    refine (sDelayOf_any _ _ _ ps _ _ _ _ hp2 (by omega) hc1).mono ?_
    rintro e w3 ⟨rfl, hb3⟩
    have B3 := below_step B2 hb3
    have hp3 := hp2.below hb3
    clear hp2
    have d3 := d2.below hb3
    clear d2
    clear dx dy
    have dx := d3.2.1
    have dy := d3.2.2
    have hd := do_in ps i x y
    cases hok : doOk ps i x y
    · go_wp2
      go_ret
      exact ⟨rfl, B3⟩
    · obtain ⟨hav, hia, hpl⟩ := do_true.1 hok
      have hpb := plc_true.1 hpl
      obtain ⟨⟨hx1, hx2⟩, ⟨hy1, hy2⟩⟩ := hpb
      have E2 : Hid (doOk ps i (2 * x) (2 * y) = true → doV ps i (2 * x) (2 * y) = 2 * doV ps i x y) := fun h => do_two hok h
      clear hav hia hpl
      generalize doV ps i x y = D at hd E2 ⊢
      go_wp2_with fail
      refine (iDelayOf_any _ _ _ ps _ _ _ _ hp3 (by omega) hc1).mono ?_
      rintro e w4 ⟨he, hb4⟩
      have B4 := below_step B3 hb4
      have hp4 := hp3.below hb4
      clear hp3
      have d4 := d3.below hb4
      clear d3
      clear dx dy
      have dx := d4.2.1
      have dy := d4.2.2
      cases h2 : doOk ps i (2 * x) (2 * y)
      · rw [h2] at he
        subst he
        go_wp2
        go_ret
        exact ⟨rfl, B4⟩
      · rw [h2, E2.out h2] at he
        subst he
        go_wp2
        go_ret
        exact ⟨rfl, B4⟩
  · have hb' : 1048576 < n := by omega
    clear hb
    go_enter Try.func7, Try.ntmps7
    go_wp2
    go_ret
    exact ⟨rfl, Below.refl _ _⟩

end Go.Proofs.Ytjjogggallapjaa
