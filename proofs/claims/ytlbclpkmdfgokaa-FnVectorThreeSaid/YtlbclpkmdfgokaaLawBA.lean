/-
  The walk of laws.FnVector, FnVectorThree.
-/
import Derived.Test.YtlbclpkmdfgokaaArrF
import Derived.Test.YtlbclpkmdfgokaaAntS
import Derived.Test.YtlbclpkmdfgokaaDrawBV
namespace Go.Proofs.Ytlbclpkmdfgokaa
open Go.RowKit
set_option linter.unusedVariables false

theorem eqQ_self (x y : Int) : eqQAnt x y x y = true := by simp [eqQAnt]

set_option maxHeartbeats 4000000 in
theorem walkFnVector (w : World) (A : Option Addr) (n c : Nat) (bs : List Int) (hz : IntsK .u8 w A n bs) (hl : n ≤ maxLen ∧ n ≤ c) (hf : ∀ j, (Lit.int .u8 (el bs j)).wf = true) :
    Calls Try.prog 3 #[.slice A n c] w fun e w' => e = .returned (.bool true) ∧ Below w.heap.size w w' := by
  obtain ⟨hl, hcap⟩ := hl
  unfold maxLen at hl
  by_cases hb : n ≤ 1048576
  · have HF := Lib.hid (bytes_in hf)
    clear hf
    go_enter Try.func3, Try.ntmps3

    go_wp2_with fail
    refine (DrawBaseVector_any _ _ _ bs _ hz hb hcap HF.out).mono ?_
    rintro e w0 ⟨A1, n1, c1, ps, i, j, rfl, h0, hn1, hn2, B0⟩
    have hc1 := h0.cap
    have HL := Lib.hid h0.len
    have hp0 := h0
    clear h0
    have hnq := neqAnt
    have heq := eqlAnt
    have hgd := grdAnt
    have hbi := bv_in ps i j
    obtain ⟨⟨hX1, hX2⟩, ⟨hY1, hY2⟩⟩ := hbi
    go_wp2_with fail
    refine (iBaseV_any _ _ _ ps _ _ _ hp0.prs (by omega) hc1).mono ?_
    rintro e w1 ⟨rfl, hb1⟩
    have B1 := below_step B0 hb1
    have hp1 := hp0.below hb1
    clear hp0
    have ha1 := below_alloc w1 (.cells #[.int .i64 (bvX ps i j), .int .i64 (bvY ps i j)] 27)
    have on := Box.new w1 27 (bvX ps i j) (bvY ps i j)
    have B2 := below_step B1 ha1
    have hp2 := hp1.below ha1
    clear hp1
    have o2 := on
    clear on
    have ox := o2.2.1
    have oy := o2.2.2
    go_wp2_with fail
    refine (sBaseV_any _ _ _ ps _ _ _ hp2.prs (by omega) hc1).mono ?_
    rintro e w3 ⟨rfl, hb3⟩
    have B3 := below_step B2 hb3
    have hp3 := hp2.below hb3
    clear hp2
    have o3 := o2.below hb3
    clear o2
    clear ox oy
    have ox := o3.2.1
    have oy := o3.2.2
    have ha3 := below_alloc w3 (.cells #[.int .i64 (bvX ps i j), .int .i64 (bvY ps i j)] 27)
    have tn := Box.new w3 27 (bvX ps i j) (bvY ps i j)
    have B4 := below_step B3 ha3
    have hp4 := hp3.below ha3
    clear hp3
    have o4 := o3.below ha3
    clear o3
    clear ox oy
    have ox := o4.2.1
    have oy := o4.2.2
    have t4 := tn
    clear tn
    have tx := t4.2.1
    have ty := t4.2.2
    have hself := eqQ_self (bvX ps i j) (bvY ps i j)
    cases hok : bvOk ps i j
    · go_wp2
      go_ret
      exact ⟨rfl, B4⟩
    · have hok' := hok
      obtain ⟨e1, e2, e3⟩ := bv_swap hok'
      have E1 := Lib.hid e1
      have E2 := Lib.hid e2
      have E3 := Lib.hid e3
      have ES : Hid (eqQAnt (bvX ps i j) (bvY ps i j) 0 0 = (i == j)) := bv_same hok'
      clear e1 e2 e3 hok' 
      go_wp2_with fail
      refine (iBaseV_any _ _ _ ps _ _ _ hp4.prs (by omega) hc1).mono ?_
      rintro e w5 ⟨he, hb5⟩
      rw [E1.out, E2.out, E3.out] at he
      subst he
      have B5 := below_step B4 hb5
      have hp5 := hp4.below hb5
      clear hp4
      have o5 := o4.below hb5
      clear o4
      clear ox oy
      have ox := o5.2.1
      have oy := o5.2.2
      have t5 := t4.below hb5
      clear t4
      clear tx ty
      have tx := t5.2.1
      have ty := t5.2.2
      have ha5 := below_alloc w5 (.cells #[.int .i64 (-(bvX ps i j)), .int .i64 (-(bvY ps i j))] 27)
      have xn := Box.new w5 27 (-(bvX ps i j)) (-(bvY ps i j))
      have B6 := below_step B5 ha5
      have hp6 := hp5.below ha5
      clear hp5
      have o6 := o5.below ha5
      clear o5
      clear ox oy
      have ox := o6.2.1
      have oy := o6.2.2
      have t6 := t5.below ha5
      clear t5
      clear tx ty
      have tx := t6.2.1
      have ty := t6.2.2
      have x6 := xn
      clear xn
      have xx := x6.2.1
      have xy := x6.2.2
      have es := ES.out
      generalize bvX ps i j = X at *
      generalize bvY ps i j = Y at *
      go_wp2
      go_ret
      exact ⟨rfl, B6⟩
  · have hb' : 1048576 < n := by omega
    clear hb
    go_enter Try.func3, Try.ntmps3
    go_wp2
    go_ret
    exact ⟨rfl, Below.refl _ _⟩

set_option maxHeartbeats 4000000 in
theorem walkFnVectorThree (w : World) (A : Option Addr) (n c : Nat) (bs : List Int) (hz : IntsK .u8 w A n bs) (hl : n ≤ maxLen ∧ n ≤ c) (hf : ∀ j, (Lit.int .u8 (el bs j)).wf = true)
    (M : Option Addr) (m d : Nat) (ms : List Int) (hy : IntsK .u8 w M m ms) (hl' : m ≤ maxLen ∧ m ≤ d) (_ : ∀ j, (Lit.int .u8 (el ms j)).wf = true) :
    Calls Try.prog 4 #[.slice A n c, .slice M m d] w fun e w' => e = .returned (.bool true) ∧ Below w.heap.size w w' := by
  obtain ⟨hl, hcap⟩ := hl
  obtain ⟨hl', hcap'⟩ := hl'
  unfold maxLen at hl hl'
  by_cases hb : n ≤ 1048576
  · by_cases hbm : m ≤ 1048576
    · have HF := Lib.hid (bytes_in hf)
      clear hf
      go_enter Try.func4, Try.ntmps4

      go_wp2_with fail
      refine (DrawBaseVector_any _ _ _ bs _ hz hb hcap HF.out).mono ?_
      rintro e w0 ⟨A1, n1, c1, ps, i, j, rfl, h0, hn1, hn2, B0⟩
      have hc1 := h0.cap
      have HL := Lib.hid h0.len
      have hp0 := h0
      clear h0
      have hnq := neqAnt
      have heq := eqlAnt
      have hgd := grdAnt
      have hbi := bv_in ps i j
      obtain ⟨⟨hX1, hX2⟩, ⟨hY1, hY2⟩⟩ := hbi
      go_wp2_with fail
      refine (iBaseV_any _ _ _ ps _ _ _ hp0.prs (by omega) hc1).mono ?_
      rintro e w1 ⟨rfl, hb1⟩
      have B1 := below_step B0 hb1
      have hp1 := hp0.below hb1
      clear hp0
      have ha1 := below_alloc w1 (.cells #[.int .i64 (bvX ps i j), .int .i64 (bvY ps i j)] 27)
      have on := Box.new w1 27 (bvX ps i j) (bvY ps i j)
      have B2 := below_step B1 ha1
      have hp2 := hp1.below ha1
      clear hp1
      have o2 := on
      clear on
      have ox := o2.2.1
      have oy := o2.2.2
      go_wp2_with fail
      refine (sBaseV_any _ _ _ ps _ _ _ hp2.prs (by omega) hc1).mono ?_
      rintro e w3 ⟨rfl, hb3⟩
      have B3 := below_step B2 hb3
      have hp3 := hp2.below hb3
      clear hp2
      have o3 := o2.below hb3
      clear o2
      clear ox oy
      have ox := o3.2.1
      have oy := o3.2.2
      have ha3 := below_alloc w3 (.cells #[.int .i64 (bvX ps i j), .int .i64 (bvY ps i j)] 27)
      have tn := Box.new w3 27 (bvX ps i j) (bvY ps i j)
      have B4 := below_step B3 ha3
      have hp4 := hp3.below ha3
      clear hp3
      have o4 := o3.below ha3
      clear o3
      clear ox oy
      have ox := o4.2.1
      have oy := o4.2.2
      have t4 := tn
      clear tn
      have tx := t4.2.1
      have ty := t4.2.2
      have hself := eqQ_self (bvX ps i j) (bvY ps i j)
      cases hok : bvOk ps i j
      · go_wp2
        go_ret
        exact ⟨rfl, B4⟩
      · have hok' := hok
        have hne : ((n1 : Int) == 0) = false := by simp; omega
        obtain ⟨q, hq, hqn⟩ : ∃ q : Nat, (m : Int) % (n1 : Int) = (q : Int) ∧ q < n1 := ⟨m % n1, by omega, Nat.mod_lt m (by omega)⟩
        obtain ⟨e1, e2, e3, e4⟩ := bv_three (k := (q : Int)) hok' (isA_true.2 (by rw [HL.out]; omega))
        have E1 := Lib.hid e1
        have E2 := Lib.hid e2
        have E3 := Lib.hid e3
        have E4 := Lib.hid e4
        have b1 := bv_in ps i (q : Int)
        have b2 := bv_in ps (q : Int) j
        clear e1 e2 e3 e4 hok' 
        go_wp2_with fail
        refine (iBaseV_any _ _ _ ps _ _ _ hp4.prs (by omega) hc1).mono ?_
        rintro e w5 ⟨he, hb5⟩
        rw [E1.out] at he
        subst he
        have B5 := below_step B4 hb5
        have hp5 := hp4.below hb5
        clear hp4
        have o5 := o4.below hb5
        clear o4
        clear ox oy
        have ox := o5.2.1
        have oy := o5.2.2
        have t5 := t4.below hb5
        clear t4
        clear tx ty
        have tx := t5.2.1
        have ty := t5.2.2
        have ha5 := below_alloc w5 (.cells #[.int .i64 (bvX ps i (q : Int)), .int .i64 (bvY ps i (q : Int))] 27)
        have xn := Box.new w5 27 (bvX ps i (q : Int)) (bvY ps i (q : Int))
        have B6 := below_step B5 ha5
        have hp6 := hp5.below ha5
        clear hp5
        have o6 := o5.below ha5
        clear o5
        clear ox oy
        have ox := o6.2.1
        have oy := o6.2.2
        have t6 := t5.below ha5
        clear t5
        clear tx ty
        have tx := t6.2.1
        have ty := t6.2.2
        have x6 := xn
        clear xn
        have xx := x6.2.1
        have xy := x6.2.2
        go_wp2_with fail
        refine (iBaseV_any _ _ _ ps _ _ _ hp6.prs (by omega) hc1).mono ?_
        rintro e w7 ⟨he, hb7⟩
        rw [E2.out] at he
        subst he
        have B7 := below_step B6 hb7
        have hp7 := hp6.below hb7
        clear hp6
        have o7 := o6.below hb7
        clear o6
        clear ox oy
        have ox := o7.2.1
        have oy := o7.2.2
        have t7 := t6.below hb7
        clear t6
        clear tx ty
        have tx := t7.2.1
        have ty := t7.2.2
        have x7 := x6.below hb7
        clear x6
        clear xx xy
        have xx := x7.2.1
        have xy := x7.2.2
        have ha7 := below_alloc w7 (.cells #[.int .i64 (bvX ps (q : Int) j), .int .i64 (bvY ps (q : Int) j)] 27)
        have yn := Box.new w7 27 (bvX ps (q : Int) j) (bvY ps (q : Int) j)
        have B8 := below_step B7 ha7
        have hp8 := hp7.below ha7
        clear hp7
        have o8 := o7.below ha7
        clear o7
        clear ox oy
        have ox := o8.2.1
        have oy := o8.2.2
        have t8 := t7.below ha7
        clear t7
        clear tx ty
        have tx := t8.2.1
        have ty := t8.2.2
        have x8 := x7.below ha7
        clear x7
        clear xx xy
        have xx := x8.2.1
        have xy := x8.2.2
        have y8 := yn
        clear yn
        have yx := y8.2.1
        have yy := y8.2.2
        have e3 := E3.out
        have e4 := E4.out
        clear hself
        generalize bvX ps i j = X at *
        generalize bvY ps i j = Y at *
        generalize bvX ps i (q : Int) = X1 at *
        generalize bvY ps i (q : Int) = Y1 at *
        generalize bvX ps (q : Int) j = X2 at *
        generalize bvY ps (q : Int) j = Y2 at *
        subst e3 e4
        clear E3 E4
        go_wp2
        go_ret
        exact ⟨rfl, B8⟩
    · have hb' : 1048576 < m := by omega
      clear hbm
      go_enter Try.func4, Try.ntmps4
      go_wp2
      go_ret
      exact ⟨rfl, Below.refl _ _⟩
  · have hb' : 1048576 < n := by omega
    clear hb
    go_enter Try.func4, Try.ntmps4
    go_wp2
    go_ret
    exact ⟨rfl, Below.refl _ _⟩

end Go.Proofs.Ytlbclpkmdfgokaa
