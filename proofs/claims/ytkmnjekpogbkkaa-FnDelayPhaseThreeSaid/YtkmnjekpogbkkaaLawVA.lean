/-
  The walk of laws.FnDelayPhase, FnDelayPhaseThree.
-/
import Derived.Test.YtkmnjekpogbkkaaDelayP
import Derived.Test.YtkmnjekpogbkkaaDrawDph
namespace Go.Proofs.Ytkmnjekpogbkkaa
open Go.RowKit
set_option linter.unusedVariables false

theorem dbv_swap {ps : List (Int × Int)} {i j x y : Int} (h : dbOk ps i j x y = true) : dbOk ps j i x y = true ∧ dbV ps j i x y = -(dbV ps i j x y) := by
  obtain ⟨h1, h2⟩ := db_true.1 h
  have k : dbOk ps j i x y = true := db_true.2 ⟨h2, h1⟩
  exact ⟨k, by rw [db_yes h, db_yes k]; omega⟩
theorem cyc_neg (D : Int) : cyc (-(cyc D 360)) 360 = cyc (-D) 360 := by unfold cyc; omega
theorem cyc_sum3 {a b c : Int} (h : a + b + c = 0) : cyc (cyc a 360 + cyc b 360 + cyc c 360) 360 = 0 := by unfold cyc; omega

set_option maxHeartbeats 4000000 in
theorem walkFnDelayPhase (w : World) (A : Option Addr) (n c : Nat) (bs : List Int) (hz : IntsK .u8 w A n bs) (hl : n ≤ maxLen ∧ n ≤ c) (hf : ∀ j, (Lit.int .u8 (el bs j)).wf = true) :
    Calls Try.prog 6 #[.slice A n c] w fun e w' => e = .returned (.bool true) ∧ Below w.heap.size w w' := by
  obtain ⟨hl, hcap⟩ := hl
  unfold maxLen at hl
  by_cases hb : n ≤ 1048576
  · have HF := Lib.hid (bytes_in hf)
    clear hf
    go_enter Try.func6, Try.ntmps6
    go_wp2_with fail
    refine (DrawDelayPhase_any _ _ _ bs _ hz hb hcap HF.out).mono ?_
    rintro e w0 ⟨A1, n1, c1, ps, i, j, x, y, rfl, h0, hn1, hn2, B0⟩
    have hc1 := h0.cap
    have HL := Lib.hid h0.len
    have hp0 := h0.prs
    have ha0 := below_alloc w0 (.cells #[.int .i64 x, .int .i64 y] 25)
    have dn := Box.new w0 25 x y
    have B1 := below_step B0 ha0
    have hp1 := hp0.below ha0
    clear hp0
    have d1 := dn
    clear dn
    have dx := d1.2.1
    have dy := d1.2.2
    go_wp2_with fail
    refine (iDelayPhase_any _ _ _ ps _ _ _ _ _ hp1 (by omega) hc1).mono ?_
    rintro e w2 ⟨rfl, hb2⟩
    have B2 := below_step B1 hb2
    have hp2 := hp1.below hb2
    clear hp1
    have d2 := d1.below hb2
    clear d1
    clear dx dy
    have dx := d2.2.1
    have dy := d2.2.2
    go_wp2_with fail
    refine (sDelayPhase_any _ _ _ ps _ _ _ _ _ hp2 (by omega) hc1).mono ?_
    rintro e w3 ⟨rfl, hb3⟩
    have B3 := below_step B2 hb3
    have hp3 := hp2.below hb3
    clear hp2
    have d3 := d2.below hb3
    clear d2
    clear dx dy
    have dx := d3.2.1
    have dy := d3.2.2
    have hd := db_in ps i j x y
    have hdp := dp_in ps i j x y
    cases hok : dbOk ps i j x y
    · go_wp2
      go_ret
      exact ⟨rfl, B3⟩
    · have hok' := hok
      obtain ⟨e1, e2⟩ := dbv_swap hok'
      have E1 := Lib.hid e1
      have E2 : Hid (dpV ps j i x y = cyc (-(dpV ps i j x y)) 360) := by rw [Hid, dpV, dpV, e2, cyc_neg]
      have E3 : Hid (cyc (dbV ps i j x y) 360 = dpV ps i j x y) := rfl
      clear e1 e2 hok' 
      go_wp2_with fail
      refine (iDelayBase_any _ _ _ ps _ _ _ _ _ hp3 (by omega) hc1).mono ?_
      rintro e w4 ⟨rfl, hb4⟩
      have B4 := below_step B3 hb4
      have hp4 := hp3.below hb4
      clear hp3
      have d4 := d3.below hb4
      clear d3
      clear dx dy
      have dx := d4.2.1
      have dy := d4.2.2
      go_wp2_with fail
      refine (iDelayPhase_any _ _ _ ps _ _ _ _ _ hp4 (by omega) hc1).mono ?_
      rintro e w5 ⟨he, hb5⟩
      rw [E1.out, E2.out] at he
      subst he
      have B5 := below_step B4 hb5
      have hp5 := hp4.below hb5
      clear hp4
      have d5 := d4.below hb5
      clear d4
      clear dx dy
      have dx := d5.2.1
      have dy := d5.2.2
      go_wp2_with fail
      refine (iPhaseOf_any _ _).mono ?_
      rintro e w' ⟨he, rfl⟩
      rw [E3.out] at he
      subst he
      go_wp2_with fail
      refine (iPhaseOf_any _ _).mono ?_
      rintro e w' ⟨rfl, rfl⟩
      go_wp2
      go_ret
      exact ⟨rfl, B5⟩
  · have hb' : 1048576 < n := by omega
    clear hb
    go_enter Try.func6, Try.ntmps6
    go_wp2
    go_ret
    exact ⟨rfl, Below.refl _ _⟩

set_option maxHeartbeats 4000000 in
theorem walkFnDelayPhaseThree (w : World) (A : Option Addr) (n c : Nat) (bs : List Int) (hz : IntsK .u8 w A n bs) (hl : n ≤ maxLen ∧ n ≤ c) (hf : ∀ j, (Lit.int .u8 (el bs j)).wf = true)
    (M : Option Addr) (m d : Nat) (ms : List Int) (hy : IntsK .u8 w M m ms) (hl' : m ≤ maxLen ∧ m ≤ d) (_ : ∀ j, (Lit.int .u8 (el ms j)).wf = true) :
    Calls Try.prog 7 #[.slice A n c, .slice M m d] w fun e w' => e = .returned (.bool true) ∧ Below w.heap.size w w' := by
  obtain ⟨hl, hcap⟩ := hl
  obtain ⟨hl', hcap'⟩ := hl'
  unfold maxLen at hl hl'
  by_cases hb : n ≤ 1048576
  · by_cases hbm : m ≤ 1048576
    · have HF := Lib.hid (bytes_in hf)
      clear hf
      go_enter Try.func7, Try.ntmps7
      go_wp2_with fail
      refine (DrawDelayPhase_any _ _ _ bs _ hz hb hcap HF.out).mono ?_
      rintro e w0 ⟨A1, n1, c1, ps, i, j, x, y, rfl, h0, hn1, hn2, B0⟩
      have hc1 := h0.cap
      have HL := Lib.hid h0.len
      have hp0 := h0.prs
      have ha0 := below_alloc w0 (.cells #[.int .i64 x, .int .i64 y] 25)
      have dn := Box.new w0 25 x y
      have B1 := below_step B0 ha0
      have hp1 := hp0.below ha0
      clear hp0
      have d1 := dn
      clear dn
      have dx := d1.2.1
      have dy := d1.2.2
      go_wp2_with fail
      refine (iDelayPhase_any _ _ _ ps _ _ _ _ _ hp1 (by omega) hc1).mono ?_
      rintro e w2 ⟨rfl, hb2⟩
      have B2 := below_step B1 hb2
      have hp2 := hp1.below hb2
      clear hp1
      have d2 := d1.below hb2
      clear d1
      clear dx dy
      have dx := d2.2.1
      have dy := d2.2.2
      go_wp2_with fail
      refine (sDelayPhase_any _ _ _ ps _ _ _ _ _ hp2 (by omega) hc1).mono ?_
      rintro e w3 ⟨rfl, hb3⟩
      have B3 := below_step B2 hb3
      have hp3 := hp2.below hb3
      clear hp2
      have d3 := d2.below hb3
      clear d2
      clear dx dy
      have dx := d3.2.1
      have dy := d3.2.2
      have hd := db_in ps i j x y
      have hdp := dp_in ps i j x y
      cases hok : dbOk ps i j x y
      · go_wp2
        go_ret
        exact ⟨rfl, B3⟩
      · have hok' := hok
        obtain ⟨hdi, hdj⟩ := db_true.1 hok'
        obtain ⟨hav, hia, hpl⟩ := do_true.1 hdi
        have hne : ((n1 : Int) == 0) = false := by simp; omega
        obtain ⟨q, hq, hqn⟩ : ∃ q : Nat, (m : Int) % (n1 : Int) = (q : Int) ∧ q < n1 := ⟨m % n1, by omega, Nat.mod_lt m (by omega)⟩
        have hdk : doOk ps (q : Int) x y = true := do_true.2 ⟨hav, isA_true.2 (by rw [HL.out]; omega), hpl⟩
        have E1 : Hid (dbOk ps j (q : Int) x y = true) := db_true.2 ⟨hdj, hdk⟩
        have E2 : Hid (dbOk ps (q : Int) i x y = true) := db_true.2 ⟨hdk, hdi⟩
        have E3 : Hid (cyc (dpV ps i j x y + dpV ps j (q : Int) x y + dpV ps (q : Int) i x y) 360 = 0) := cyc_sum3 (by rw [db_yes hok', db_yes E1.out, db_yes E2.out]; omega)
        have d1 := dp_in ps j (q : Int) x y
        have d2 := dp_in ps (q : Int) i x y
        clear hdk hdi hdj hav hia hpl hok' 
        go_wp2_with fail
        refine (iDelayPhase_any _ _ _ ps _ _ _ _ _ hp3 (by omega) hc1).mono ?_
        rintro e w4 ⟨he, hb4⟩
        rw [E1.out] at he
        subst he
        have B4 := below_step B3 hb4
        have hp4 := hp3.below hb4
        clear hp3
        have d4 := d3.below hb4
        clear d3
        clear dx dy
        have dx := d4.2.1
        have dy := d4.2.2
        go_wp2_with fail
        refine (iDelayPhase_any _ _ _ ps _ _ _ _ _ hp4 (by omega) hc1).mono ?_
        rintro e w5 ⟨he, hb5⟩
        rw [E2.out] at he
        subst he
        have B5 := below_step B4 hb5
        have hp5 := hp4.below hb5
        clear hp4
        have d5 := d4.below hb5
        clear d4
        clear dx dy
        have dx := d5.2.1
        have dy := d5.2.2
        go_wp2_with fail
        refine (iPhaseOf_any _ _).mono ?_
        rintro e w' ⟨he, rfl⟩
        rw [E3.out] at he
        subst he
        go_wp2
        go_ret
        exact ⟨rfl, B5⟩
    · have hb' : 1048576 < m := by omega
      clear hbm
      go_enter Try.func7, Try.ntmps7
      go_wp2
      go_ret
      exact ⟨rfl, Below.refl _ _⟩
  · have hb' : 1048576 < n := by omega
    clear hb
    go_enter Try.func7, Try.ntmps7
    go_wp2
    go_ret
    exact ⟨rfl, Below.refl _ _⟩

end Go.Proofs.Ytkmnjekpogbkkaa
