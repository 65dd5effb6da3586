/-
  The walk of laws.FnPoint.
-/
import Derived.Test.YtkmnjekpogbkkaaPtF
import Derived.Test.YtkmnjekpogbkkaaVisS
import Derived.Test.YtkmnjekpogbkkaaDrawVP
import Derived.Test.YtkmnjekpogbkkaaVisPs
import Derived.Test.YtkmnjekpogbkkaaBasePair
import Derived.Test.YtkmnjekpogbkkaaDelayP
namespace Go.Proofs.Ytkmnjekpogbkkaa
open Go.RowKit
set_option linter.unusedVariables false

theorem eqQV_self (x y : Int) : eqQVis x y x y = true := by simp [eqQVis]
theorem rows_pos {N : Nat} (h1 : 2 ≤ N) (h2 : N ≤ 7) : 1 ≤ (rows N N).length := by
  have := rows_all h1 h2
  rcases bm_cases (n := (N : Int)) (betB_true.2 (by omega)) with e | e | e | e | e | e <;> omega
theorem vp_point {ps : List (Int × Int)} {x y amp : Int} {n k : Nat} {pr : Nat × Nat} (h : vpOk ps x y amp = true) (hl : ps.length = n) (hp : (rows n n)[k]? = some pr) :
    dbOk ps (pr.1 : Nat) (pr.2 : Nat) x y = true ∧ vvB n (vpL ps x y amp (rows n n)) = true ∧ px (vpL ps x y amp (rows n n)) k = amp ∧ py (vpL ps x y amp (rows n n)) k = dpV ps (pr.1 : Nat) (pr.2 : Nat) x y := by
  subst hl
  obtain ⟨h1, h2, h3⟩ := vp_true.1 h
  obtain ⟨hk, rfl⟩ := List.getElem?_eq_some_iff.1 hp
  refine ⟨db_here h1 h2 (List.getElem_mem hk), ?_, (vp_cell hk).1, (vp_cell hk).2⟩
  rw [← vp_yes h]; exact vp_valid h

set_option maxHeartbeats 4000000 in
theorem walkFnPoint (w : World) (A : Option Addr) (n c : Nat) (bs : List Int) (hz : IntsK .u8 w A n bs) (hl : n ≤ maxLen ∧ n ≤ c) (hf : ∀ j, (Lit.int .u8 (el bs j)).wf = true)
    (M : Option Addr) (m d : Nat) (ms : List Int) (hy : IntsK .u8 w M m ms) (hl' : m ≤ maxLen ∧ m ≤ d) (_ : ∀ j, (Lit.int .u8 (el ms j)).wf = true) :
    Calls Try.prog 4 #[.slice A n c, .slice M m d] w fun e w' => e = .returned (.bool true) ∧ Below w.heap.size w w' := by
  obtain ⟨hl, hcap⟩ := hl
  obtain ⟨hl', hcap'⟩ := hl'
  unfold maxLen at hl hl'
  by_cases hb : n ≤ 1048576
  · by_cases hbm : m ≤ 1048576
    · have HF := Lib.hid (bytes_in hf)
      clear hf
      go_enter Try.func4, Try.ntmps4
      go_wp2_with fail
      refine (DrawVisPoint_any _ _ _ bs _ hz hb hcap HF.out).mono ?_
      rintro e w0 ⟨A1, n1, c1, ps, x, y, amp, rfl, h0, hn1, hn2, B0⟩
      have hc1 := h0.cap
      have HL := Lib.hid h0.len
      have hp0 := h0
      clear h0
      have HV : Hid ((vpV ps x y amp).length ≤ 49) := vpV_len ps x y amp
      have ha0 := below_alloc w0 (.cells #[.int .i64 x, .int .i64 y] 25)
      have dn := Box.new w0 25 x y
      have B1 := below_step B0 ha0
      have hp1 := hp0.below ha0
      clear hp0
      have d1 := dn
      clear dn
      have dx := d1.2.1
      have dy := d1.2.2
      go_wp2_with fail
      refine (iVisPoint_any _ _ _ ps _ _ _ _ hp1.prs (by omega) hc1).mono ?_
      rintro e w2 ⟨Ao, no, co, rfl, oo, hb2⟩
      have B2 := below_step B1 hb2
      have hp2 := hp1.below hb2
      clear hp1
      have d2 := d1.below hb2
      clear d1
      clear dx dy
      have dx := d2.2.1
      have dy := d2.2.2
      have hon : no ≤ 49 := by have := oo.len; have := HV.out; omega
      have hoc := oo.cap
      have o2 := oo
      clear oo
      go_wp2_with fail
      refine (sVisPoint_any _ _ _ ps _ _ _ _ hp2.prs (by omega) hc1).mono ?_
      rintro e w3 ⟨At, nt, ct, rfl, to, hb3⟩
      have B3 := below_step B2 hb3
      have hp3 := hp2.below hb3
      clear hp2
      have o3 := o2.below hb3
      clear o2
      have d3 := d2.below hb3
      clear d2
      clear dx dy
      have dx := d3.2.1
      have dy := d3.2.2
      have htc := to.cap
      have t3 := to
      clear to
      cases hok : vpOk ps x y amp
      · have hok' := hok
        clear hok'
        go_wp2_with fail
        refine (sameVis_any _ _ _ _ _ _ _ _ _ o3.prs t3.prs (by omega)).mono ?_
        rintro e w4 ⟨he, hb4⟩
        rw [eqP_self] at he
        subst he
        have B4 := below_step B3 hb4
        have hp4 := hp3.below hb4
        clear hp3
        have o4 := o3.below hb4
        clear o3
        have t4 := t3.below hb4
        clear t3
        have d4 := d3.below hb4
        clear d3
        clear dx dy
        have dx := d4.2.1
        have dy := d4.2.2
        go_wp2_with fail
        refine (sameVis_any _ _ _ _ _ _ _ _ _ o4.prs t4.prs (by omega)).mono ?_
        rintro e w5 ⟨he, hb5⟩
        rw [eqP_self] at he
        subst he
        have B5 := below_step B4 hb5
        have hp5 := hp4.below hb5
        clear hp4
        have o5 := o4.below hb5
        clear o4
        have t5 := t4.below hb5
        clear t4
        have d5 := d4.below hb5
        clear d4
        clear dx dy
        have dx := d5.2.1
        have dy := d5.2.2
        go_wp2
        go_ret
        exact ⟨rfl, B5⟩
      · have hok' := hok
        have EV := Lib.hid (vp_yes hok')
        go_wp2_with fail
        refine (sameVis_any _ _ _ _ _ _ _ _ _ o3.prs t3.prs (by omega)).mono ?_
        rintro e w4 ⟨he, hb4⟩
        rw [eqP_self] at he
        subst he
        have B4 := below_step B3 hb4
        have hp4 := hp3.below hb4
        clear hp3
        have o4 := o3.below hb4
        clear o3
        have t4 := t3.below hb4
        clear t3
        have d4 := d3.below hb4
        clear d3
        clear dx dy
        have dx := d4.2.1
        have dy := d4.2.2
        rw [EV.out, HL.out] at o4
        have hlo : (rows n1 n1).length = no := by have := o4.len; rw [vpL_len] at this; exact this
        obtain ⟨hn21, hn27⟩ : 2 ≤ n1 ∧ n1 ≤ 7 := by have := av_len (vp_true.1 hok').1; rw [HL.out] at this; exact this
        have hno1 : 1 ≤ no := by rw [← hlo]; exact rows_pos hn21 hn27
        have hne : ((no : Int) == 0) = false := by simp; omega
        obtain ⟨q, hq, hqn⟩ : ∃ q : Nat, (m : Int) % (no : Int) = (q : Int) ∧ q < no := ⟨m % no, by omega, Nat.mod_lt m (by omega)⟩
        obtain ⟨pr, hpr⟩ : ∃ pr, (rows n1 n1)[q]? = some pr := ⟨_, List.getElem?_eq_getElem (by rw [hlo]; exact hqn)⟩
        obtain ⟨e1, e2, e3, e4⟩ := vp_point hok' HL.out hpr
        have HPR := Lib.hid hpr
        have E1 := Lib.hid e1
        have E2 := Lib.hid e2
        have E3 := Lib.hid e3
        have E4 := Lib.hid e4
        have hself := eqQV_self amp (dpV ps (pr.1 : Nat) (pr.2 : Nat) x y)
        have heq := eqlVis
        have hgd := grdVis
        clear hok' e1 e2 e3 e4 hpr hlo
        go_wp2_with fail
        refine (iBasePair_any _ _ pr _ hn21 hn27 HPR.out).mono ?_
        rintro e w5 ⟨rfl, hb5⟩
        have B5 := below_step B4 hb5
        have hp5 := hp4.below hb5
        clear hp4
        have o5 := o4.below hb5
        clear o4
        have t5 := t4.below hb5
        clear t4
        have d5 := d4.below hb5
        clear d4
        clear dx dy
        have dx := d5.2.1
        have dy := d5.2.2
        go_wp2_with fail
        refine (iDelayPhase_any _ _ _ ps _ _ _ _ _ hp5.prs (by omega) hc1).mono ?_
        rintro e w6 ⟨he, hb6⟩
        rw [E1.out] at he
        subst he
        have B6 := below_step B5 hb6
        have hp6 := hp5.below hb6
        clear hp5
        have o6 := o5.below hb6
        clear o5
        have t6 := t5.below hb6
        clear t5
        have d6 := d5.below hb6
        clear d5
        clear dx dy
        have dx := d6.2.1
        have dy := d6.2.2
        go_wp2_with fail
        refine (iVisV_any _ _ _ _ _ _ o6.prs (by omega)).mono ?_
        rintro e w7 ⟨he, hb7⟩
        rw [E2.out] at he
        subst he
        have B7 := below_step B6 hb7
        have hp7 := hp6.below hb7
        clear hp6
        have o7 := o6.below hb7
        clear o6
        have t7 := t6.below hb7
        clear t6
        have d7 := d6.below hb7
        clear d6
        clear dx dy
        have dx := d7.2.1
        have dy := d7.2.2
        obtain ⟨b, off, rfl, hbb, hcc⟩ := o7.prs.at_ (by omega)
        obtain ⟨c1', c2'⟩ := hcc q hqn
        rw [E3.out] at c1'
        rw [E4.out] at c2'
        clear hcc
        generalize dpV ps (pr.1 : Nat) (pr.2 : Nat) x y = ph at *
        have hqi : (q : Int) < (no : Int) := by omega
        go_wp2
        go_ret
        exact ⟨rfl, B7⟩
    · have hb' : 1048576 < m := by omega
      clear hbm
      go_enter Try.func4, Try.ntmps4
      go_wp2
      go_ret
      exact ⟨rfl, Below.refl _ _⟩
  · have hb' : 1048576 < n := by omega
    clear hb
    go_enter Try.func4, Try.ntmps4
    go_wp2
    go_ret
    exact ⟨rfl, Below.refl _ _⟩

end Go.Proofs.Ytkmnjekpogbkkaa
