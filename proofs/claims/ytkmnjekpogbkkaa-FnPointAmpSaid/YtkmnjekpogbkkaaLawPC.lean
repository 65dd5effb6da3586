/-
  The walk of laws.FnPointAmp.
-/
import Derived.Test.YtkmnjekpogbkkaaPtF
import Derived.Test.YtkmnjekpogbkkaaVisS
import Derived.Test.YtkmnjekpogbkkaaDrawVP
import Derived.Test.YtkmnjekpogbkkaaVisPs
import Derived.Test.YtkmnjekpogbkkaaVisP
import Derived.Test.YtkmnjekpogbkkaaSame
namespace Go.Proofs.Ytkmnjekpogbkkaa
open Go.RowKit
set_option linter.unusedVariables false


set_option maxHeartbeats 4000000 in
theorem walkFnPointAmp (w : World) (A : Option Addr) (n c : Nat) (bs : List Int) (hz : IntsK .u8 w A n bs) (hl : n ≤ maxLen ∧ n ≤ c) (hf : ∀ j, (Lit.int .u8 (el bs j)).wf = true)
    (M : Option Addr) (m d : Nat) (ms : List Int) (hy : IntsK .u8 w M m ms) (hl' : m ≤ maxLen ∧ m ≤ d) (_ : ∀ j, (Lit.int .u8 (el ms j)).wf = true) :
    Calls Try.prog 5 #[.slice A n c, .slice M m d] w fun e w' => e = .returned (.bool true) ∧ Below w.heap.size w w' := by
  obtain ⟨hl, hcap⟩ := hl
  obtain ⟨hl', hcap'⟩ := hl'
  unfold maxLen at hl hl'
  by_cases hb : n ≤ 1048576
  · by_cases hbm : m ≤ 1048576
    · have HF := Lib.hid (bytes_in hf)
      clear hf
      go_enter Try.func5, Try.ntmps5
      go_wp2_with fail
      refine (DrawVisPoint_any _ _ _ bs _ hz hb hcap HF.out).mono ?_
      rintro e w0 ⟨A1, n1, c1, ps, x, y, amp, rfl, h0, hn1, hn2, B0⟩
      have hc1 := h0.cap
      have HL := Lib.hid h0.len
      have hp0 := h0
      clear h0
      have HV : Hid ((vpV ps x y amp).length ≤ 49) := vpV_len ps x y amp
      have ha0 := below_alloc w0 (.cells #[.int .i64 x, .int .i64 y] 25)
      have dn := Box.new w0 25 x y
      have B1 := below_step B0 ha0
      have hp1 := hp0.below ha0
      clear hp0
      have d1 := dn
      clear dn
      have dx := d1.2.1
      have dy := d1.2.2
      go_wp2_with fail
      refine (iVisPoint_any _ _ _ ps _ _ _ _ hp1.prs (by omega) hc1).mono ?_
      rintro e w2 ⟨Ao, no, co, rfl, oo, hb2⟩
      have B2 := below_step B1 hb2
      have hp2 := hp1.below hb2
      clear hp1
      have d2 := d1.below hb2
      clear d1
      clear dx dy
      have dx := d2.2.1
      have dy := d2.2.2
      have hon : no ≤ 49 := by have := oo.len; have := HV.out; omega
      have hoc := oo.cap
      have o2 := oo
      clear oo
      go_wp2_with fail
      refine (sVisPoint_any _ _ _ ps _ _ _ _ hp2.prs (by omega) hc1).mono ?_
      rintro e w3 ⟨At, nt, ct, rfl, to, hb3⟩
      have B3 := below_step B2 hb3
      have hp3 := hp2.below hb3
      clear hp2
      have o3 := o2.below hb3
      clear o2
      have d3 := d2.below hb3
      clear d2
      clear dx dy
      have dx := d3.2.1
      have dy := d3.2.2
      have htc := to.cap
      have t3 := to
      clear to
      cases hok : vpOk ps x y amp
      · have hok' := hok
        clear hok'
        go_wp2_with fail
        refine (sameVis_any _ _ _ _ _ _ _ _ _ o3.prs t3.prs (by omega)).mono ?_
        rintro e w4 ⟨he, hb4⟩
        rw [eqP_self] at he
        subst he
        have B4 := below_step B3 hb4
        have hp4 := hp3.below hb4
        clear hp3
        have o4 := o3.below hb4
        clear o3
        have t4 := t3.below hb4
        clear t3
        have d4 := d3.below hb4
        clear d3
        clear dx dy
        have dx := d4.2.1
        have dy := d4.2.2
        go_wp2_with fail
        refine (sameVis_any _ _ _ _ _ _ _ _ _ o4.prs t4.prs (by omega)).mono ?_
        rintro e w5 ⟨he, hb5⟩
        rw [eqP_self] at he
        subst he
        have B5 := below_step B4 hb5
        have hp5 := hp4.below hb5
        clear hp4
        have o5 := o4.below hb5
        clear o4
        have t5 := t4.below hb5
        clear t4
        have d5 := d4.below hb5
        clear d4
        clear dx dy
        have dx := d5.2.1
        have dy := d5.2.2
        go_wp2
        go_ret
        exact ⟨rfl, B5⟩
      · have hok' := hok
        have EV := Lib.hid (vp_yes hok')
        go_wp2_with fail
        refine (sameVis_any _ _ _ _ _ _ _ _ _ o3.prs t3.prs (by omega)).mono ?_
        rintro e w4 ⟨he, hb4⟩
        rw [eqP_self] at he
        subst he
        have B4 := below_step B3 hb4
        have hp4 := hp3.below hb4
        clear hp3
        have o4 := o3.below hb4
        clear o3
        have t4 := t3.below hb4
        clear t3
        have d4 := d3.below hb4
        clear d3
        clear dx dy
        have dx := d4.2.1
        have dy := d4.2.2
        rw [EV.out, HL.out] at o4
        obtain ⟨q, hq, hqn⟩ : ∃ q : Nat, (m : Int) % 1000 = (q : Int) ∧ q < 1000 := ⟨m % 1000, by omega, Nat.mod_lt m (by omega)⟩
        obtain ⟨e1, e2, e3, e4⟩ := vp_amp (k := 1 + (q : Int)) hok' (by omega) (by omega)
        rw [HL.out] at e2
        have E1 := Lib.hid e1
        have E2 := Lib.hid e2
        have E3 := Lib.hid e3
        have E4 := Lib.hid e4
        have HV1 : Hid ((vpV ps x y (1 + (q : Int))).length ≤ 49) := vpV_len _ _ _ _
        have HV2 : Hid ((phV (n1 : Int) (vpL ps x y amp (rows n1 n1))).length ≤ 1048576) := phV_len _ _ (by have := HV.out; rw [EV.out, HL.out] at this; omega)
        clear hok' e1 e2 e3 e4
        go_wp2_with fail
        refine (iVisPoint_any _ _ _ ps _ _ _ _ hp4.prs (by omega) hc1).mono ?_
        rintro e w5 ⟨Aa, na, ca, he, ao, hb5⟩
        rw [E1.out] at he
        subst he
        have B5 := below_step B4 hb5
        have hp5 := hp4.below hb5
        clear hp4
        have o5 := o4.below hb5
        clear o4
        have t5 := t4.below hb5
        clear t4
        have d5 := d4.below hb5
        clear d4
        clear dx dy
        have dx := d5.2.1
        have dy := d5.2.2
        have han : na ≤ 49 := by have := ao.len; have := HV1.out; omega
        have hac := ao.cap
        have a5 := ao
        clear ao
        have ha1 : 1 ≤ na := by have := a5.len; have := E4.out; omega
        go_wp2_with fail
        refine (iVisPhases_any _ _ _ _ _ _ a5.prs (by omega)).mono ?_
        rintro e w6 ⟨Au, nu, cu, rfl, uo, hb6⟩
        have B6 := below_step B5 hb6
        have hp6 := hp5.below hb6
        clear hp5
        have o6 := o5.below hb6
        clear o5
        have t6 := t5.below hb6
        clear t5
        have a6 := a5.below hb6
        clear a5
        have d6 := d5.below hb6
        clear d5
        clear dx dy
        have dx := d6.2.1
        have dy := d6.2.2
        rw [E2.out] at uo
        have u6 := uo
        clear uo
        go_wp2_with fail
        refine (iVisPhases_any _ _ _ _ _ _ o6.prs (by omega)).mono ?_
        rintro e w7 ⟨Av, nv, cv, rfl, vo, hb7⟩
        have B7 := below_step B6 hb7
        have hp7 := hp6.below hb7
        clear hp6
        have o7 := o6.below hb7
        clear o6
        have t7 := t6.below hb7
        clear t6
        have a7 := a6.below hb7
        clear a6
        have u7 := u6.below hb7
        clear u6
        have d7 := d6.below hb7
        clear d6
        clear dx dy
        have dx := d7.2.1
        have dy := d7.2.2
        have v7 := vo
        clear vo
        go_wp2_with fail
        refine (sameInts_any _ _ _ _ _ _ _ _ _ u7.ints v7.ints (by have := u7.len; have := HV2.out; omega)).mono ?_
        rintro e w8 ⟨he, hb8⟩
        rw [eqL_self] at he
        subst he
        have B8 := below_step B7 hb8
        have hp8 := hp7.below hb8
        clear hp7
        have o8 := o7.below hb8
        clear o7
        have t8 := t7.below hb8
        clear t7
        have a8 := a7.below hb8
        clear a7
        have u8 := u7.below hb8
        clear u7
        have v8 := v7.below hb8
        clear v7
        have d8 := d7.below hb8
        clear d7
        clear dx dy
        have dx := d8.2.1
        have dy := d8.2.2
        obtain ⟨b, off, rfl, hbb, hcc⟩ := a8.prs.at_ (by omega)
        obtain ⟨c1', c2'⟩ := hcc 0 (by omega)
        rw [E3.out] at c1'
        rw [Nat.zero_mul, Nat.add_zero] at c1' c2'
        clear hcc
        have hna0 : (0 : Int) < (na : Int) := by omega
        go_wp2
        go_ret
        exact ⟨rfl, B8⟩
    · have hb' : 1048576 < m := by omega
      clear hbm
      go_enter Try.func5, Try.ntmps5
      go_wp2
      go_ret
      exact ⟨rfl, Below.refl _ _⟩
  · have hb' : 1048576 < n := by omega
    clear hb
    go_enter Try.func5, Try.ntmps5
    go_wp2
    go_ret
    exact ⟨rfl, Below.refl _ _⟩

end Go.Proofs.Ytkmnjekpogbkkaa
