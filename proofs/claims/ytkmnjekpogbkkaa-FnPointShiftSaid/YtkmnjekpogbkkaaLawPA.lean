/-
  The walk of laws.FnPointShift.
-/
import Derived.Test.YtkmnjekpogbkkaaPtF
import Derived.Test.YtkmnjekpogbkkaaVisS
import Derived.Test.YtkmnjekpogbkkaaDrawVP
import Derived.Test.YtkmnjekpogbkkaaVisPs
namespace Go.Proofs.Ytkmnjekpogbkkaa
open Go.RowKit
set_option linter.unusedVariables false


set_option maxHeartbeats 4000000 in
theorem walkFnPointShift (w : World) (A : Option Addr) (n c : Nat) (bs : List Int) (hz : IntsK .u8 w A n bs) (hl : n ≤ maxLen ∧ n ≤ c) (hf : ∀ j, (Lit.int .u8 (el bs j)).wf = true) :
    Calls Try.prog 8 #[.slice A n c] w fun e w' => e = .returned (.bool true) ∧ Below w.heap.size w w' := by
  obtain ⟨hl, hcap⟩ := hl
  unfold maxLen at hl
  by_cases hb : n ≤ 1048576
  · have HF := Lib.hid (bytes_in hf)
    clear hf
    go_enter Try.func8, Try.ntmps8
    go_wp2_with fail
    refine (DrawVisPoint_any _ _ _ bs _ hz hb hcap HF.out).mono ?_
    rintro e w0 ⟨A1, n1, c1, ps, x, y, amp, rfl, h0, hn1, hn2, B0⟩
    have hc1 := h0.cap
    have HL := Lib.hid h0.len
    have hp0 := h0
    clear h0
    have HV : Hid ((vpV ps x y amp).length ≤ 49) := vpV_len ps x y amp
    have ha0 := below_alloc w0 (.cells #[.int .i64 x, .int .i64 y] 25)
    have dn := Box.new w0 25 x y
    have B1 := below_step B0 ha0
    have hp1 := hp0.below ha0
    clear hp0
    have d1 := dn
    clear dn
    have dx := d1.2.1
    have dy := d1.2.2
    go_wp2_with fail
    refine (iVisPoint_any _ _ _ ps _ _ _ _ hp1.prs (by omega) hc1).mono ?_
    rintro e w2 ⟨Ao, no, co, rfl, oo, hb2⟩
    have B2 := below_step B1 hb2
    have hp2 := hp1.below hb2
    clear hp1
    have d2 := d1.below hb2
    clear d1
    clear dx dy
    have dx := d2.2.1
    have dy := d2.2.2
    have hon : no ≤ 49 := by have := oo.len; have := HV.out; omega
    have hoc := oo.cap
    have o2 := oo
    clear oo
    go_wp2_with fail
    refine (sVisPoint_any _ _ _ ps _ _ _ _ hp2.prs (by omega) hc1).mono ?_
    rintro e w3 ⟨At, nt, ct, rfl, to, hb3⟩
    have B3 := below_step B2 hb3
    have hp3 := hp2.below hb3
    clear hp2
    have o3 := o2.below hb3
    clear o2
    have d3 := d2.below hb3
    clear d2
    clear dx dy
    have dx := d3.2.1
    have dy := d3.2.2
    have htc := to.cap
    have t3 := to
    clear to
    cases hok : vpOk ps x y amp
    · have hok' := hok
      clear hok'
      go_wp2_with fail
      refine (sameVis_any _ _ _ _ _ _ _ _ _ o3.prs t3.prs (by omega)).mono ?_
      rintro e w4 ⟨he, hb4⟩
      rw [eqP_self] at he
      subst he
      have B4 := below_step B3 hb4
      have hp4 := hp3.below hb4
      clear hp3
      have o4 := o3.below hb4
      clear o3
      have t4 := t3.below hb4
      clear t3
      have d4 := d3.below hb4
      clear d3
      clear dx dy
      have dx := d4.2.1
      have dy := d4.2.2
      go_wp2_with fail
      refine (sameVis_any _ _ _ _ _ _ _ _ _ o4.prs t4.prs (by omega)).mono ?_
      rintro e w5 ⟨he, hb5⟩
      rw [eqP_self] at he
      subst he
      have B5 := below_step B4 hb5
      have hp5 := hp4.below hb5
      clear hp4
      have o5 := o4.below hb5
      clear o4
      have t5 := t4.below hb5
      clear t4
      have d5 := d4.below hb5
      clear d4
      clear dx dy
      have dx := d5.2.1
      have dy := d5.2.2
      go_wp2
      go_ret
      exact ⟨rfl, B5⟩
    · have hok' := hok
      have EV := Lib.hid (vp_yes hok')
      go_wp2_with fail
      refine (sameVis_any _ _ _ _ _ _ _ _ _ o3.prs t3.prs (by omega)).mono ?_
      rintro e w4 ⟨he, hb4⟩
      rw [eqP_self] at he
      subst he
      have B4 := below_step B3 hb4
      have hp4 := hp3.below hb4
      clear hp3
      have o4 := o3.below hb4
      clear o3
      have t4 := t3.below hb4
      clear t3
      have d4 := d3.below hb4
      clear d3
      clear dx dy
      have dx := d4.2.1
      have dy := d4.2.2
      rw [EV.out, HL.out] at o4
      obtain ⟨e1, HZ⟩ := vp_zero hok'
      have E1 := Lib.hid e1
      have HZ := Lib.hid HZ
      have ES : Hid (asOk ps 2 1 = true → vpOk (ps.map (shF 2 1)) x y amp = true ∧ vpV (ps.map (shF 2 1)) x y amp = vpL ps x y amp (rows n1 n1)) := fun h => by have := vp_shift hok' h; rw [HL.out] at this; exact this
      have HV1 : Hid ((asV ps 2 1).length ≤ 1048576) := asV_len _ _ _ (by rw [HL.out]; omega)
      have HV2 : Hid ((vpV (asV ps 2 1) x y amp).length ≤ 49) := vpV_len _ _ _ _
      have HV3 : Hid ((vpV ps 0 0 amp).length ≤ 49) := vpV_len _ _ _ _
      clear hok' e1
      go_wp2_with fail
      refine (iShift_any _ _ _ ps _ _ _ hp4.prs (by omega) hc1).mono ?_
      rintro e w5 ⟨Aa, na, ca, rfl, ao, hb5⟩
      have B5 := below_step B4 hb5
      have hp5 := hp4.below hb5
      clear hp4
      have o5 := o4.below hb5
      clear o4
      have t5 := t4.below hb5
      clear t4
      have d5 := d4.below hb5
      clear d4
      clear dx dy
      have dx := d5.2.1
      have dy := d5.2.2
      have han : na ≤ 1048576 := by have := ao.len; have := HV1.out; omega
      have hac := ao.cap
      have a5 := ao
      clear ao
      go_wp2_with fail
      refine (iVisPoint_any _ _ _ (asV ps 2 1) _ _ _ _ a5.prs (by omega) hac).mono ?_
      rintro e w6 ⟨Aq, nq, cq, rfl, qo, hb6⟩
      have B6 := below_step B5 hb6
      have hp6 := hp5.below hb6
      clear hp5
      have o6 := o5.below hb6
      clear o5
      have t6 := t5.below hb6
      clear t5
      have a6 := a5.below hb6
      clear a5
      have d6 := d5.below hb6
      clear d5
      clear dx dy
      have dx := d6.2.1
      have dy := d6.2.2
      have hqn : nq ≤ 49 := by have := qo.len; have := HV2.out; omega
      have hqc := qo.cap
      have q6 := qo
      clear qo
      go_wp2_with fail
      refine (iVisPoint_any _ _ _ ps _ _ _ _ hp6.prs (by omega) hc1).mono ?_
      rintro e w7 ⟨Az, nz, cz, he, zo, hb7⟩
      rw [E1.out] at he
      subst he
      have B7 := below_step B6 hb7
      have hp7 := hp6.below hb7
      clear hp6
      have o7 := o6.below hb7
      clear o6
      have t7 := t6.below hb7
      clear t6
      have a7 := a6.below hb7
      clear a6
      have q7 := q6.below hb7
      clear q6
      have d7 := d6.below hb7
      clear d6
      clear dx dy
      have dx := d7.2.1
      have dy := d7.2.2
      have hzn : nz ≤ 49 := by have := zo.len; have := HV3.out; omega
      have hzc := zo.cap
      have z7 := zo
      clear zo
      go_wp2
      go_loopw [16] (fun i wr => ∃ j : Nat, j ≤ nz ∧ i = .int .i64 j ∧ ∃ q, wr = w7.drewN q) (fun i _ => nz - (intOf i).toNat)
      case atStart => exact ⟨0, Nat.zero_le _, rfl, 0, rfl⟩
      case round =>
        obtain ⟨j, hj, rfl, q, rfl⟩ := hrel
        by_cases hlt : j < nz
        · obtain ⟨b, off, rfl, hbb, hcc⟩ := z7.prs.at_ (by omega)
          obtain ⟨c1', c2'⟩ := hcc j hlt
          rw [HZ.out j] at c2'
          have hji : (j : Int) < (nz : Int) := by omega
          clear hcc
          go_wp2
          go_roundw
          case rel => exact ⟨j + 1, by omega, by go_num, _, rfl⟩
          case measure => simp [intOf]; omega
        · have BD := below_drewN B7 q
          cases hs : asOk ps 2 1
          · go_wp2
            go_ret
            exact ⟨rfl, BD⟩
          · obtain ⟨e1, e2⟩ := ES.out hs
            have hqq := q7
            rw [as_yes hs, e2] at hqq
            have e3 : vpOk (asV ps 2 1) x y amp = true := by rw [as_yes hs]; exact e1
            have hxd : Prs (w7.drewN q) Aq nq _ := hqq.prs
            have hod : Prs (w7.drewN q) Ao no _ := o7.prs
            clear e1 e2 hqq hs
            go_wp2_with fail
            refine (sameVis_any _ _ _ _ _ _ _ _ _ hxd hod (by omega)).mono ?_
            rintro e w9 ⟨he, hb9⟩
            rw [eqP_self] at he
            subst he
            go_wp2
            go_ret
            exact ⟨rfl, below_step BD hb9⟩
  · have hb' : 1048576 < n := by omega
    clear hb
    go_enter Try.func8, Try.ntmps8
    go_wp2
    go_ret
    exact ⟨rfl, Below.refl _ _⟩

end Go.Proofs.Ytkmnjekpogbkkaa
