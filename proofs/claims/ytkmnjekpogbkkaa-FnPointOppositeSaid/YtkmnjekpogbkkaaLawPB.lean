/-
  The walk of laws.FnPointOpposite.
-/
import Derived.Test.YtkmnjekpogbkkaaPtF
import Derived.Test.YtkmnjekpogbkkaaVisS
import Derived.Test.YtkmnjekpogbkkaaDrawVP
import Derived.Test.YtkmnjekpogbkkaaVisPs
namespace Go.Proofs.Ytkmnjekpogbkkaa
open Go.RowKit
set_option linter.unusedVariables false

theorem quiet_plus {P : Program} {f : FuncId} {args : Array Value} {w : World} {a n : Nat} {v : Value} (h : ∀ W, Calls P f args W fun e w' => e = .returned v ∧ W = w') :
    Calls P f args (w.drewN (a + n)) fun e w'' => e = .returned v ∧ ∃ m, w'' = w.drewN (a + m) :=
  (h _).mono fun _ _ ⟨he, hm⟩ => ⟨he, n, hm.symm⟩
theorem iPhase_as {n j : Int} (h : cyc n 360 = j) (w : World) : Calls Try.prog 15 #[.int .i64 n] w fun e w' => e = .returned (.int .i64 j) ∧ w = w' :=
  (iPhaseOf_any n w).mono fun _ _ ⟨he, hw⟩ => ⟨by rw [he, h], hw⟩
theorem vpL_ph (ps : List (Int × Int)) (x y amp : Int) (pre : List (Nat × Nat)) (j : Nat) : 0 ≤ py (vpL ps x y amp pre) j ∧ py (vpL ps x y amp pre) j ≤ 359 := by
  by_cases hk : j < pre.length
  · rw [(vp_cell hk).2]; exact dp_in _ _ _ _ _
  · rw [py, List.getD_eq_getElem?_getD, List.getElem?_eq_none (by rw [vpL_len]; omega)]; simp

set_option maxHeartbeats 4000000 in
theorem walkFnPointOpposite (w : World) (A : Option Addr) (n c : Nat) (bs : List Int) (hz : IntsK .u8 w A n bs) (hl : n ≤ maxLen ∧ n ≤ c) (hf : ∀ j, (Lit.int .u8 (el bs j)).wf = true) :
    Calls Try.prog 3 #[.slice A n c] w fun e w' => e = .returned (.bool true) ∧ Below w.heap.size w w' := by
  obtain ⟨hl, hcap⟩ := hl
  unfold maxLen at hl
  by_cases hb : n ≤ 1048576
  · have HF := Lib.hid (bytes_in hf)
    clear hf
    go_enter Try.func3, Try.ntmps3
    go_wp2_with fail
    refine (DrawVisPoint_any _ _ _ bs _ hz hb hcap HF.out).mono ?_
    rintro e w0 ⟨A1, n1, c1, ps, x, y, amp, rfl, h0, hn1, hn2, B0⟩
    have hc1 := h0.cap
    have HL := Lib.hid h0.len
    have hp0 := h0
    clear h0
    have HV : Hid ((vpV ps x y amp).length ≤ 49) := vpV_len ps x y amp
    have ha0 := below_alloc w0 (.cells #[.int .i64 x, .int .i64 y] 25)
    have dn := Box.new w0 25 x y
    have B1 := below_step B0 ha0
    have hp1 := hp0.below ha0
    clear hp0
    have d1 := dn
    clear dn
    have dx := d1.2.1
    have dy := d1.2.2
    go_wp2_with fail
    refine (iVisPoint_any _ _ _ ps _ _ _ _ hp1.prs (by omega) hc1).mono ?_
    rintro e w2 ⟨Ao, no, co, rfl, oo, hb2⟩
    have B2 := below_step B1 hb2
    have hp2 := hp1.below hb2
    clear hp1
    have d2 := d1.below hb2
    clear d1
    clear dx dy
    have dx := d2.2.1
    have dy := d2.2.2
    have hon : no ≤ 49 := by have := oo.len; have := HV.out; omega
    have hoc := oo.cap
    have o2 := oo
    clear oo
    go_wp2_with fail
    refine (sVisPoint_any _ _ _ ps _ _ _ _ hp2.prs (by omega) hc1).mono ?_
    rintro e w3 ⟨At, nt, ct, rfl, to, hb3⟩
    have B3 := below_step B2 hb3
    have hp3 := hp2.below hb3
    clear hp2
    have o3 := o2.below hb3
    clear o2
    have d3 := d2.below hb3
    clear d2
    clear dx dy
    have dx := d3.2.1
    have dy := d3.2.2
    have htc := to.cap
    have t3 := to
    clear to
    cases hok : vpOk ps x y amp
    · have hok' := hok
      clear hok'
      go_wp2_with fail
      refine (sameVis_any _ _ _ _ _ _ _ _ _ o3.prs t3.prs (by omega)).mono ?_
      rintro e w4 ⟨he, hb4⟩
      rw [eqP_self] at he
      subst he
      have B4 := below_step B3 hb4
      have hp4 := hp3.below hb4
      clear hp3
      have o4 := o3.below hb4
      clear o3
      have t4 := t3.below hb4
      clear t3
      have d4 := d3.below hb4
      clear d3
      clear dx dy
      have dx := d4.2.1
      have dy := d4.2.2
      go_wp2_with fail
      refine (sameVis_any _ _ _ _ _ _ _ _ _ o4.prs t4.prs (by omega)).mono ?_
      rintro e w5 ⟨he, hb5⟩
      rw [eqP_self] at he
      subst he
      have B5 := below_step B4 hb5
      have hp5 := hp4.below hb5
      clear hp4
      have o5 := o4.below hb5
      clear o4
      have t5 := t4.below hb5
      clear t4
      have d5 := d4.below hb5
      clear d4
      clear dx dy
      have dx := d5.2.1
      have dy := d5.2.2
      go_wp2
      go_ret
      exact ⟨rfl, B5⟩
    · have hok' := hok
      have EV := Lib.hid (vp_yes hok')
      go_wp2_with fail
      refine (sameVis_any _ _ _ _ _ _ _ _ _ o3.prs t3.prs (by omega)).mono ?_
      rintro e w4 ⟨he, hb4⟩
      rw [eqP_self] at he
      subst he
      have B4 := below_step B3 hb4
      have hp4 := hp3.below hb4
      clear hp3
      have o4 := o3.below hb4
      clear o3
      have t4 := t3.below hb4
      clear t3
      have d4 := d3.below hb4
      clear d3
      clear dx dy
      have dx := d4.2.1
      have dy := d4.2.2
      rw [EV.out, HL.out] at o4
      obtain ⟨e1, e2, e3, e4, HZ⟩ := vp_opp hok'
      obtain ⟨hav, hpl, _⟩ := vp_true.1 hok'
      obtain ⟨⟨hx1, hx2⟩, ⟨hy1, hy2⟩⟩ := plc_true.1 hpl
      have et : atOk ps 2 = true := at_true.2 ⟨hav, by omega⟩
      have ET := Lib.hid et
      have EU : Hid (atV ps 2 = tuN ps 2) := at_yes et
      rw [HL.out] at HZ e4
      have E1 := Lib.hid e1
      have E2 := Lib.hid e2
      have E3 := Lib.hid e3
      have E4 := Lib.hid e4
      have HZ := Lib.hid HZ
      have HT : Hid ((tuN ps 2).length = n1) := by rw [Hid, tuN_len]; exact HL.out
      have HP : Hid (∀ j, 0 ≤ py (vpL ps x y amp (rows n1 n1)) j ∧ py (vpL ps x y amp (rows n1 n1)) j ≤ 359) := vpL_ph ps x y amp _
      clear hok' e1 e2 e3 e4 hav hpl et
      go_wp2_with fail
      refine (iVisPoint_any _ _ _ ps _ _ _ _ hp4.prs (by omega) hc1).mono ?_
      rintro e w5 ⟨Aa, na, ca, he, ao, hb5⟩
      rw [E1.out] at he
      subst he
      have B5 := below_step B4 hb5
      have hp5 := hp4.below hb5
      clear hp4
      have o5 := o4.below hb5
      clear o4
      have t5 := t4.below hb5
      clear t4
      have d5 := d4.below hb5
      clear d4
      clear dx dy
      have dx := d5.2.1
      have dy := d5.2.2
      have hac := ao.cap
      have a5 := ao
      clear ao
      obtain rfl : no = na := by have := a5.len; have := o5.len; have := E4.out; omega
      go_wp2_with fail
      refine (iTurn_any _ _ _ ps _ _ hp5.prs (by omega) hc1).mono ?_
      rintro e w6 ⟨Au, nu, cu, he, uo, hb6⟩
      rw [ET.out] at he
      subst he
      have B6 := below_step B5 hb6
      have hp6 := hp5.below hb6
      clear hp5
      have o6 := o5.below hb6
      clear o5
      have t6 := t5.below hb6
      clear t5
      have a6 := a5.below hb6
      clear a5
      have d6 := d5.below hb6
      clear d5
      clear dx dy
      have dx := d6.2.1
      have dy := d6.2.2
      rw [EU.out] at uo
      have hun : nu ≤ 7 := by have := uo.len; have := HT.out; omega
      have huc := uo.cap
      have u6 := uo
      clear uo
      go_wp2_with fail
      refine (iVisPoint_any _ _ _ (tuN ps 2) _ _ _ _ u6.prs (by omega) huc).mono ?_
      rintro e w7 ⟨Az, nz, cz, he, zo, hb7⟩
      rw [E2.out] at he
      subst he
      have B7 := below_step B6 hb7
      have hp7 := hp6.below hb7
      clear hp6
      have o7 := o6.below hb7
      clear o6
      have t7 := t6.below hb7
      clear t6
      have a7 := a6.below hb7
      clear a6
      have u7 := u6.below hb7
      clear u6
      have d7 := d6.below hb7
      clear d6
      clear dx dy
      have dx := d7.2.1
      have dy := d7.2.2
      rw [E3.out] at zo
      have hzc := zo.cap
      have z7 := zo
      clear zo
      go_wp2
      go_loopw [16] (fun i wr => ∃ j : Nat, j ≤ no ∧ i = .int .i64 j ∧ ∃ q, wr = w7.drewN q) (fun i _ => no - (intOf i).toNat)
      case atStart => exact ⟨0, Nat.zero_le _, rfl, 0, rfl⟩
      case round =>
        obtain ⟨j, hj, rfl, q, rfl⟩ := hrel
        by_cases hlt : j < no
        · obtain ⟨b, off, rfl, hbb, hcc⟩ := a7.prs.at_ (by omega)
          obtain ⟨b', off', rfl, hbb', hcc'⟩ := o7.prs.at_ (by omega)
          obtain ⟨c1', c2'⟩ := hcc j hlt
          obtain ⟨c3', c4'⟩ := hcc' j hlt
          have hji : (j : Int) < (no : Int) := by omega
          have r0 := HP.out j
          rw [HZ.out j (by have := o7.len; omega)] at c2'
          clear hcc hcc'
          generalize py (vpL ps x y amp (rows n1 n1)) j = a1 at r0 c2' c4'
          have V1 : Hid (IntKind.i64.wrap (0 - a1) = -a1) := by rw [Hid, IntWalk.i64_in _ (by omega)]; omega
          have V2 : Hid ((cyc (-a1) 360 != cyc (-a1) 360) = false) := by rw [Hid]; simp
          have V3 : Hid (((no : Int) != (no : Int)) = false) := by rw [Hid]; simp
          have V4 : Hid (IntKind.i64.wrap (-a1) = -a1) := IntWalk.i64_in _ (by omega)
          have V5 : Hid ((0 : Int) - a1 = -a1) := by rw [Hid]; omega
          generalize hcy : cyc (-a1) 360 = cy at c2' V2
          have HCY := Lib.hid hcy
          clear r0 hcy
          go_wp2
          have v1 := V1.out
          have v2 := V2.out
          have v3 := V3.out
          have v4 := V4.out
          have v5 := V5.out
          go_quiet ((go_at_call 15; exact quiet_plus (fun W => iPhase_as HCY.out W)))
          clear v1 v2 v3 v4 v5
          go_wp2
          go_roundw
          case rel => exact ⟨j + 1, by omega, by go_num, _, rfl⟩
          case measure => simp [intOf]; omega
        · have BD := below_drewN B7 q
          have hxd : Prs (w7.drewN q) Aa no _ := a7.prs
          have hod : Prs (w7.drewN q) Az nz _ := z7.prs
          go_wp2_with fail
          refine (sameVis_any _ _ _ _ _ _ _ _ _ hxd hod (by omega)).mono ?_
          rintro e w9 ⟨he, hb9⟩
          rw [eqP_self] at he
          subst he
          go_wp2
          go_ret
          exact ⟨rfl, below_step BD hb9⟩
  · have hb' : 1048576 < n := by omega
    clear hb
    go_enter Try.func3, Try.ntmps3
    go_wp2
    go_ret
    exact ⟨rfl, Below.refl _ _⟩

end Go.Proofs.Ytkmnjekpogbkkaa
