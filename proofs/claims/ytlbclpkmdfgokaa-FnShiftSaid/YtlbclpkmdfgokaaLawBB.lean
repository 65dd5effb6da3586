/-
  The walk of laws.FnShiftTwice, FnShift.
-/
import Derived.Test.YtlbclpkmdfgokaaArrF
import Derived.Test.YtlbclpkmdfgokaaAntS
import Derived.Test.YtlbclpkmdfgokaaDrawAS
namespace Go.Proofs.Ytlbclpkmdfgokaa
open Go.RowKit
set_option linter.unusedVariables false

theorem eqQ_self (x y : Int) : eqQAnt x y x y = true := by simp [eqQAnt]

set_option maxHeartbeats 4000000 in
theorem walkFnShiftTwice (w : World) (A : Option Addr) (n c : Nat) (bs : List Int) (hz : IntsK .u8 w A n bs) (hl : n ≤ maxLen ∧ n ≤ c) (hf : ∀ j, (Lit.int .u8 (el bs j)).wf = true) :
    Calls Try.prog 6 #[.slice A n c] w fun e w' => e = .returned (.bool true) ∧ Below w.heap.size w w' := by
  obtain ⟨hl, hcap⟩ := hl
  unfold maxLen at hl
  by_cases hb : n ≤ 1048576
  · have HF := Lib.hid (bytes_in hf)
    clear hf
    go_enter Try.func6, Try.ntmps6
    go_wp2_with fail
    refine (DrawArrayShift_any _ _ _ bs _ hz hb hcap HF.out).mono ?_
    rintro e w0 ⟨A1, n1, c1, ps, x, y, rfl, h0, hn1, hn2, B0⟩
    have hc1 := h0.cap
    have HL := Lib.hid h0.len
    have hp0 := h0
    clear h0
    have HV : Hid ((asV ps x y).length ≤ 1048576) := asV_len ps x y (by rw [HL.out]; omega)
    go_wp2_with fail
    refine (iShift_any _ _ _ ps _ _ _ hp0.prs (by omega) hc1).mono ?_
    rintro e w1 ⟨Ao, no, co, rfl, oo, hb1⟩
    have B1 := below_step B0 hb1
    have hp1 := hp0.below hb1
    clear hp0
    have hon : no ≤ 1048577 := by have := oo.len; have := HV.out; omega
    have hoc := oo.cap
    have o1 := oo
    clear oo
    go_wp2_with fail
    refine (sShift_any _ _ _ ps _ _ _ hp1.prs (by omega) hc1).mono ?_
    rintro e w2 ⟨At, nt, ct, rfl, to, hb2⟩
    have B2 := below_step B1 hb2
    have hp2 := hp1.below hb2
    clear hp1
    have o2 := o1.below hb2
    clear o1
    have htc := to.cap
    have t2 := to
    clear to
    cases hok : asOk ps x y
    · have hok' := hok
      clear hok'
      go_wp2_with fail
      refine (sameAnts_any _ _ _ _ _ _ _ _ _ o2.prs t2.prs hon).mono ?_
      rintro e w3 ⟨he, hb3⟩
      rw [eqP_self] at he
      subst he
      have B3 := below_step B2 hb3
      have hp3 := hp2.below hb3
      clear hp2
      have o3 := o2.below hb3
      clear o2
      have t3 := t2.below hb3
      clear t2
      go_wp2_with fail
      refine (sameAnts_any _ _ _ _ _ _ _ _ _ o3.prs t3.prs hon).mono ?_
      rintro e w4 ⟨he, hb4⟩
      rw [eqP_self] at he
      subst he
      have B4 := below_step B3 hb4
      have hp4 := hp3.below hb4
      clear hp3
      have o4 := o3.below hb4
      clear o3
      have t4 := t3.below hb4
      clear t3
      go_wp2
      go_ret
      exact ⟨rfl, B4⟩
    · have hok' := hok
      have EV := Lib.hid (as_yes hok')
      go_wp2_with fail
      refine (sameAnts_any _ _ _ _ _ _ _ _ _ o2.prs t2.prs hon).mono ?_
      rintro e w3 ⟨he, hb3⟩
      rw [eqP_self] at he
      subst he
      have B3 := below_step B2 hb3
      have hp3 := hp2.below hb3
      clear hp2
      have o3 := o2.below hb3
      clear o2
      have t3 := t2.below hb3
      clear t2
      rw [EV.out] at o3
      obtain rfl : n1 = no := by have := o3.len; rw [List.length_map] at this; have := HL.out; omega
      obtain ⟨hav, ⟨hx1, hx2⟩, ⟨hy1, hy2⟩, hav2⟩ := as_true.1 hok'
      have ES : Hid (asOk (ps.map (shF x y)) 2 3 = true → asOk ps (x + 2) (y + 3) = true → asV (ps.map (shF x y)) 2 3 = asV ps (x + 2) (y + 3)) := fun h1 h2 => by rw [as_yes h1, as_yes h2, sh_sh]
      have HV1 : Hid ((asV (ps.map (shF x y)) 2 3).length ≤ 1048576) := asV_len _ _ _ (by rw [List.length_map, HL.out]; omega)
      clear hav hav2 hok' 
      go_wp2_with fail
      refine (iShift_any _ _ _ (ps.map (shF x y)) _ _ _ o3.prs (by omega) hoc).mono ?_
      rintro e w4 ⟨Aa, na, ca, rfl, ao, hb4⟩
      have B4 := below_step B3 hb4
      have hp4 := hp3.below hb4
      clear hp3
      have o4 := o3.below hb4
      clear o3
      have t4 := t3.below hb4
      clear t3
      have han : na ≤ 1048577 := by have := ao.len; have := HV1.out; omega
      have hac := ao.cap
      have a4 := ao
      clear ao
      go_wp2_with fail
      refine (iShift_any _ _ _ ps _ _ _ hp4.prs (by omega) hc1).mono ?_
      rintro e w5 ⟨Ab, nb, cb, rfl, bo, hb5⟩
      have B5 := below_step B4 hb5
      have hp5 := hp4.below hb5
      clear hp4
      have o5 := o4.below hb5
      clear o4
      have t5 := t4.below hb5
      clear t4
      have a5 := a4.below hb5
      clear a4
      have hbc := bo.cap
      have b5 := bo
      clear bo
      cases h1 : asOk (ps.map (shF x y)) 2 3
      · go_wp2
        go_ret
        exact ⟨rfl, B5⟩
      · cases h2 : asOk ps (x + 2) (y + 3)
        · go_wp2
          go_ret
          exact ⟨rfl, B5⟩
        · have e := ES.out h1 h2
          rw [e] at a5
          clear e
          go_wp2_with fail
          refine (sameAnts_any _ _ _ _ _ _ _ _ _ a5.prs b5.prs han).mono ?_
          rintro e w6 ⟨he, hb6⟩
          rw [eqP_self] at he
          subst he
          have B6 := below_step B5 hb6
          have hp6 := hp5.below hb6
          clear hp5
          have o6 := o5.below hb6
          clear o5
          have t6 := t5.below hb6
          clear t5
          have a6 := a5.below hb6
          clear a5
          have b6 := b5.below hb6
          clear b5
          go_wp2
          go_ret
          exact ⟨rfl, B6⟩
  · have hb' : 1048576 < n := by omega
    clear hb
    go_enter Try.func6, Try.ntmps6
    go_wp2
    go_ret
    exact ⟨rfl, Below.refl _ _⟩

set_option maxHeartbeats 4000000 in
theorem walkFnShift (w : World) (A : Option Addr) (n c : Nat) (bs : List Int) (hz : IntsK .u8 w A n bs) (hl : n ≤ maxLen ∧ n ≤ c) (hf : ∀ j, (Lit.int .u8 (el bs j)).wf = true)
    (M : Option Addr) (m d : Nat) (ms : List Int) (hy : IntsK .u8 w M m ms) (hl' : m ≤ maxLen ∧ m ≤ d) (_ : ∀ j, (Lit.int .u8 (el ms j)).wf = true) :
    Calls Try.prog 10 #[.slice A n c, .slice M m d] w fun e w' => e = .returned (.bool true) ∧ Below w.heap.size w w' := by
  obtain ⟨hl, hcap⟩ := hl
  obtain ⟨hl', hcap'⟩ := hl'
  unfold maxLen at hl hl'
  by_cases hb : n ≤ 1048576
  · by_cases hbm : m ≤ 1048576
    · have HF := Lib.hid (bytes_in hf)
      clear hf
      go_enter Try.func10, Try.ntmps10
      go_wp2_with fail
      refine (DrawArrayShift_any _ _ _ bs _ hz hb hcap HF.out).mono ?_
      rintro e w0 ⟨A1, n1, c1, ps, x, y, rfl, h0, hn1, hn2, B0⟩
      have hc1 := h0.cap
      have HL := Lib.hid h0.len
      have hp0 := h0
      clear h0
      have HV : Hid ((asV ps x y).length ≤ 1048576) := asV_len ps x y (by rw [HL.out]; omega)
      go_wp2_with fail
      refine (iShift_any _ _ _ ps _ _ _ hp0.prs (by omega) hc1).mono ?_
      rintro e w1 ⟨Ao, no, co, rfl, oo, hb1⟩
      have B1 := below_step B0 hb1
      have hp1 := hp0.below hb1
      clear hp0
      have hon : no ≤ 1048577 := by have := oo.len; have := HV.out; omega
      have hoc := oo.cap
      have o1 := oo
      clear oo
      go_wp2_with fail
      refine (sShift_any _ _ _ ps _ _ _ hp1.prs (by omega) hc1).mono ?_
      rintro e w2 ⟨At, nt, ct, rfl, to, hb2⟩
      have B2 := below_step B1 hb2
      have hp2 := hp1.below hb2
      clear hp1
      have o2 := o1.below hb2
      clear o1
      have htc := to.cap
      have t2 := to
      clear to
      cases hok : asOk ps x y
      · have hok' := hok
        clear hok'
        go_wp2_with fail
        refine (sameAnts_any _ _ _ _ _ _ _ _ _ o2.prs t2.prs hon).mono ?_
        rintro e w3 ⟨he, hb3⟩
        rw [eqP_self] at he
        subst he
        have B3 := below_step B2 hb3
        have hp3 := hp2.below hb3
        clear hp2
        have o3 := o2.below hb3
        clear o2
        have t3 := t2.below hb3
        clear t2
        go_wp2_with fail
        refine (sameAnts_any _ _ _ _ _ _ _ _ _ o3.prs t3.prs hon).mono ?_
        rintro e w4 ⟨he, hb4⟩
        rw [eqP_self] at he
        subst he
        have B4 := below_step B3 hb4
        have hp4 := hp3.below hb4
        clear hp3
        have o4 := o3.below hb4
        clear o3
        have t4 := t3.below hb4
        clear t3
        go_wp2
        go_ret
        exact ⟨rfl, B4⟩
      · have hok' := hok
        have EV := Lib.hid (as_yes hok')
        go_wp2_with fail
        refine (sameAnts_any _ _ _ _ _ _ _ _ _ o2.prs t2.prs hon).mono ?_
        rintro e w3 ⟨he, hb3⟩
        rw [eqP_self] at he
        subst he
        have B3 := below_step B2 hb3
        have hp3 := hp2.below hb3
        clear hp2
        have o3 := o2.below hb3
        clear o2
        have t3 := t2.below hb3
        clear t2
        rw [EV.out] at o3
        obtain rfl : n1 = no := by have := o3.len; rw [List.length_map] at this; have := HL.out; omega
        obtain ⟨hav, ⟨hx1, hx2⟩, ⟨hy1, hy2⟩, hav2⟩ := as_true.1 hok'
        have hne : ((n1 : Int) == 0) = false := by simp; omega
        obtain ⟨q, hq, hqn⟩ : ∃ q : Nat, (m : Int) % (n1 : Int) = (q : Int) ∧ q < n1 := ⟨m % n1, by omega, Nat.mod_lt m (by omega)⟩
        obtain ⟨D, hD, hDm⟩ : ∃ D : Nat, (m : Int) / (n1 : Int) = (D : Int) ∧ D ≤ m := ⟨m / n1, (Int.natCast_ediv m n1).symm, Nat.div_le_self _ _⟩
        obtain ⟨r, hr, hrn⟩ : ∃ r : Nat, (D : Int) % (n1 : Int) = (r : Int) ∧ r < n1 := ⟨D % n1, by omega, Nat.mod_lt _ (by omega)⟩
        obtain ⟨e1, e2, e3, e4⟩ := sh_vec (i := q) (j := r) hok' (by rw [HL.out]; exact hqn) (by rw [HL.out]; exact hrn)
        obtain ⟨e5, e6⟩ := sh_back hok'
        have E1 := Lib.hid e1
        have E2 := Lib.hid e2
        have E3 := Lib.hid e3
        have E4 := Lib.hid e4
        have E5 := Lib.hid e5
        have E6 := Lib.hid e6
        have b1 := bv_in ps (q : Int) (r : Int)
        have hnq := neqAnt
        have heq := eqlAnt
        have hgd := grdAnt
        have hself := eqQ_self (bvX ps (q : Int) (r : Int)) (bvY ps (q : Int) (r : Int))
        clear e1 e2 e3 e4 e5 e6 hav hav2 hok' 
        go_wp2_with fail
        refine (iBaseV_any _ _ _ ps _ _ _ hp3.prs (by omega) hc1).mono ?_
        rintro e w4 ⟨he, hb4⟩
        rw [E1.out] at he
        subst he
        have B4 := below_step B3 hb4
        have hp4 := hp3.below hb4
        clear hp3
        have o4 := o3.below hb4
        clear o3
        have t4 := t3.below hb4
        clear t3
        have ha4 := below_alloc w4 (.cells #[.int .i64 (bvX ps (q : Int) (r : Int)), .int .i64 (bvY ps (q : Int) (r : Int))] 27)
        have an := Box.new w4 27 (bvX ps (q : Int) (r : Int)) (bvY ps (q : Int) (r : Int))
        have B5 := below_step B4 ha4
        have hp5 := hp4.below ha4
        clear hp4
        have o5 := o4.below ha4
        clear o4
        have t5 := t4.below ha4
        clear t4
        have a5 := an
        clear an
        have ax := a5.2.1
        have ay := a5.2.2
        go_wp2_with fail
        refine (iBaseV_any _ _ _ (ps.map (shF x y)) _ _ _ o5.prs (by omega) hoc).mono ?_
        rintro e w6 ⟨he, hb6⟩
        rw [E2.out, E3.out, E4.out] at he
        subst he
        have B6 := below_step B5 hb6
        have hp6 := hp5.below hb6
        clear hp5
        have o6 := o5.below hb6
        clear o5
        have t6 := t5.below hb6
        clear t5
        have a6 := a5.below hb6
        clear a5
        clear ax ay
        have ax := a6.2.1
        have ay := a6.2.2
        have ha6 := below_alloc w6 (.cells #[.int .i64 (bvX ps (q : Int) (r : Int)), .int .i64 (bvY ps (q : Int) (r : Int))] 27)
        have vbn := Box.new w6 27 (bvX ps (q : Int) (r : Int)) (bvY ps (q : Int) (r : Int))
        have B7 := below_step B6 ha6
        have hp7 := hp6.below ha6
        clear hp6
        have o7 := o6.below ha6
        clear o6
        have t7 := t6.below ha6
        clear t6
        have a7 := a6.below ha6
        clear a6
        clear ax ay
        have ax := a7.2.1
        have ay := a7.2.2
        have vb7 := vbn
        clear vbn
        have vbx := vb7.2.1
        have vby := vb7.2.2
        go_wp2_with fail
        refine (iShift_any _ _ _ (ps.map (shF x y)) _ _ _ o7.prs (by omega) hoc).mono ?_
        rintro e w8 ⟨Az, nz, cz, he, zo, hb8⟩
        rw [E5.out] at he
        subst he
        have B8 := below_step B7 hb8
        have hp8 := hp7.below hb8
        clear hp7
        have o8 := o7.below hb8
        clear o7
        have t8 := t7.below hb8
        clear t7
        have a8 := a7.below hb8
        clear a7
        clear ax ay
        have ax := a8.2.1
        have ay := a8.2.2
        have vb8 := vb7.below hb8
        clear vb7
        clear vbx vby
        have vbx := vb8.2.1
        have vby := vb8.2.2
        rw [E6.out] at zo
        have hzn : nz ≤ 1048577 := by have := zo.len; have := HL.out; omega
        have hzc := zo.cap
        have z8 := zo
        clear zo
        go_wp2_with fail
        refine (sameAnts_any _ _ _ _ _ _ _ _ _ z8.prs hp8.prs hzn).mono ?_
        rintro e w9 ⟨he, hb9⟩
        rw [eqP_self] at he
        subst he
        have B9 := below_step B8 hb9
        have hp9 := hp8.below hb9
        clear hp8
        have o9 := o8.below hb9
        clear o8
        have t9 := t8.below hb9
        clear t8
        have z9 := z8.below hb9
        clear z8
        have a9 := a8.below hb9
        clear a8
        clear ax ay
        have ax := a9.2.1
        have ay := a9.2.2
        have vb9 := vb8.below hb9
        clear vb8
        clear vbx vby
        have vbx := vb9.2.1
        have vby := vb9.2.2
        go_wp2
        go_ret
        exact ⟨rfl, B9⟩
    · have hb' : 1048576 < m := by omega
      clear hbm
      go_enter Try.func10, Try.ntmps10
      go_wp2
      go_ret
      exact ⟨rfl, Below.refl _ _⟩
  · have hb' : 1048576 < n := by omega
    clear hb
    go_enter Try.func10, Try.ntmps10
    go_wp2
    go_ret
    exact ⟨rfl, Below.refl _ _⟩

end Go.Proofs.Ytlbclpkmdfgokaa
