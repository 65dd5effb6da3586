/-
  The walk of laws.FnTurnVector, FnTurnShift.
-/
import Derived.Test.YtlbclpkmdfgokaaArrF
import Derived.Test.YtlbclpkmdfgokaaAntS
import Derived.Test.YtlbclpkmdfgokaaDrawAT
import Derived.Test.YtlbclpkmdfgokaaBoxT
namespace Go.Proofs.Ytlbclpkmdfgokaa
open Go.RowKit
set_option linter.unusedVariables false

theorem eqQ_selfD (x y : Int) : eqQAnt x y x y = true := by simp [eqQAnt]

set_option maxHeartbeats 4000000 in
theorem walkFnTurnVector (w : World) (A : Option Addr) (n c : Nat) (bs : List Int) (hz : IntsK .u8 w A n bs) (hl : n ≤ maxLen ∧ n ≤ c) (hf : ∀ j, (Lit.int .u8 (el bs j)).wf = true)
    (M : Option Addr) (m d : Nat) (ms : List Int) (hy : IntsK .u8 w M m ms) (hl' : m ≤ maxLen ∧ m ≤ d) (_ : ∀ j, (Lit.int .u8 (el ms j)).wf = true) :
    Calls Try.prog 11 #[.slice A n c, .slice M m d] w fun e w' => e = .returned (.bool true) ∧ Below w.heap.size w w' := by
  obtain ⟨hl, hcap⟩ := hl
  obtain ⟨hl', hcap'⟩ := hl'
  unfold maxLen at hl hl'
  by_cases hb : n ≤ 1048576
  · by_cases hbm : m ≤ 1048576
    · have HF := Lib.hid (bytes_in hf)
      clear hf
      go_enter Try.func11, Try.ntmps11
      go_wp2_with fail
      refine (DrawArrayTurn_any _ _ _ bs _ hz hb hcap HF.out).mono ?_
      rintro e w0 ⟨A1, n1, c1, ps, k, rfl, h0, hn1, hn2, B0⟩
      have hc1 := h0.cap
      have HL := Lib.hid h0.len
      have hp0 := h0
      clear h0
      have HV : Hid ((atV ps k).length ≤ 1048576) := atV_len ps k (by rw [HL.out]; omega)
      go_wp2_with fail
      refine (iTurn_any _ _ _ ps _ _ hp0.prs (by omega) hc1).mono ?_
      rintro e w1 ⟨Ao, no, co, rfl, oo, hb1⟩
      have B1 := below_step B0 hb1
      have hp1 := hp0.below hb1
      clear hp0
      have hon : no ≤ 1048577 := by have := oo.len; have := HV.out; omega
      have hoc := oo.cap
      have o1 := oo
      clear oo
      go_wp2_with fail
      refine (sTurn_any _ _ _ ps _ _ hp1.prs (by omega) hc1).mono ?_
      rintro e w2 ⟨At, nt, ct, rfl, to, hb2⟩
      have B2 := below_step B1 hb2
      have hp2 := hp1.below hb2
      clear hp1
      have o2 := o1.below hb2
      clear o1
      have htc := to.cap
      have t2 := to
      clear to
      cases hok : atOk ps k
      · have hok' := hok
        clear hok'
        go_wp2_with fail
        refine (sameAnts_any _ _ _ _ _ _ _ _ _ o2.prs t2.prs hon).mono ?_
        rintro e w3 ⟨he, hb3⟩
        rw [eqP_self] at he
        subst he
        have B3 := below_step B2 hb3
        have hp3 := hp2.below hb3
        clear hp2
        have o3 := o2.below hb3
        clear o2
        have t3 := t2.below hb3
        clear t2
        go_wp2_with fail
        refine (sameAnts_any _ _ _ _ _ _ _ _ _ o3.prs t3.prs hon).mono ?_
        rintro e w4 ⟨he, hb4⟩
        rw [eqP_self] at he
        subst he
        have B4 := below_step B3 hb4
        have hp4 := hp3.below hb4
        clear hp3
        have o4 := o3.below hb4
        clear o3
        have t4 := t3.below hb4
        clear t3
        go_wp2
        go_ret
        exact ⟨rfl, B4⟩
      · have hok' := hok
        have EV := Lib.hid (at_yes hok')
        go_wp2_with fail
        refine (sameAnts_any _ _ _ _ _ _ _ _ _ o2.prs t2.prs hon).mono ?_
        rintro e w3 ⟨he, hb3⟩
        rw [eqP_self] at he
        subst he
        have B3 := below_step B2 hb3
        have hp3 := hp2.below hb3
        clear hp2
        have o3 := o2.below hb3
        clear o2
        have t3 := t2.below hb3
        clear t2
        rw [EV.out] at o3
        obtain ⟨hav, hk0, hk3⟩ := at_true.1 hok'
        obtain ⟨K, rfl⟩ := Int.eq_ofNat_of_zero_le hk0
        rw [Int.toNat_natCast] at o3
        obtain rfl : n1 = no := by have := o3.len; rw [tuN_len] at this; have := HL.out; omega
        have hK3 : K ≤ 3 := by omega
        clear EV
        have hne : ((n1 : Int) == 0) = false := by simp; omega
        obtain ⟨q, hq, hqn⟩ : ∃ q : Nat, (m : Int) % (n1 : Int) = (q : Int) ∧ q < n1 := ⟨m % n1, by omega, Nat.mod_lt m (by omega)⟩
        obtain ⟨D, hD, hDm⟩ : ∃ D : Nat, (m : Int) / (n1 : Int) = (D : Int) ∧ D ≤ m := ⟨m / n1, (Int.natCast_ediv m n1).symm, Nat.div_le_self _ _⟩
        obtain ⟨r, hr, hrn⟩ : ∃ r : Nat, (D : Int) % (n1 : Int) = (r : Int) ∧ r < n1 := ⟨D % n1, by omega, Nat.mod_lt _ (by omega)⟩
        have e0 : atOk ps 1 = true := at_true.2 ⟨hav, by omega⟩
        have E0 := Lib.hid e0
        have E9 : Hid (atV ps 1 = ps.map tuF) := at_yes e0
        obtain ⟨e1, e2, e3, e4⟩ := tu_vec (i := q) (j := r) hav (by rw [HL.out]; exact hqn) (by rw [HL.out]; exact hrn)
        have E1 := Lib.hid e1
        have E2 := Lib.hid e2
        have E3 := Lib.hid e3
        have E4 := Lib.hid e4
        have b1 := bv_in ps (q : Int) (r : Int)
        clear e0 e1 e2 e3 e4 hav hok' 
        go_wp2_with fail
        refine (iTurn_any _ _ _ ps _ _ hp3.prs (by omega) hc1).mono ?_
        rintro e w4 ⟨Au, nu, cu, he, uo, hb4⟩
        rw [E0.out] at he
        subst he
        have B4 := below_step B3 hb4
        have hp4 := hp3.below hb4
        clear hp3
        have o4 := o3.below hb4
        clear o3
        have t4 := t3.below hb4
        clear t3
        rw [E9.out] at uo
        have hun : nu ≤ 1048577 := by have := uo.len; rw [List.length_map] at this; have := HL.out; omega
        have huc := uo.cap
        have u4 := uo
        clear uo
        go_wp2_with fail
        refine (iBaseV_any _ _ _ ps _ _ _ hp4.prs (by omega) hc1).mono ?_
        rintro e w5 ⟨he, hb5⟩
        rw [E1.out] at he
        subst he
        have B5 := below_step B4 hb5
        have hp5 := hp4.below hb5
        clear hp4
        have o5 := o4.below hb5
        clear o4
        have t5 := t4.below hb5
        clear t4
        have u5 := u4.below hb5
        clear u4
        have ha5 := below_alloc w5 (.cells #[.int .i64 (bvX ps (q : Int) (r : Int)), .int .i64 (bvY ps (q : Int) (r : Int))] 27)
        have an := Box.new w5 27 (bvX ps (q : Int) (r : Int)) (bvY ps (q : Int) (r : Int))
        have B6 := below_step B5 ha5
        have hp6 := hp5.below ha5
        clear hp5
        have o6 := o5.below ha5
        clear o5
        have t6 := t5.below ha5
        clear t5
        have u6 := u5.below ha5
        clear u5
        have a6 := an
        clear an
        have ax := a6.2.1
        have ay := a6.2.2
        go_wp2_with fail
        refine (iBaseV_any _ _ _ (ps.map tuF) _ _ _ u6.prs hun huc).mono ?_
        rintro e w7 ⟨he, hb7⟩
        rw [E2.out, E3.out, E4.out] at he
        subst he
        have B7 := below_step B6 hb7
        have hp7 := hp6.below hb7
        clear hp6
        have o7 := o6.below hb7
        clear o6
        have t7 := t6.below hb7
        clear t6
        have u7 := u6.below hb7
        clear u6
        have a7 := a6.below hb7
        clear a6
        clear ax ay
        have ax := a7.2.1
        have ay := a7.2.2
        have ha7 := below_alloc w7 (.cells #[.int .i64 (-(bvY ps (q : Int) (r : Int))), .int .i64 (bvX ps (q : Int) (r : Int))] 27)
        have vbn := Box.new w7 27 (-(bvY ps (q : Int) (r : Int))) (bvX ps (q : Int) (r : Int))
        have B8 := below_step B7 ha7
        have hp8 := hp7.below ha7
        clear hp7
        have o8 := o7.below ha7
        clear o7
        have t8 := t7.below ha7
        clear t7
        have u8 := u7.below ha7
        clear u7
        have a8 := a7.below ha7
        clear a7
        clear ax ay
        have ax := a8.2.1
        have ay := a8.2.2
        have vb8 := vbn
        clear vbn
        have vbx := vb8.2.1
        have vby := vb8.2.2
        generalize bvX ps (q : Int) (r : Int) = X at *
        generalize bvY ps (q : Int) (r : Int) = Y at *
        go_wp2
        go_ret
        exact ⟨rfl, B8⟩
    · have hb' : 1048576 < m := by omega
      clear hbm
      go_enter Try.func11, Try.ntmps11
      go_wp2
      go_ret
      exact ⟨rfl, Below.refl _ _⟩
  · have hb' : 1048576 < n := by omega
    clear hb
    go_enter Try.func11, Try.ntmps11
    go_wp2
    go_ret
    exact ⟨rfl, Below.refl _ _⟩

set_option maxHeartbeats 4000000 in
theorem walkFnTurnShift (w : World) (A : Option Addr) (n c : Nat) (bs : List Int) (hz : IntsK .u8 w A n bs) (hl : n ≤ maxLen ∧ n ≤ c) (hf : ∀ j, (Lit.int .u8 (el bs j)).wf = true) :
    Calls Try.prog 12 #[.slice A n c] w fun e w' => e = .returned (.bool true) ∧ Below w.heap.size w w' := by
  obtain ⟨hl, hcap⟩ := hl
  unfold maxLen at hl
  by_cases hb : n ≤ 1048576
  · have HF := Lib.hid (bytes_in hf)
    clear hf
    go_enter Try.func12, Try.ntmps12
    go_wp2_with fail
    refine (DrawArrayTurn_any _ _ _ bs _ hz hb hcap HF.out).mono ?_
    rintro e w0 ⟨A1, n1, c1, ps, k, rfl, h0, hn1, hn2, B0⟩
    have hc1 := h0.cap
    have HL := Lib.hid h0.len
    have hp0 := h0
    clear h0
    have HV : Hid ((atV ps k).length ≤ 1048576) := atV_len ps k (by rw [HL.out]; omega)
    go_wp2_with fail
    refine (iTurn_any _ _ _ ps _ _ hp0.prs (by omega) hc1).mono ?_
    rintro e w1 ⟨Ao, no, co, rfl, oo, hb1⟩
    have B1 := below_step B0 hb1
    have hp1 := hp0.below hb1
    clear hp0
    have hon : no ≤ 1048577 := by have := oo.len; have := HV.out; omega
    have hoc := oo.cap
    have o1 := oo
    clear oo
    go_wp2_with fail
    refine (sTurn_any _ _ _ ps _ _ hp1.prs (by omega) hc1).mono ?_
    rintro e w2 ⟨At, nt, ct, rfl, to, hb2⟩
    have B2 := below_step B1 hb2
    have hp2 := hp1.below hb2
    clear hp1
    have o2 := o1.below hb2
    clear o1
    have htc := to.cap
    have t2 := to
    clear to
    cases hok : atOk ps k
    · have hok' := hok
      clear hok'
      go_wp2_with fail
      refine (sameAnts_any _ _ _ _ _ _ _ _ _ o2.prs t2.prs hon).mono ?_
      rintro e w3 ⟨he, hb3⟩
      rw [eqP_self] at he
      subst he
      have B3 := below_step B2 hb3
      have hp3 := hp2.below hb3
      clear hp2
      have o3 := o2.below hb3
      clear o2
      have t3 := t2.below hb3
      clear t2
      go_wp2_with fail
      refine (sameAnts_any _ _ _ _ _ _ _ _ _ o3.prs t3.prs hon).mono ?_
      rintro e w4 ⟨he, hb4⟩
      rw [eqP_self] at he
      subst he
      have B4 := below_step B3 hb4
      have hp4 := hp3.below hb4
      clear hp3
      have o4 := o3.below hb4
      clear o3
      have t4 := t3.below hb4
      clear t3
      go_wp2
      go_ret
      exact ⟨rfl, B4⟩
    · have hok' := hok
      have EV := Lib.hid (at_yes hok')
      go_wp2_with fail
      refine (sameAnts_any _ _ _ _ _ _ _ _ _ o2.prs t2.prs hon).mono ?_
      rintro e w3 ⟨he, hb3⟩
      rw [eqP_self] at he
      subst he
      have B3 := below_step B2 hb3
      have hp3 := hp2.below hb3
      clear hp2
      have o3 := o2.below hb3
      clear o2
      have t3 := t2.below hb3
      clear t2
      rw [EV.out] at o3
      obtain ⟨hav, hk0, hk3⟩ := at_true.1 hok'
      obtain ⟨K, rfl⟩ := Int.eq_ofNat_of_zero_le hk0
      rw [Int.toNat_natCast] at o3
      obtain rfl : n1 = no := by have := o3.len; rw [tuN_len] at this; have := HL.out; omega
      have hK3 : K ≤ 3 := by omega
      clear EV
      have HS : Hid (asOk ps 1 2 = true → atOk (ps.map (shF 1 2)) (K : Int) = true ∧ asOk (tuN ps K) (oneTwo K).1 (oneTwo K).2 = true ∧ atV (ps.map (shF 1 2)) (K : Int) = asV (tuN ps K) (oneTwo K).1 (oneTwo K).2) := fun h => tu_shift hK3 hav h
      have HV1 : Hid ((asV ps 1 2).length ≤ 1048576) := asV_len _ _ _ (by rw [HL.out]; omega)
      clear hav hok'
      have ha3 := below_alloc w3 (.cells #[.int .i64 1, .int .i64 2] 27)
      have z0 : BoxT 27 (w3.alloc (.cells #[.int .i64 1, .int .i64 2] 27)) w3.heap.size (oneTwo 0).1 (oneTwo 0).2 := BoxT.new 27 w3 1 2
      go_wp2
      go_loopw [10] (fun i wr => ∃ j : Nat, j ≤ K ∧ i = .int .i64 j ∧ BoxT 27 wr w3.heap.size (oneTwo j).1 (oneTwo j).2 ∧ Below w3.heap.size w3 wr) (fun i _ => K - (intOf i).toNat)
      case atStart => exact ⟨0, Nat.zero_le _, rfl, z0, ha3⟩
      case round =>
        obtain ⟨j, hj, rfl, z, hbl⟩ := hrel
        clear z0 ha3
        by_cases hlt : j < K
        · have hi := oneTwo_in j
          have HZ : Hid (∀ u v, BoxT 27 ((wr.setCell ⟨w3.heap.size, 0, none⟩ (.int .i64 u)).setCell ⟨w3.heap.size, 1, none⟩ (.int .i64 v)) w3.heap.size u v) := fun u v => z.set2 u v
          have HQ : Hid ((oneTwo (j + 1)).1 = -(oneTwo j).2 ∧ (oneTwo (j + 1)).2 = (oneTwo j).1) := ⟨rfl, rfl⟩
          have q1 := z.c0
          have q2 := z.c1
          have q3 := z.fz 0
          have q4 := z.fz 1
          generalize (oneTwo j).1 = X at hi HQ q1
          generalize (oneTwo j).2 = Y at hi HQ q2
          clear z
          have HBl := Lib.hid ((hbl.setCell (p := ⟨w3.heap.size, 0, none⟩) (Nat.le_refl _) (.int .i64 (-Y))).setCell (p := ⟨w3.heap.size, 1, none⟩) (Nat.le_refl _) (.int .i64 X))
          go_wp2
          go_roundw
          case rel => exact ⟨j + 1, by omega, by go_num, by rw [HQ.out.1, HQ.out.2]; exact HZ.out _ _, HBl.out⟩
          case measure => simp [intOf]; omega
        · obtain rfl : j = K := by omega
          have hi := oneTwo_in j
          have BL := below_step B3 hbl
          have hpL := hp3.below hbl
          have hoL := o3.below hbl
          generalize (oneTwo j).1 = X at hi z HS
          generalize (oneTwo j).2 = Y at hi z HS
          go_wp2_with fail
          refine (iShift_any _ _ _ ps _ _ _ hpL.prs (by omega) hc1).mono ?_
          rintro e wa ⟨Aa, na, ca, he, hoa, hba⟩
          have Ba := below_step BL hba
          have hna : na ≤ 1048577 := by have := hoa.len; have := HV1.out; omega
          have hca := hoa.cap
          cases hs : asOk ps 1 2
          · have HSS := Lib.hid hs
            rw [hs] at he
            subst he
            rw [as_no hs] at hoa
            clear hs
            have za := z.below hba
            go_wp2_with fail
            refine (iTurn_any _ _ _ [] _ _ hoa.prs hna hca).mono ?_
            rintro e wb ⟨Ab, nb, cb, rfl, hob, hbb⟩
            have Bb := below_step Ba hbb
            have zb := za.below hbb
            have q1 := zb.c0
            have q2 := zb.c1
            go_wp2_with fail
            refine (iShift_any _ _ _ (tuN ps j) _ _ _ ((hoL.below hba).below hbb).prs (by omega) hoc).mono ?_
            rintro e wc ⟨Ac, nc, cc, rfl, hoc', hbc⟩
            have Bc := below_step Bb hbc
            go_wp2
            go_ret
            exact ⟨rfl, Bc⟩
          · obtain ⟨e1, e2, e3⟩ := HS.out hs
            have E1 := Lib.hid e1
            have E2 := Lib.hid e2
            have E3 := Lib.hid e3
            rw [hs] at he
            subst he
            rw [as_yes hs] at hoa
            have HV2 : Hid ((atV (ps.map (shF 1 2)) (j : Int)).length ≤ 1048576) := atV_len _ _ (by rw [List.length_map, HL.out]; omega)
            clear hs e1 e2 e3
            have za := z.below hba
            go_wp2_with fail
            refine (iTurn_any _ _ _ (ps.map (shF 1 2)) _ _ hoa.prs hna hca).mono ?_
            rintro e wb ⟨Ab, nb, cb, he, hob, hbb⟩
            rw [E1.out] at he
            subst he
            have Bb := below_step Ba hbb
            have hnb : nb ≤ 1048577 := by have := hob.len; have := HV2.out; omega
            have zb := za.below hbb
            have q1 := zb.c0
            have q2 := zb.c1
            go_wp2_with fail
            refine (iShift_any _ _ _ (tuN ps j) _ _ _ ((hoL.below hba).below hbb).prs (by omega) hoc).mono ?_
            rintro e wc ⟨Ac, nc, cc, he, hoc', hbc⟩
            rw [E2.out] at he
            subst he
            have Bc := below_step Bb hbc
            rw [E3.out] at hob
            go_wp2_with fail
            refine (sameAnts_any _ _ _ _ _ _ _ _ _ (hob.below hbc).prs hoc'.prs hnb).mono ?_
            rintro e wd ⟨he, hbd⟩
            rw [eqP_self] at he
            subst he
            go_wp2
            go_ret
            exact ⟨rfl, below_step Bc hbd⟩
  · have hb' : 1048576 < n := by omega
    clear hb
    go_enter Try.func12, Try.ntmps12
    go_wp2
    go_ret
    exact ⟨rfl, Below.refl _ _⟩

end Go.Proofs.Ytlbclpkmdfgokaa
