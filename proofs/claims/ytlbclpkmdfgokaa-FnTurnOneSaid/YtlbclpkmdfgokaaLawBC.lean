/-
  The walk of laws.FnTurn, FnTurnOne.
-/
import Derived.Test.YtlbclpkmdfgokaaArrF
import Derived.Test.YtlbclpkmdfgokaaAntS
import Derived.Test.YtlbclpkmdfgokaaDrawAT
namespace Go.Proofs.Ytlbclpkmdfgokaa
open Go.RowKit
set_option linter.unusedVariables false

theorem eqQ_selfC (x y : Int) : eqQAnt x y x y = true := by simp [eqQAnt]

set_option maxHeartbeats 4000000 in
theorem walkFnTurn (w : World) (A : Option Addr) (n c : Nat) (bs : List Int) (hz : IntsK .u8 w A n bs) (hl : n ≤ maxLen ∧ n ≤ c) (hf : ∀ j, (Lit.int .u8 (el bs j)).wf = true) :
    Calls Try.prog 8 #[.slice A n c] w fun e w' => e = .returned (.bool true) ∧ Below w.heap.size w w' := by
  obtain ⟨hl, hcap⟩ := hl
  unfold maxLen at hl
  by_cases hb : n ≤ 1048576
  · have HF := Lib.hid (bytes_in hf)
    clear hf
    go_enter Try.func8, Try.ntmps8
    go_wp2_with fail
    refine (DrawArrayTurn_any _ _ _ bs _ hz hb hcap HF.out).mono ?_
    rintro e w0 ⟨A1, n1, c1, ps, k, rfl, h0, hn1, hn2, B0⟩
    have hc1 := h0.cap
    have HL := Lib.hid h0.len
    have hp0 := h0
    clear h0
    have HV : Hid ((atV ps k).length ≤ 1048576) := atV_len ps k (by rw [HL.out]; omega)
    go_wp2_with fail
    refine (iTurn_any _ _ _ ps _ _ hp0.prs (by omega) hc1).mono ?_
    rintro e w1 ⟨Ao, no, co, rfl, oo, hb1⟩
    have B1 := below_step B0 hb1
    have hp1 := hp0.below hb1
    clear hp0
    have hon : no ≤ 1048577 := by have := oo.len; have := HV.out; omega
    have hoc := oo.cap
    have o1 := oo
    clear oo
    go_wp2_with fail
    refine (sTurn_any _ _ _ ps _ _ hp1.prs (by omega) hc1).mono ?_
    rintro e w2 ⟨At, nt, ct, rfl, to, hb2⟩
    have B2 := below_step B1 hb2
    have hp2 := hp1.below hb2
    clear hp1
    have o2 := o1.below hb2
    clear o1
    have htc := to.cap
    have t2 := to
    clear to
    cases hok : atOk ps k
    · have hok' := hok
      clear hok'
      go_wp2_with fail
      refine (sameAnts_any _ _ _ _ _ _ _ _ _ o2.prs t2.prs hon).mono ?_
      rintro e w3 ⟨he, hb3⟩
      rw [eqP_self] at he
      subst he
      have B3 := below_step B2 hb3
      have hp3 := hp2.below hb3
      clear hp2
      have o3 := o2.below hb3
      clear o2
      have t3 := t2.below hb3
      clear t2
      go_wp2_with fail
      refine (sameAnts_any _ _ _ _ _ _ _ _ _ o3.prs t3.prs hon).mono ?_
      rintro e w4 ⟨he, hb4⟩
      rw [eqP_self] at he
      subst he
      have B4 := below_step B3 hb4
      have hp4 := hp3.below hb4
      clear hp3
      have o4 := o3.below hb4
      clear o3
      have t4 := t3.below hb4
      clear t3
      go_wp2
      go_ret
      exact ⟨rfl, B4⟩
    · have hok' := hok
      have EV := Lib.hid (at_yes hok')
      go_wp2_with fail
      refine (sameAnts_any _ _ _ _ _ _ _ _ _ o2.prs t2.prs hon).mono ?_
      rintro e w3 ⟨he, hb3⟩
      rw [eqP_self] at he
      subst he
      have B3 := below_step B2 hb3
      have hp3 := hp2.below hb3
      clear hp2
      have o3 := o2.below hb3
      clear o2
      have t3 := t2.below hb3
      clear t2
      rw [EV.out] at o3
      obtain ⟨hav, hk0, hk3⟩ := at_true.1 hok'
      obtain ⟨K, rfl⟩ := Int.eq_ofNat_of_zero_le hk0
      rw [Int.toNat_natCast] at o3
      obtain rfl : n1 = no := by have := o3.len; rw [tuN_len] at this; have := HL.out; omega
      have hK3 : K ≤ 3 := by omega
      clear EV
      obtain ⟨e1, e2⟩ := tu_back hav hK3
      have hkk : (((4 - K) % 4 : Nat) : Int) = (-(K : Int)) % 4 := by omega
      rw [hkk] at e1 e2
      have E1 := Lib.hid e1
      have E2 := Lib.hid e2
      have HN : Hid (∀ j, j < n1 → px (tuN ps K) j * px (tuN ps K) j + py (tuN ps K) j * py (tuN ps K) j = px ps j * px ps j + py ps j * py ps j) := fun j hj => tu_norm K j (by rw [HL.out]; exact hj)
      have HR0 : Hid (∀ j, j < n1 → (-1000 ≤ px ps j ∧ px ps j ≤ 1000) ∧ (-1000 ≤ py ps j ∧ py ps j ≤ 1000)) := fun j hj => av_in hav (by rw [HL.out]; exact hj)
      have HR1 : Hid (∀ j, j < n1 → (-1000 ≤ px (tuN ps K) j ∧ px (tuN ps K) j ≤ 1000) ∧ (-1000 ≤ py (tuN ps K) j ∧ py (tuN ps K) j ≤ 1000)) := fun j hj => av_in (av_tuN hav K) (by rw [tuN_len, HL.out]; exact hj)
      clear e1 e2 hav hok' hkk
      go_wp2_with fail
      refine (iTurn_any _ _ _ (tuN ps K) _ _ o3.prs (by omega) hoc).mono ?_
      rintro e w4 ⟨Ax, nx, cx, he, xo, hb4⟩
      rw [E1.out] at he
      subst he
      have B4 := below_step B3 hb4
      have hp4 := hp3.below hb4
      clear hp3
      have o4 := o3.below hb4
      clear o3
      have t4 := t3.below hb4
      clear t3
      rw [E2.out] at xo
      have hxn : nx ≤ 1048577 := by have := xo.len; have := HL.out; omega
      have hxc := xo.cap
      have x4 := xo
      clear xo
      go_wp2
      go_loopw [11] (fun i wr => ∃ j : Nat, j ≤ n1 ∧ i = .int .i64 j ∧ ∃ q, wr = w4.drewN q) (fun i _ => n1 - (intOf i).toNat)
      case atStart => exact ⟨0, Nat.zero_le _, rfl, 0, rfl⟩
      case round =>
        obtain ⟨j, hj, rfl, q, rfl⟩ := hrel
        by_cases hlt : j < n1
        · obtain ⟨b, off, rfl, hbb, hcc⟩ := hp4.prs.at_ (by omega)
          obtain ⟨b', off', rfl, hbb', hcc'⟩ := o4.prs.at_ (by omega)
          obtain ⟨c1', c2'⟩ := hcc j hlt
          obtain ⟨c3', c4'⟩ := hcc' j hlt
          have hji : (j : Int) < (n1 : Int) := by omega
          have r0 := HR0.out j hlt
          have r1 := HR1.out j hlt
          have hN := HN.out j hlt
          clear hcc hcc'
          generalize px ps j = a1 at r0 hN c1'
          generalize py ps j = a2 at r0 hN c2'
          generalize px (tuN ps K) j = b1 at r1 hN c3'
          generalize py (tuN ps K) j = b2 at r1 hN c4'
          have m1 := mul_in r0.1 r0.1
          have m2 := mul_in r0.2 r0.2
          have m3 := mul_in r1.1 r1.1
          have m4 := mul_in r1.2 r1.2
          have V1 : Hid (IntKind.i64.wrap (a1 * a1) = a1 * a1) := IntWalk.i64_in _ (by omega)
          have V2 : Hid (IntKind.i64.wrap (a2 * a2) = a2 * a2) := IntWalk.i64_in _ (by omega)
          have V3 : Hid (IntKind.i64.wrap (b1 * b1) = b1 * b1) := IntWalk.i64_in _ (by omega)
          have V4 : Hid (IntKind.i64.wrap (b2 * b2) = b2 * b2) := IntWalk.i64_in _ (by omega)
          have V5 : Hid (IntKind.i64.wrap (a1 * a1 + a2 * a2) = a1 * a1 + a2 * a2) := IntWalk.i64_in _ (by omega)
          have V6 : Hid (IntKind.i64.wrap (b1 * b1 + b2 * b2) = b1 * b1 + b2 * b2) := IntWalk.i64_in _ (by omega)
          have V7 : Hid ((a1 * a1 + a2 * a2 != b1 * b1 + b2 * b2) = false) := by rw [Hid, hN]; simp
          clear hN r0 r1 m1 m2 m3 m4
          go_wp2
          have v1 := V1.out
          have v2 := V2.out
          have v3 := V3.out
          have v4 := V4.out
          have v5 := V5.out
          have v6 := V6.out
          have v7 := V7.out
          go_quiet (fail)
          clear v1 v2 v3 v4 v5 v6 v7
          go_wp2
          go_roundw
          case rel => exact ⟨j + 1, by omega, by go_num, _, rfl⟩
          case measure => simp [intOf]; omega
        · have hxd : Prs (w4.drewN q) Ax nx ps := x4.prs
          have hpd : Prs (w4.drewN q) A1 n1 ps := hp4.prs
          have BD := below_drewN B4 q
          go_wp2_with fail
          refine (sameAnts_any _ _ _ _ _ _ _ _ _ hxd hpd hxn).mono ?_
          rintro e w9 ⟨he, hb9⟩
          rw [eqP_self] at he
          subst he
          go_wp2
          go_ret
          exact ⟨rfl, below_step BD hb9⟩
  · have hb' : 1048576 < n := by omega
    clear hb
    go_enter Try.func8, Try.ntmps8
    go_wp2
    go_ret
    exact ⟨rfl, Below.refl _ _⟩

set_option maxHeartbeats 4000000 in
theorem walkFnTurnOne (w : World) (A : Option Addr) (n c : Nat) (bs : List Int) (hz : IntsK .u8 w A n bs) (hl : n ≤ maxLen ∧ n ≤ c) (hf : ∀ j, (Lit.int .u8 (el bs j)).wf = true) :
    Calls Try.prog 9 #[.slice A n c] w fun e w' => e = .returned (.bool true) ∧ Below w.heap.size w w' := by
  obtain ⟨hl, hcap⟩ := hl
  unfold maxLen at hl
  by_cases hb : n ≤ 1048576
  · have HF := Lib.hid (bytes_in hf)
    clear hf
    go_enter Try.func9, Try.ntmps9
    go_wp2_with fail
    refine (DrawArrayTurn_any _ _ _ bs _ hz hb hcap HF.out).mono ?_
    rintro e w0 ⟨A1, n1, c1, ps, k, rfl, h0, hn1, hn2, B0⟩
    have hc1 := h0.cap
    have HL := Lib.hid h0.len
    have hp0 := h0
    clear h0
    have HV : Hid ((atV ps k).length ≤ 1048576) := atV_len ps k (by rw [HL.out]; omega)
    go_wp2_with fail
    refine (iTurn_any _ _ _ ps _ _ hp0.prs (by omega) hc1).mono ?_
    rintro e w1 ⟨Ao, no, co, rfl, oo, hb1⟩
    have B1 := below_step B0 hb1
    have hp1 := hp0.below hb1
    clear hp0
    have hon : no ≤ 1048577 := by have := oo.len; have := HV.out; omega
    have hoc := oo.cap
    have o1 := oo
    clear oo
    go_wp2_with fail
    refine (sTurn_any _ _ _ ps _ _ hp1.prs (by omega) hc1).mono ?_
    rintro e w2 ⟨At, nt, ct, rfl, to, hb2⟩
    have B2 := below_step B1 hb2
    have hp2 := hp1.below hb2
    clear hp1
    have o2 := o1.below hb2
    clear o1
    have htc := to.cap
    have t2 := to
    clear to
    cases hok : atOk ps k
    · have hok' := hok
      clear hok'
      go_wp2_with fail
      refine (sameAnts_any _ _ _ _ _ _ _ _ _ o2.prs t2.prs hon).mono ?_
      rintro e w3 ⟨he, hb3⟩
      rw [eqP_self] at he
      subst he
      have B3 := below_step B2 hb3
      have hp3 := hp2.below hb3
      clear hp2
      have o3 := o2.below hb3
      clear o2
      have t3 := t2.below hb3
      clear t2
      go_wp2_with fail
      refine (sameAnts_any _ _ _ _ _ _ _ _ _ o3.prs t3.prs hon).mono ?_
      rintro e w4 ⟨he, hb4⟩
      rw [eqP_self] at he
      subst he
      have B4 := below_step B3 hb4
      have hp4 := hp3.below hb4
      clear hp3
      have o4 := o3.below hb4
      clear o3
      have t4 := t3.below hb4
      clear t3
      go_wp2
      go_ret
      exact ⟨rfl, B4⟩
    · have hok' := hok
      have EV := Lib.hid (at_yes hok')
      go_wp2_with fail
      refine (sameAnts_any _ _ _ _ _ _ _ _ _ o2.prs t2.prs hon).mono ?_
      rintro e w3 ⟨he, hb3⟩
      rw [eqP_self] at he
      subst he
      have B3 := below_step B2 hb3
      have hp3 := hp2.below hb3
      clear hp2
      have o3 := o2.below hb3
      clear o2
      have t3 := t2.below hb3
      clear t2
      rw [EV.out] at o3
      obtain ⟨hav, hk0, hk3⟩ := at_true.1 hok'
      obtain ⟨K, rfl⟩ := Int.eq_ofNat_of_zero_le hk0
      rw [Int.toNat_natCast] at o3
      obtain rfl : n1 = no := by have := o3.len; rw [tuN_len] at this; have := HL.out; omega
      have hK3 : K ≤ 3 := by omega
      clear EV
      obtain ⟨e1, e2, e3⟩ := tu_next hav hK3
      have hkk : (((K + 1) % 4 : Nat) : Int) = ((K : Int) + 1) % 4 := by omega
      rw [hkk] at e2 e3
      have E1 := Lib.hid e1
      have E2 := Lib.hid e2
      have E3 := Lib.hid e3
      have HV1 : Hid ((atV (tuN ps K) 1).length ≤ 1048576) := atV_len _ _ (by rw [tuN_len, HL.out]; omega)
      clear e1 e2 e3 hav hok' hkk
      go_wp2_with fail
      refine (iTurn_any _ _ _ (tuN ps K) _ _ o3.prs (by omega) hoc).mono ?_
      rintro e w4 ⟨Ax, nx, cx, he, xo, hb4⟩
      rw [E1.out] at he
      subst he
      have B4 := below_step B3 hb4
      have hp4 := hp3.below hb4
      clear hp3
      have o4 := o3.below hb4
      clear o3
      have t4 := t3.below hb4
      clear t3
      have hxn : nx ≤ 1048577 := by have := xo.len; have := HV1.out; omega
      have hxc := xo.cap
      have x4 := xo
      clear xo
      go_wp2_with fail
      refine (iTurn_any _ _ _ ps _ _ hp4.prs (by omega) hc1).mono ?_
      rintro e w5 ⟨Ay, ny, cy, he, yo, hb5⟩
      rw [E2.out] at he
      subst he
      have B5 := below_step B4 hb5
      have hp5 := hp4.below hb5
      clear hp4
      have o5 := o4.below hb5
      clear o4
      have t5 := t4.below hb5
      clear t4
      have x5 := x4.below hb5
      clear x4
      have hyc := yo.cap
      have y5 := yo
      clear yo
      rw [E3.out] at x5
      go_wp2_with fail
      refine (sameAnts_any _ _ _ _ _ _ _ _ _ x5.prs y5.prs hxn).mono ?_
      rintro e w6 ⟨he, hb6⟩
      rw [eqP_self] at he
      subst he
      have B6 := below_step B5 hb6
      have hp6 := hp5.below hb6
      clear hp5
      have o6 := o5.below hb6
      clear o5
      have t6 := t5.below hb6
      clear t5
      have x6 := x5.below hb6
      clear x5
      have y6 := y5.below hb6
      clear y5
      go_wp2
      go_ret
      exact ⟨rfl, B6⟩
  · have hb' : 1048576 < n := by omega
    clear hb
    go_enter Try.func9, Try.ntmps9
    go_wp2
    go_ret
    exact ⟨rfl, Below.refl _ _⟩

end Go.Proofs.Ytlbclpkmdfgokaa
