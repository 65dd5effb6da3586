/-
  The walk of laws.FnGainTurn.
-/
import Derived.Test.YtmkdbbbnhbbhfaaVisT
import Derived.Test.YtmkdbbbnhbbhfaaVisS
import Derived.Test.YtmkdbbbnhbbhfaaDrawGT
namespace Go.Proofs.Ytmkdbbbnhbbhfaa
open Go.RowKit
set_option linter.unusedVariables false

theorem gt_true {n : Int} {ps : List (Int × Int)} {b : Int} (h : gtOk n ps b = true) : gvB n ps = true ∧ 0 ≤ b ∧ b ≤ 359 := by
  simp only [gtOk, Bool.and_eq_true, betB_true] at h; exact h
theorem gt_back {n : Int} {ps : List (Int × Int)} {b : Int} (h : gtOk n ps b = true) : gtOk n (ps.map (gtF b)) (cyc (-b) 360) = true ∧ gtV n (ps.map (gtF b)) (cyc (-b) 360) = ps := by
  obtain ⟨h1, h2, h3⟩ := gt_true h
  obtain ⟨k1, k2, k3⟩ := gv_true h1
  have c1 := cyc_ge (k := -b) (n := 360) (by omega)
  have c2 := cyc_lt (k := -b) (n := 360) (by omega)
  have hg : gvB n (ps.map (gtF b)) = true := by
    refine gv_mk k1 (by rw [List.length_map]; exact k2) (vAll_true fun j hj => ?_)
    rw [List.length_map] at hj
    have hv := vin_true (vAll_at k3 hj)
    rw [px_map (gtF b) hj, py_map (gtF b) hj]
    have d1 := cyc_ge (k := py ps j + b) (n := 360) (by omega)
    have d2 := cyc_lt (k := py ps j + b) (n := 360) (by omega)
    exact vin_mk hv.1 (by simp only [gtF]; omega)
  have hok : gtOk n (ps.map (gtF b)) (cyc (-b) 360) = true := by
    simp only [gtOk, Bool.and_eq_true, betB_true]; exact ⟨hg, by omega, by omega⟩
  refine ⟨hok, ?_⟩
  rw [gt_yes hok]
  refine pair_ext (by simp) fun j hj => ?_
  rw [List.length_map, List.length_map] at hj
  have hj1 : j < (ps.map (gtF b)).length := by rw [List.length_map]; exact hj
  rw [px_map _ hj1, py_map _ hj1, px_map _ hj, py_map _ hj]
  have hv := vin_true (vAll_at k3 hj)
  refine ⟨rfl, ?_⟩
  simp only [gtF]
  have e1 : cyc (cyc (py ps j + b) 360 + cyc (-b) 360) 360 = cyc (py ps j) 360 := by
    rw [cyc_cyc]
    unfold cyc
    rw [Int.add_emod_emod]
    congr 1
    omega
  rw [e1]
  exact cyc_small (by omega) (by omega)

set_option maxHeartbeats 4000000 in
theorem walkFnGainTurn (w : World) (A : Option Addr) (n c : Nat) (bs : List Int) (hz : IntsK .u8 w A n bs) (hl : n ≤ maxLen ∧ n ≤ c) (hf : ∀ j, (Lit.int .u8 (el bs j)).wf = true) :
    Calls Try.prog 9 #[.slice A n c] w fun e w' => e = .returned (.bool true) ∧ Below w.heap.size w w' := by
  obtain ⟨hl, hcap⟩ := hl
  unfold maxLen at hl
  by_cases hb : n ≤ 1048576
  · have HF := Lib.hid (bytes_in hf)
    clear hf
    go_enter Try.func9, Try.ntmps9
    go_wp2_with fail
    refine (DrawGainTurn_any _ _ _ bs _ hz hb hcap HF.out).mono ?_
    rintro e w0 ⟨N, A1, n1, c1, ps, b, rfl, hN1, hN2, h0, hn1, B0⟩
    have hc1 := h0.cap
    have HL := Lib.hid h0.len
    have hp0 := h0
    clear h0
    have HV : Hid ((gtV (N : Int) ps b).length ≤ 1048576) := gtV_len _ ps b (by rw [HL.out]; omega)
    go_wp2_with fail
    refine (iGainTurn_any _ _ _ _ ps _ _ hp0.prs (by omega)).mono ?_
    rintro e w1 ⟨Ao, no, co, rfl, oo, hb1⟩
    have B1 := below_step B0 hb1
    have hp1 := hp0.below hb1
    clear hp0
    have hon : no ≤ 1048577 := by have := oo.len; have := HV.out; omega
    have hoc := oo.cap
    have o1 := oo
    clear oo
    go_wp2_with fail
    refine (sGainTurn_any _ _ _ _ ps _ _ hp1.prs (by omega)).mono ?_
    rintro e w2 ⟨At, nt, ct, rfl, to, hb2⟩
    have B2 := below_step B1 hb2
    have hp2 := hp1.below hb2
    clear hp1
    have o2 := o1.below hb2
    clear o1
    have htc := to.cap
    have t2 := to
    clear to
    cases hok : gtOk (N : Int) ps b
    · have hok' := hok
      clear hok'
      go_wp2_with fail
      refine (sameVis_any _ _ _ _ _ _ _ _ _ o2.prs t2.prs hon).mono ?_
      rintro e w3 ⟨he, hb3⟩
      rw [eqP_self] at he
      subst he
      have B3 := below_step B2 hb3
      have hp3 := hp2.below hb3
      clear hp2
      have o3 := o2.below hb3
      clear o2
      have t3 := t2.below hb3
      clear t2
      go_wp2_with fail
      refine (sameVis_any _ _ _ _ _ _ _ _ _ o3.prs t3.prs hon).mono ?_
      rintro e w4 ⟨he, hb4⟩
      rw [eqP_self] at he
      subst he
      have B4 := below_step B3 hb4
      have hp4 := hp3.below hb4
      clear hp3
      have o4 := o3.below hb4
      clear o3
      have t4 := t3.below hb4
      clear t3
      go_wp2
      go_ret
      exact ⟨rfl, B4⟩
    · have hok' := hok
      have EV := Lib.hid (gt_yes hok')
      go_wp2_with fail
      refine (sameVis_any _ _ _ _ _ _ _ _ _ o2.prs t2.prs hon).mono ?_
      rintro e w3 ⟨he, hb3⟩
      rw [eqP_self] at he
      subst he
      have B3 := below_step B2 hb3
      have hp3 := hp2.below hb3
      clear hp2
      have o3 := o2.below hb3
      clear o2
      have t3 := t2.below hb3
      clear t2
      rw [EV.out] at o3
      obtain rfl : n1 = no := by have := o3.len; rw [List.length_map] at this; have := HL.out; omega
      obtain ⟨hgv, hb0, hb1'⟩ := gt_true hok'
      obtain ⟨_, hMl, _⟩ := gv_true hgv
      rw [HL.out] at hMl
      obtain rfl : N = n1 := by omega
      obtain ⟨e1, e2⟩ := gt_back hok'
      have E1 := Lib.hid e1
      have E2 := Lib.hid e2
      have HA : Hid (∀ j, j < N → px (ps.map (gtF b)) j = px ps j) := fun j hj => by rw [px_map (gtF b) (by rw [HL.out]; exact hj)]; rfl
      clear e1 e2 hgv hok' hMl EV
      go_wp2_with fail
      refine (iPhaseOf_any _ _).mono ?_
      rintro e w' ⟨rfl, rfl⟩
      go_wp2_with fail
      refine (iGainTurn_any _ _ _ _ (ps.map (gtF b)) _ _ o3.prs (by omega)).mono ?_
      rintro e w4 ⟨Ax, nx, cx, he, xo, hb4⟩
      rw [E1.out] at he
      subst he
      have B4 := below_step B3 hb4
      have hp4 := hp3.below hb4
      clear hp3
      have o4 := o3.below hb4
      clear o3
      have t4 := t3.below hb4
      clear t3
      rw [E2.out] at xo
      have hxn : nx ≤ 1048577 := by have := xo.len; have := HL.out; omega
      have hxc := xo.cap
      have x4 := xo
      clear xo
      go_wp2
      go_loopw [12] (fun i wr => ∃ j : Nat, j ≤ N ∧ i = .int .i64 j ∧ ∃ q, wr = w4.drewN q) (fun i _ => N - (intOf i).toNat)
      case atStart => exact ⟨0, Nat.zero_le _, rfl, 0, rfl⟩
      case round =>
        obtain ⟨j, hj, rfl, q, rfl⟩ := hrel
        by_cases hlt : j < N
        · obtain ⟨b', off, rfl, hbb, hcc⟩ := hp4.prs.at_ (by omega)
          obtain ⟨b'', off', rfl, hbb', hcc'⟩ := o4.prs.at_ (by omega)
          obtain ⟨c1', c2'⟩ := hcc j hlt
          obtain ⟨c3', c4'⟩ := hcc' j hlt
          rw [HA.out j hlt] at c3'
          have hji : (j : Int) < (N : Int) := by omega
          clear hcc hcc'
          go_wp2
          go_quiet (fail)
          go_wp2
          go_roundw
          case rel => exact ⟨j + 1, by omega, by go_num, _, rfl⟩
          case measure => simp [intOf]; omega
        · have hxd : Prs (w4.drewN q) Ax nx ps := x4.prs
          have hpd : Prs (w4.drewN q) A1 N ps := hp4.prs
          have BD := below_drewN B4 q
          go_wp2_with fail
          refine (sameVis_any _ _ _ _ _ _ _ _ _ hxd hpd hxn).mono ?_
          rintro e w9 ⟨he, hb9⟩
          rw [eqP_self] at he
          subst he
          go_wp2
          go_ret
          exact ⟨rfl, below_step BD hb9⟩
  · have hb' : 1048576 < n := by omega
    clear hb
    go_enter Try.func9, Try.ntmps9
    go_wp2
    go_ret
    exact ⟨rfl, Below.refl _ _⟩

end Go.Proofs.Ytmkdbbbnhbbhfaa
