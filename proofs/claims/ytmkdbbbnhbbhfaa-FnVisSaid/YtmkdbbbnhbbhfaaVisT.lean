/-
  Contracts: GainTurn of the program and of the reference.
-/
import Derived.Test.YtmkdbbbnhbbhfaaVisW
import Derived.Test.YtmkdbbbnhbbhfaaPhase
import Derived.Test.YtmkdbbbnhbbhfaaVisA
import Derived.Deep.RegionLaw
import Derived.IntWalk
import Derived.Deep.DrawnRows
namespace Go.Proofs.Ytmkdbbbnhbbhfaa
open Go.RowKit
set_option linter.unusedVariables false
attribute [local go_sem ↓] Go.wp_at_zero Go.wp_at_succ

/-- GainTurn: the phases turned. -/
def gtF (by_ : Int) (p : Int × Int) : Int × Int := (p.1, cyc (p.2 + by_) 360)
def gtOk (n : Int) (ps : List (Int × Int)) (by_ : Int) : Bool := gvB n ps && betB by_ 0 359
def gtV (n : Int) (ps : List (Int × Int)) (by_ : Int) : List (Int × Int) := if gtOk n ps by_ then ps.map (gtF by_) else []
theorem gt_no {n : Int} {ps : List (Int × Int)} {b : Int} (h : gtOk n ps b = false) : gtV n ps b = [] := by simp [gtV, h]
theorem gt_yes {n : Int} {ps : List (Int × Int)} {b : Int} (h : gtOk n ps b = true) : gtV n ps b = ps.map (gtF b) := by simp [gtV, h]
theorem gv_true {n : Int} {ps : List (Int × Int)} (h : gvB n ps = true) : (2 ≤ n ∧ n ≤ 7) ∧ (ps.length : Int) = n ∧ vAll ps 99 = true := by
  simp only [gvB, Bool.and_eq_true, decide_eq_true_eq] at h
  exact ⟨betB_true.1 h.1, h.2⟩
theorem gv_mk {n : Int} {ps : List (Int × Int)} (h : 2 ≤ n ∧ n ≤ 7) (hl : (ps.length : Int) = n) (hv : vAll ps 99 = true) : gvB n ps = true := by
  simp only [gvB, Bool.and_eq_true, decide_eq_true_eq]
  exact ⟨betB_true.2 h, hl, hv⟩
theorem vin_true {lim x y : Int} (h : vin lim x y = true) : (1 ≤ x ∧ x ≤ lim) ∧ (0 ≤ y ∧ y ≤ 359) := by
  simp only [vin, Bool.and_eq_true] at h
  exact ⟨betB_true.1 h.1, betB_true.1 h.2⟩
theorem vin_mk {lim x y : Int} (h : 1 ≤ x ∧ x ≤ lim) (h' : 0 ≤ y ∧ y ≤ 359) : vin lim x y = true := by
  simp only [vin, Bool.and_eq_true]
  exact ⟨betB_true.2 h, betB_true.2 h'⟩
theorem gtV_len (n : Int) (ps : List (Int × Int)) (b : Int) (h : ps.length ≤ 1048576) : (gtV n ps b).length ≤ 1048576 := by
  cases e : gtOk n ps b
  · rw [gt_no e]; simp
  · rw [gt_yes e]; simpa using h

set_option maxHeartbeats 2000000 in
theorem iGainTurn_any (N : Int) (A : Option Addr) (n c : Nat) (ps : List (Int × Int)) (b : Int) (w : World) (hz : Prs w A n ps) (hn : n ≤ 1048577) :
    Calls Try.prog 20 #[.int .i64 N, .slice A n c, .int .i64 b] w (RetPB 33 w (gtV N ps b) (gtOk N ps b)) := by
  have HL := Lib.hid hz.len
  cases hv : gvB N ps
  · have H : Hid (gtOk N ps b = false) := by unfold gtOk; rw [hv]; rfl
    have HV := Lib.hid hv
    clear hv
    go_enter Try.func20, Try.ntmps20
    go_wp2_with fail
    refine (iGainsV_any _ _ _ _ ps _ hz hn).mono ?_
    rintro e w1 ⟨he, hb1⟩
    rw [HV.out] at he
    subst he
    go_wp2
    go_ret2
    exact ⟨_, _, _, by rw [H.out]; rfl, by rw [gt_no H.out]; exact OwnP.nil _ _ _, hb1⟩
  · have HV := Lib.hid hv
    cases hl : betB b 0 359
    · have H : Hid (gtOk N ps b = false) := by unfold gtOk; rw [hv, hl]; rfl
      have HP := Lib.hid hl
      clear hv hl
      go_enter Try.func20, Try.ntmps20
      go_wp2_with fail
      refine (iGainsV_any _ _ _ _ ps _ hz hn).mono ?_
      rintro e w1 ⟨he, hb1⟩
      rw [HV.out] at he
      subst he
      go_wp2_with fail
      refine (isPhase_any _ _).mono ?_
      rintro e w' ⟨he, rfl⟩
      rw [HP.out] at he
      subst he
      go_wp2
      go_ret2
      exact ⟨_, _, _, by rw [H.out]; rfl, by rw [gt_no H.out]; exact OwnP.nil _ _ _, hb1⟩
    · have H : Hid (gtOk N ps b = true) := by unfold gtOk; rw [hv, hl]; rfl
      have HP := Lib.hid hl
      obtain ⟨hb1', hb2'⟩ := betB_true.1 hl
      obtain ⟨⟨hN1, hN2⟩, hNl, hva⟩ := gv_true hv
      rw [HL.out] at hNl
      have hn7 : n ≤ 7 := by omega
      have hn2 : 2 ≤ n := by omega
      have HR : Hid (∀ j, j < n → (1 ≤ px ps j ∧ px ps j ≤ 99) ∧ (0 ≤ py ps j ∧ py ps j ≤ 359)) := fun j hj => vin_true (vAll_at hva (by rw [HL.out]; exact hj))
      clear hv hl hva hNl
      go_enter Try.func20, Try.ntmps20
      go_wp2_with fail
      refine (iGainsV_any _ _ _ _ ps _ hz hn).mono ?_
      rintro e w1 ⟨he, hb1⟩
      rw [HV.out] at he
      subst he
      go_wp2_with fail
      refine (isPhase_any _ _).mono ?_
      rintro e w' ⟨he, rfl⟩
      rw [HP.out] at he
      subst he
      go_wp2
      have hO0 := OwnP.nil 33 w1 w.heap.size
      have hz1 := hz.below hb1
      go_loopw [8, 22] (fun v i wr => ∃ (k : Nat) (A' : Option Addr) (c' : Nat), k ≤ n ∧ i = .int .i64 k ∧ v = .slice A' k c' ∧ OwnP 33 wr w.heap.size A' k c' ((ps.take k).map (gtF b)) ∧ Below w.heap.size w wr) (fun _ i _ => n - (intOf i).toNat)
      case atStart => exact ⟨0, _, _, Nat.zero_le _, rfl, rfl, hO0, hb1⟩
      case round =>
        obtain ⟨k, A', c', hk, rfl, rfl, hO, hbl⟩ := hrel
        clear hO0 hz1
        by_cases hlt : k < n
        · obtain ⟨b0, off, rfl, hb, hc⟩ := (hz.below hbl).at_ (by omega)
          obtain ⟨hc1, hc2⟩ := hc k hlt
          have hr := HR.out k hlt
          clear hc
          have HT : Hid ((ps.take (k + 1)).map (gtF b) = (ps.take k).map (gtF b) ++ [(px ps k, cyc (py ps k + b) 360)]) := map_snocP (gtF b) (by rw [HL.out]; exact hlt)
          have hsz := hbl.size
          have hbx := hbl.alloc hbl.size (.cells #[.int .i64 (px ps k), .int .i64 (py ps k)] 33)
          have hOx := hO.below (below_alloc wr (.cells #[.int .i64 (px ps k), .int .i64 (py ps k)] 33))
          obtain ⟨q0, q1, q2⟩ := Box.new wr 33 (px ps k) (py ps k)
          have V1 : Hid (IntKind.i64.wrap (py ps k + b) = py ps k + b) := IntWalk.i64_in _ (by omega)
          go_wp2
          have v1 := V1.out
          go_region_law (first | (refine step_append1Vis rfl (.tmp 26) (.tmp 35) rfl (wr.alloc (.cells #[.int .i64 (px ps k), .int .i64 (py ps k)] 33)) w.heap.size A' k c' _ (px ps k) (cyc (py ps k + b) 360) (wr.heap.size + 1) (by simp) rfl rfl hOx (by omega) (by simp; omega) ?_; intro A3 c3 w3 hO3 hG3) | (go_simp; go_at_call 30; refine (iPhaseOf_any _ _).mono ?_; rintro e w' ⟨rfl, rfl⟩))
          all_goals
            clear v1
            have hbl3 := hbx.grown hG3 hbx.size (fun j e => (hOx.lt j e).1)
            go_wp2
            go_roundw
            case rel => exact ⟨k + 1, A3, c3, by omega, by go_num, rfl, by rw [HT.out]; exact hO3, hbl3⟩
            case measure => simp [intOf]; omega
        · obtain rfl : k = n := by omega
          go_wp2
          go_ret2
          exact ⟨_, _, _, by rw [H.out]; rfl, by rw [gt_yes H.out]; rw [take_full HL.out] at hO; exact hO, hbl⟩

set_option maxHeartbeats 2000000 in
theorem sGainTurn_any (N : Int) (A : Option Addr) (n c : Nat) (ps : List (Int × Int)) (b : Int) (w : World) (hz : Prs w A n ps) (hn : n ≤ 1048577) :
    Calls Try.prog 19 #[.int .i64 N, .slice A n c, .int .i64 b] w (RetPB 33 w (gtV N ps b) (gtOk N ps b)) := by
  have HL := Lib.hid hz.len
  have hb0 := below_alloc w (.cells #[] 33)
  have hz0 := hz.below hb0
  have hO0 := OwnP.lit0 33 w (Nat.le_refl _)
  cases hv : gvB N ps
  · have HV := Lib.hid hv
    have H : Hid (gtOk N ps b = false) := by unfold gtOk; rw [hv]; rfl
    clear hv
    go_enter Try.func19, Try.ntmps19
    go_wp2_with fail
    refine (sGainsV_any _ _ _ _ ps _ hz0 hn).mono ?_
    rintro e w' ⟨he, rfl⟩
    rw [HV.out] at he
    subst he
    go_wp2
    go_ret2
    exact ⟨_, _, _, by rw [H.out]; rfl, by rw [gt_no H.out]; exact hO0, hb0⟩
  have HV := Lib.hid hv
  cases hl : betB b 0 359
  · have HP := Lib.hid hl
    have H : Hid (gtOk N ps b = false) := by unfold gtOk; rw [hv, hl]; rfl
    clear hv hl
    go_enter Try.func19, Try.ntmps19
    go_wp2_with fail
    refine (sGainsV_any _ _ _ _ ps _ hz0 hn).mono ?_
    rintro e w' ⟨he, rfl⟩
    rw [HV.out] at he
    subst he
    go_wp2_with fail
    refine (l2Phase_any _ _).mono ?_
    rintro e w' ⟨he, rfl⟩
    rw [HP.out] at he
    subst he
    go_wp2
    go_ret2
    exact ⟨_, _, _, by rw [H.out]; rfl, by rw [gt_no H.out]; exact hO0, hb0⟩
  · have H : Hid (gtOk N ps b = true) := by unfold gtOk; rw [hv, hl]; rfl
    have HP := Lib.hid hl
    obtain ⟨hb1', hb2'⟩ := betB_true.1 hl
    obtain ⟨⟨hN1, hN2⟩, hNl, hva⟩ := gv_true hv
    rw [HL.out] at hNl
    have hn7 : n ≤ 7 := by omega
    have hn2 : 2 ≤ n := by omega
    have HR : Hid (∀ j, j < n → (1 ≤ px ps j ∧ px ps j ≤ 99) ∧ (0 ≤ py ps j ∧ py ps j ≤ 359)) := fun j hj => vin_true (vAll_at hva (by rw [HL.out]; exact hj))
    subst hNl
    clear hv hl hva
    go_enter Try.func19, Try.ntmps19
    go_wp2_with fail
    refine (sGainsV_any _ _ _ _ ps _ hz0 hn).mono ?_
    rintro e w' ⟨he, rfl⟩
    rw [HV.out] at he
    subst he
    go_wp2_with fail
    refine (l2Phase_any _ _).mono ?_
    rintro e w' ⟨he, rfl⟩
    rw [HP.out] at he
    subst he
    go_wp2
    go_loopw [8, 9] (fun v i wr => ∃ (k : Nat) (A' : Option Addr) (c' : Nat), k ≤ n ∧ i = .int .i64 k ∧ v = .slice A' k c' ∧ OwnP 33 wr w.heap.size A' k c' ((ps.take k).map (gtF b)) ∧ Below w.heap.size w wr) (fun _ i _ => n - (intOf i).toNat)
    case atStart => exact ⟨0, _, _, Nat.zero_le _, rfl, rfl, hO0, hb0⟩
    case round =>
      obtain ⟨k, A', c', hk, rfl, rfl, hO, hbl⟩ := hrel
      clear hO0 hz0 hb0
      by_cases hlt : k < n
      · obtain ⟨b0, off, rfl, hb, hc⟩ := (hz.below hbl).at_ (by omega)
        obtain ⟨hc1, hc2⟩ := hc k hlt
        have hr := HR.out k hlt
        clear hc
        have HT : Hid ((ps.take (k + 1)).map (gtF b) = (ps.take k).map (gtF b) ++ [(px ps k, cyc (py ps k + b) 360)]) := map_snocP (gtF b) (by rw [HL.out]; exact hlt)
        have hsz := hbl.size
        have hki : (k : Int) < (n : Int) := by omega
        have V1 : Hid (IntKind.i64.wrap (py ps k + b) = py ps k + b) := IntWalk.i64_in _ (by omega)
        go_wp2
        have v1 := V1.out
        go_region_law (first | (refine step_append1Vis rfl (.tmp 26) (.tmp 41) rfl wr w.heap.size A' k c' _ (px ps k) (cyc (py ps k + b) 360) wr.heap.size rfl rfl rfl hO (by omega) hsz ?_; intro A3 c3 w3 hO3 hG3) | (go_simp; go_at_call 43; refine (sPhaseOf_any _ _ (by omega) (by omega)).mono ?_; rintro e w' ⟨rfl, rfl⟩))
        all_goals
          clear v1
          have hbl3 := hbl.grown hG3 hsz (fun j e => (hO.lt j e).1)
          go_wp2
          go_roundw
          case rel => exact ⟨k + 1, A3, c3, by omega, by go_num, rfl, by rw [HT.out]; exact hO3, hbl3⟩
          case measure => simp [intOf]; omega
      · obtain rfl : k = n := by omega
        go_wp2
        go_ret2
        exact ⟨_, _, _, by rw [H.out]; rfl, by rw [gt_yes H.out]; rw [take_full HL.out] at hO; exact hO, hbl⟩

end Go.Proofs.Ytmkdbbbnhbbhfaa
