/-
  Contracts: ArrayShift of the program and of the reference.
-/
import Derived.Test.YtkmnjekpogbkkaaArrV
import Derived.Test.YtkmnjekpogbkkaaAntA
import Derived.Deep.RegionLaw
import Derived.Deep.DrawnRows
import Derived.IntWalk
namespace Go.Proofs.Ytkmnjekpogbkkaa
open Go.RowKit
set_option linter.unusedVariables false
attribute [local go_sem ↓] Go.wp_at_zero Go.wp_at_succ

/-- ArrayShift. -/
def shF (x y : Int) (p : Int × Int) : Int × Int := (p.1 + x, p.2 + y)
def asOk (ps : List (Int × Int)) (x y : Int) : Bool := avB ps && (betB x (-2000) 2000 && (betB y (-2000) 2000 && avB (ps.map (shF x y))))
def asV (ps : List (Int × Int)) (x y : Int) : List (Int × Int) := if asOk ps x y then ps.map (shF x y) else []
theorem as_no {ps : List (Int × Int)} {x y : Int} (h : asOk ps x y = false) : asV ps x y = [] := by simp [asV, h]
theorem as_yes {ps : List (Int × Int)} {x y : Int} (h : asOk ps x y = true) : asV ps x y = ps.map (shF x y) := by simp [asV, h]
theorem as_true {ps : List (Int × Int)} {x y : Int} : asOk ps x y = true ↔ avB ps = true ∧ (-2000 ≤ x ∧ x ≤ 2000) ∧ (-2000 ≤ y ∧ y ≤ 2000) ∧ avB (ps.map (shF x y)) = true := by
  simp only [asOk, Bool.and_eq_true, betB_true]
theorem asV_len (ps : List (Int × Int)) (x y : Int) (h : ps.length ≤ 1048576) : (asV ps x y).length ≤ 1048576 := by
  cases e : asOk ps x y
  · rw [as_no e]; simp
  · rw [as_yes e]; simpa using h

set_option maxHeartbeats 4000000 in
theorem iShift_any (A : Option Addr) (n c : Nat) (ps : List (Int × Int)) (x y : Int) (w : World) (hz : Prs w A n ps) (hn : n ≤ 1048577) (hc : n ≤ c) :
    Calls Try.prog 24 #[.slice A n c, .int .i64 x, .int .i64 y] w (RetPB 25 w (asV ps x y) (asOk ps x y)) := by
  have HL := Lib.hid hz.len
  cases hv : avB ps
  · have HA := Lib.hid hv
    have H0 : Hid (asOk ps x y = false) := by unfold asOk; rw [hv]; rfl
    clear hv
    go_enter Try.func24, Try.ntmps24
    go_wp2_with fail
    refine (iArrayV_any _ _ _ ps _ hz hn hc).mono ?_
    rintro e w1 ⟨he, hb1⟩
    rw [HA.out] at he
    subst he
    go_wp2
    go_ret2
    exact ⟨_, _, _, by rw [H0.out]; rfl, by rw [as_no H0.out]; exact OwnP.nil _ _ _, hb1⟩
  have HA := Lib.hid hv
  cases hx : betB x (-2000) 2000
  · have HX := Lib.hid hx
    have H0 : Hid (asOk ps x y = false) := by unfold asOk; rw [hv, hx]; rfl
    clear hv hx
    go_enter Try.func24, Try.ntmps24
    go_wp2_with fail
    refine (iArrayV_any _ _ _ ps _ hz hn hc).mono ?_
    rintro e w1 ⟨he, hb1⟩
    rw [HA.out] at he
    subst he
    go_wp2_with fail
    refine (inRange_any _ _ _ (by omega) (by omega)).mono ?_
    rintro e w' ⟨he, rfl⟩
    rw [show betB x (-2000) 2000 = false from HX.out] at he
    subst he
    go_wp2
    go_ret2
    exact ⟨_, _, _, by rw [H0.out]; rfl, by rw [as_no H0.out]; exact OwnP.nil _ _ _, hb1⟩
  cases hy : betB y (-2000) 2000
  · have HX := Lib.hid hx
    have HY := Lib.hid hy
    have H0 : Hid (asOk ps x y = false) := by unfold asOk; rw [hv, hx, hy]; rfl
    clear hv hx hy
    go_enter Try.func24, Try.ntmps24
    go_wp2_with fail
    refine (iArrayV_any _ _ _ ps _ hz hn hc).mono ?_
    rintro e w1 ⟨he, hb1⟩
    rw [HA.out] at he
    subst he
    go_wp2_with fail
    refine (inRange_any _ _ _ (by omega) (by omega)).mono ?_
    rintro e w' ⟨he, rfl⟩
    rw [show betB x (-2000) 2000 = true from HX.out] at he
    subst he
    go_wp2_with fail
    refine (inRange_any _ _ _ (by omega) (by omega)).mono ?_
    rintro e w' ⟨he, rfl⟩
    rw [show betB y (-2000) 2000 = false from HY.out] at he
    subst he
    go_wp2
    go_ret2
    exact ⟨_, _, _, by rw [H0.out]; rfl, by rw [as_no H0.out]; exact OwnP.nil _ _ _, hb1⟩
  ·
    have HX := Lib.hid hx
    have HY := Lib.hid hy
    obtain ⟨hx1, hx2⟩ := betB_true.1 hx
    obtain ⟨hy1, hy2⟩ := betB_true.1 hy
    have hlen := av_len hv
    rw [HL.out] at hlen
    obtain ⟨hn1, hn2⟩ := hlen
    have HR : Hid (∀ j, j < n → (-1000 ≤ px ps j ∧ px ps j ≤ 1000) ∧ (-1000 ≤ py ps j ∧ py ps j ≤ 1000)) := fun j hj => av_in hv (by rw [HL.out]; exact hj)
    have HW : Hid (asOk ps x y = avB (ps.map (shF x y))) := by unfold asOk; rw [hv, hx, hy]; rfl
    clear hv hx hy
    go_enter Try.func24, Try.ntmps24
    go_wp2_with fail
    refine (iArrayV_any _ _ _ ps _ hz hn hc).mono ?_
    rintro e w1 ⟨he, hb1⟩
    rw [HA.out] at he
    subst he
    go_wp2_with fail
    refine (inRange_any _ _ _ (by omega) (by omega)).mono ?_
    rintro e w' ⟨he, rfl⟩
    rw [show betB x (-2000) 2000 = true from HX.out] at he
    subst he
    go_wp2_with fail
    refine (inRange_any _ _ _ (by omega) (by omega)).mono ?_
    rintro e w' ⟨he, rfl⟩
    rw [show betB y (-2000) 2000 = true from HY.out] at he
    subst he
    go_wp2
    have hOs := OwnP.nil 25 w1 w.heap.size
    go_loopw [8, 26] (fun v i wr => ∃ (k : Nat) (A' : Option Addr) (c' : Nat), k ≤ n ∧ i = .int .i64 k ∧ v = .slice A' k c' ∧ OwnP 25 wr w.heap.size A' k c' ((ps.take k).map (shF x y)) ∧ Below w.heap.size w wr) (fun _ i _ => n - (intOf i).toNat)
    case atStart => exact ⟨0, _, _, Nat.zero_le _, rfl, rfl, hOs, hb1⟩
    case round =>
      obtain ⟨k, A', c', hk, rfl, rfl, hO, hbl⟩ := hrel
      clear hOs
      by_cases hlt : k < n
      · obtain ⟨b0, off, rfl, hb, hcc⟩ := (hz.below hbl).at_ (by omega)
        obtain ⟨hc1, hc2⟩ := hcc k hlt
        have hr := HR.out k hlt
        clear hcc
        have HT : Hid ((ps.take (k + 1)).map (shF x y) = (ps.take k).map (shF x y) ++ [(px ps k + x, py ps k + y)]) := map_snocP (shF x y) (by rw [HL.out]; exact hlt)
        have hsz := hbl.size
        have hbx := hbl.alloc hbl.size (.cells #[.int .i64 (px ps k), .int .i64 (py ps k)] 25)
        have hOx := hO.below (below_alloc wr (.cells #[.int .i64 (px ps k), .int .i64 (py ps k)] 25))
        have hsx := hbx.size
        obtain ⟨q0, q1, q2⟩ := Box.new wr 25 (px ps k) (py ps k)
        go_wp2_with (at_builtin; refine wpList_append1Ant rfl (.tmp 30) (.tmp 40) rfl (wr.alloc (.cells #[.int .i64 (px ps k), .int .i64 (py ps k)] 25)) w.heap.size A' k c' _ (px ps k + x) (py ps k + y) (wr.heap.size + 1) (by simp) rfl rfl hOx (by omega) hsx ?_; intro A3 c3 w3 hO3 hG3)
        have hbl3 := hbx.grown hG3 hsx (fun j e => (hOx.lt j e).1)
        go_roundw
        case rel => exact ⟨k + 1, A3, c3, by omega, by go_num, rfl, by rw [HT.out]; exact hO3, hbl3⟩
        case measure => simp [intOf]; omega
      · obtain rfl : k = n := by omega
        rw [take_full HL.out] at hO
        have hcap := hO.cap
        cases hv2 : avB (ps.map (shF x y))
        · have H0 : Hid (asOk ps x y = false) := by rw [Hid, HW.out]; exact hv2
          have HV2 := Lib.hid hv2
          clear hv2
          go_wp2_with fail
          refine (iArrayV_any _ _ _ (ps.map (shF x y)) _ hO.prs (by omega) hcap).mono ?_
          rintro e w9 ⟨he, hb9⟩
          rw [HV2.out] at he
          subst he
          have hB9 := below_step hbl hb9
          go_wp2
          go_ret2
          exact ⟨_, _, _, by rw [H0.out]; rfl, by rw [as_no H0.out]; exact OwnP.nil _ _ _, hB9⟩
        · have H0 : Hid (asOk ps x y = true) := by rw [Hid, HW.out]; exact hv2
          have HV2 := Lib.hid hv2
          clear hv2
          go_wp2_with fail
          refine (iArrayV_any _ _ _ (ps.map (shF x y)) _ hO.prs (by omega) hcap).mono ?_
          rintro e w9 ⟨he, hb9⟩
          rw [HV2.out] at he
          subst he
          go_wp2
          go_ret2
          exact ⟨_, _, _, by rw [H0.out]; rfl, by rw [as_yes H0.out]; exact hO.below hb9, below_step hbl hb9⟩

end Go.Proofs.Ytkmnjekpogbkkaa
