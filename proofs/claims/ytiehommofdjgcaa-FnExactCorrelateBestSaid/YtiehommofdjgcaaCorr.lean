/-
  Contracts: impl.Correlate, spec.l5Sum and spec.Correlate add up products of samples at a lag.
-/
import Derived.Test.YtiehommofdjgcaaCircle
import Derived.Test.YtiehommofdjgcaaShiftF
import Derived.Test.YtiehommofdjgcaaInts
import Derived.Deep.QuietTactic
import Derived.BigQuiet
import Derived.IntWalk
namespace Go.Proofs.Ytiehommofdjgcaa
open Go.RowKit
set_option linter.unusedVariables false

/-- The first k products. -/
def sumTo (a b : List Int) (lag : Int) (n : Nat) : Nat → Int
  | 0 => 0
  | k + 1 => sumTo a b lag n k + el a k * el b (cyc ((k : Int) + lag) n).toNat
/-- The correlation of two lists of samples at a lag. -/
def corr (a b : List Int) (lag : Int) : Int := sumTo a b lag a.length a.length
def coOk (a b : List Int) (lag : Int) : Bool := svB a && (svB b && (decide (a.length = b.length) && betB lag (-1000) 1000))
def coV (a b : List Int) (lag : Int) : Int := if coOk a b lag then corr a b lag else 0
theorem coV_no {a b : List Int} {lag : Int} (h : coOk a b lag = false) : coV a b lag = 0 := by simp [coV, h]
theorem coV_yes {a b : List Int} {lag : Int} (h : coOk a b lag = true) : coV a b lag = corr a b lag := by simp [coV, h]
theorem co_mk {a b : List Int} {lag : Int} (ha : svB a = true) (hb : svB b = true) (hl : a.length = b.length) (h1 : -1000 ≤ lag) (h2 : lag ≤ 1000) : coOk a b lag = true := by
  simp only [coOk, Bool.and_eq_true, decide_eq_true_eq]
  exact ⟨ha, hb, hl, betB_true.2 ⟨h1, h2⟩⟩
theorem co_ok {a b : List Int} {lag : Int} (h : coOk a b lag = true) : svB a = true ∧ svB b = true ∧ a.length = b.length ∧ -1000 ≤ lag ∧ lag ≤ 1000 := by
  simp only [coOk, Bool.and_eq_true, decide_eq_true_eq] at h
  exact ⟨h.1, h.2.1, h.2.2.1, betB_true.1 h.2.2.2⟩

theorem co_no_lag {a b : List Int} {lag : Int} (h : betB lag (-1000) 1000 = false) : coOk a b lag = false := by simp [coOk, h]

theorem mul_bd {x y : Int} (hx0 : -1000 ≤ x) (hx1 : x ≤ 1000) (hy0 : -1000 ≤ y) (hy1 : y ≤ 1000) : -1000000 ≤ x * y ∧ x * y ≤ 1000000 := by
  have h1 : 0 ≤ (1000 - x) * (1000 - y) := Int.mul_nonneg (by omega) (by omega)
  have h2 : 0 ≤ (1000 + x) * (1000 + y) := Int.mul_nonneg (by omega) (by omega)
  have h3 : 0 ≤ (1000 - x) * (1000 + y) := Int.mul_nonneg (by omega) (by omega)
  have h4 : 0 ≤ (1000 + x) * (1000 - y) := Int.mul_nonneg (by omega) (by omega)
  simp only [Int.sub_mul, Int.add_mul, Int.mul_sub, Int.mul_add] at h1 h2 h3 h4
  omega

theorem sumTo_bd {a b : List Int} (lag : Int) (ha : svB a = true) (hb : svB b = true) (hl : a.length = b.length) : ∀ k, k ≤ a.length → -(1000000 * (k : Int)) ≤ sumTo a b lag a.length k ∧ sumTo a b lag a.length k ≤ 1000000 * (k : Int)
  | 0, _ => by simp [sumTo]
  | k + 1, h => by
    have ih := sumTo_bd lag ha hb hl k (by omega)
    have h1 := cyc_ge (k := (k : Int) + lag) (n := a.length) (by omega)
    have h2 := cyc_lt (k := (k : Int) + lag) (n := a.length) (by omega)
    have hx := sv_at ha (j := k) (by omega)
    have hy := sv_at hb (j := (cyc ((k : Int) + lag) a.length).toNat) (by omega)
    have hm := mul_bd hx.1 hx.2 hy.1 hy.2
    simp only [sumTo]
    omega

set_option maxHeartbeats 1000000 in
theorem iCorr_any (A B : Option Addr) (n m c d : Nat) (a b : List Int) (lag : Int) (w : World) (ha : Ints w A n a) (hb : Ints w B m b) (hn : n ≤ 1048577) (hm : m ≤ 1048577) :
    Calls Try.prog 16 #[.slice A n c, .slice B m d, .int .i64 lag] w fun e w' => e = .returned (.tuple #[.int .i64 (coV a b lag), .bool (coOk a b lag)]) ∧ w = w' := by
  have HA := Lib.hid ha.len
  have HB := Lib.hid hb.len
  cases hva : svB a
  · have H : Hid (coOk a b lag = false) := by unfold coOk; rw [hva]; rfl
    go_enter Try.func16, Try.ntmps16
    go_wp2_with fail
    refine (iValid_any _ _ _ a _ ha hn).mono ?_
    rintro e w' ⟨rfl, rfl⟩
    go_wp2
    go_ret2
    exact ⟨by rw [coV_no H.out, H.out]; rfl, rfl⟩
  cases hvb : svB b
  · have H : Hid (coOk a b lag = false) := by unfold coOk; rw [hva, hvb]; rfl
    go_enter Try.func16, Try.ntmps16
    go_wp2_with fail
    refine (iValid_any _ _ _ a _ ha hn).mono ?_
    rintro e w' ⟨rfl, rfl⟩
    go_wp2_with fail
    refine (iValid_any _ _ _ b _ hb hm).mono ?_
    rintro e w' ⟨rfl, rfl⟩
    go_wp2
    go_ret2
    exact ⟨by rw [coV_no H.out, H.out]; rfl, rfl⟩
  by_cases hnm : n = m
  · subst hnm
    cases hl : betB lag (-1000) 1000
    · have H : Hid (coOk a b lag = false) := co_no_lag hl
      go_enter Try.func16, Try.ntmps16
      go_wp2_with fail
      refine (iValid_any _ _ _ a _ ha hn).mono ?_
      rintro e w' ⟨rfl, rfl⟩
      go_wp2_with fail
      refine (iValid_any _ _ _ b _ hb hm).mono ?_
      rintro e w' ⟨rfl, rfl⟩
      go_wp2_with fail
      refine (inRange_any _ _ _ (by omega) (by omega)).mono ?_
      rintro e w' ⟨rfl, rfl⟩
      go_wp2
      go_ret2
      exact ⟨by rw [coV_no H.out, H.out]; rfl, rfl⟩
    · obtain ⟨hl1, hl2⟩ := betB_true.1 hl
      have HSA : Hid (svB a = true) := hva
      have HSB : Hid (svB b = true) := hvb
      have HLL : Hid (a.length = b.length) := by rw [HA.out, HB.out]; exact rfl
      have H : Hid (coOk a b lag = true) := co_mk HSA.out HSB.out HLL.out hl1 hl2
      have hlen : 1 ≤ n ∧ n ≤ 32 := by have := sv_len HSA.out; rw [HA.out] at this; exact this
      obtain ⟨hn1, hn2⟩ := hlen
      obtain ⟨ba, offa, rfl, hba, hca⟩ := ha.at_ (by omega)
      obtain ⟨bb, offb, rfl, hbb, hcb⟩ := hb.at_ (by omega)
      have HCA := Lib.hid hca
      have HCB := Lib.hid hcb
      clear hca hcb
      go_enter Try.func16, Try.ntmps16
      go_wp2_with fail
      refine (iValid_any _ _ _ a _ ha hn).mono ?_
      rintro e w' ⟨rfl, rfl⟩
      go_wp2_with fail
      refine (iValid_any _ _ _ b _ hb hm).mono ?_
      rintro e w' ⟨rfl, rfl⟩
      go_wp2_with fail
      refine (inRange_any _ _ _ (by omega) (by omega)).mono ?_
      rintro e w' ⟨rfl, rfl⟩
      go_wp2
      clear hva hvb hl
      go_loop [8, 33] (fun s i => ∃ k : Nat, k ≤ n ∧ i = .int .i64 k ∧ s = .int .i64 (sumTo a b lag n k)) (fun _ i => n - (intOf i).toNat)
      case atStart => exact ⟨0, Nat.zero_le _, rfl, rfl⟩
      case round =>
        obtain ⟨k, hk, rfl, rfl⟩ := hrel
        by_cases hlt : k < n
        · obtain ⟨j, hj, hjn⟩ := cyc_nat ((k : Int) + lag) (n := (n : Int)) (by omega)
          have HJ := Lib.hid hj
          have hjn' : j < n := by omega
          have hck := HCA.out k hlt
          have hcj := HCB.out j hjn'
          have hx := sv_at HSA.out (j := k) (by rw [HA.out]; exact hlt)
          have hy := sv_at HSB.out (j := j) (by rw [HB.out]; exact hjn')
          obtain ⟨hm1, hm2⟩ := mul_bd hx.1 hx.2 hy.1 hy.2
          have hbd := sumTo_bd lag HSA.out HSB.out HLL.out k (by rw [HA.out]; omega)
          rw [HA.out] at hbd
          obtain ⟨hb1, hb2⟩ := hbd
          have HT : Hid (sumTo a b lag n (k + 1) = sumTo a b lag n k + el a k * el b j) := by rw [sumTo, hj]; exact rfl
          clear hj hx hy
          go_wp2_with fail
          refine (circle_any _ _ _ (by omega) (by omega) (by omega) (by omega)).mono ?_
          rintro e w' ⟨he, rfl⟩
          rw [HJ.out] at he
          subst he
          go_wp2
          go_round
          case rel => exact ⟨k + 1, by omega, by go_num, by rw [HT.out]⟩
          case measure => simp [intOf]; omega
        · obtain rfl : k = n := by omega
          go_wp2
          go_ret2
          exact ⟨by rw [coV_yes H.out, H.out, corr, HA.out]; rfl, rfl⟩
  · have H : Hid (coOk a b lag = false) := by
      unfold coOk; rw [hva, hvb, show decide (a.length = b.length) = false by rw [HA.out, HB.out]; simpa using hnm]; rfl
    have h1 : ((n : Int) != (m : Int)) = true := by simp; omega
    have h2 : (n != m) = true := by simp; omega
    go_enter Try.func16, Try.ntmps16
    go_wp2_with fail
    refine (iValid_any _ _ _ a _ ha hn).mono ?_
    rintro e w' ⟨rfl, rfl⟩
    go_wp2_with fail
    refine (iValid_any _ _ _ b _ hb hm).mono ?_
    rintro e w' ⟨rfl, rfl⟩
    go_wp2
    go_ret2
    exact ⟨by rw [coV_no H.out, H.out]; rfl, rfl⟩

theorem quiet_same {P : Program} {f : FuncId} {args : Array Value} {w : World} {n : Nat} {v : Value}
    (h : Calls P f args (w.drewN n) fun e w' => e = .returned v ∧ w.drewN n = w') : Calls P f args (w.drewN n) fun e w'' => e = .returned v ∧ ∃ m, w'' = w.drewN m :=
  h.mono fun _ _ ⟨he, hm⟩ => ⟨he, n, hm.symm⟩
theorem l1Mod_as {k n : Int} {j : Nat} (h : cyc k n = (j : Int)) (w : World) (hn : 1 ≤ n) (hn' : n ≤ 1000000) (hk : -9000000000000000000 ≤ k) (hk' : k ≤ 9000000000000000000) :
    Calls Try.prog 34 #[.int .i64 k, .int .i64 n] w fun e w' => e = .returned (.int .i64 (j : Int)) ∧ w = w' :=
  (l1Mod_any k n w hn hn' hk hk').mono fun _ _ ⟨he, hw⟩ => ⟨by rw [he, h], hw⟩

set_option maxHeartbeats 1000000 in
theorem l5Sum_any (A B : Option Addr) (n c d : Nat) (a b : List Int) (lag : Int) (w : World) (ha : Ints w A n a) (hb : Ints w B n b) (hva : svB a = true) (hvb : svB b = true) (hl1 : -1000 ≤ lag) (hl2 : lag ≤ 1000) :
    Calls Try.prog 25 #[.slice A n c, .slice B n d, .int .i64 lag] w fun e w' => e = .returned (.int .i64 (corr a b lag)) ∧ Below w.heap.size w w' := by
  have HA := Lib.hid ha.len
  have HB := Lib.hid hb.len
  have HSA : Hid (svB a = true) := hva
  have HSB : Hid (svB b = true) := hvb
  have HLL : Hid (a.length = b.length) := by rw [HA.out, HB.out]; exact rfl
  have hlen : 1 ≤ n ∧ n ≤ 32 := by have := sv_len HSA.out; rw [HA.out] at this; exact this
  obtain ⟨hn1, hn2⟩ := hlen
  clear hva hvb
  go_enter Try.func25, Try.ntmps25
  go_wp2
  go_loopw [7, 8] (fun s i wr => ∃ k : Nat, k ≤ n ∧ i = .int .i64 k ∧ s = .int .i64 (sumTo a b lag n k) ∧ Below w.heap.size w wr) (fun _ i _ => n - (intOf i).toNat)
  case atStart => exact ⟨0, Nat.zero_le _, rfl, rfl, Below.refl _ _⟩
  case round =>
    obtain ⟨k, hk, rfl, rfl, hbl⟩ := hrel
    by_cases hlt : k < n
    · obtain ⟨ba, offa, rfl, hba, hca⟩ := (ha.below hbl).at_ (by omega)
      obtain ⟨bb, offb, rfl, hbb, hcb⟩ := (hb.below hbl).at_ (by omega)
      obtain ⟨j, hj, hjn⟩ := cyc_nat ((k : Int) + lag) (n := (n : Int)) (by omega)
      have HJ := Lib.hid hj
      have hjn' : j < n := by omega
      have hck := hca k hlt
      have hcj := hcb j hjn'
      have hx := sv_at HSA.out (j := k) (by rw [HA.out]; exact hlt)
      have hy := sv_at HSB.out (j := j) (by rw [HB.out]; exact hjn')
      obtain ⟨hm1, hm2⟩ := mul_bd hx.1 hx.2 hy.1 hy.2
      have hbd := sumTo_bd lag HSA.out HSB.out HLL.out k (by rw [HA.out]; omega)
      rw [HA.out] at hbd
      obtain ⟨hb1, hb2⟩ := hbd
      have hT : sumTo a b lag n (k + 1) = sumTo a b lag n k + el a k * el b j := by rw [sumTo, hj]; rfl
      have e1 : IntKind.i64.wrap ((k : Int) + lag) = (k : Int) + lag := IntWalk.i64_in _ (by omega)
      have e2 : IntKind.i64.wrap (el a k * el b j) = el a k * el b j := IntWalk.i64_in _ (by omega)
      have e3 : IntKind.i64.wrap (sumTo a b lag n k + el a k * el b j) = sumTo a b lag n (k + 1) := by rw [hT]; exact IntWalk.i64_in _ (by omega)
      have E1 := Lib.hid e1
      have E2 := Lib.hid e2
      have E3 := Lib.hid e3
      clear hj hx hy hca hcb hT e1 e2 e3
      go_wp2
      have e1 := E1.out
      have e2 := E2.out
      have e3 := E3.out
      go_quiet ((go_at_call 34; exact quiet_same (l1Mod_as HJ.out _ (by omega) (by omega) (by omega) (by omega))))
      clear e1 e2 e3
      go_wp2
      go_roundw
      case rel => exact ⟨k + 1, by omega, by go_num, rfl, below_drewN hbl _⟩
      case measure => simp [intOf]; omega
    · obtain rfl : k = n := by omega
      go_wp2
      go_ret
      exact ⟨ret_int (by rw [corr, HA.out]), hbl⟩

end Go.Proofs.Ytiehommofdjgcaa
