/-
  Contracts: DelayLoop of the program and of the reference: where it has an answer, that is 0.
-/
import Derived.Test.YtjjogggallapjaaDelay
import Derived.Test.YtjjogggallapjaaInts
namespace Go.Proofs.Ytjjogggallapjaa
open Go.RowKit
set_option linter.unusedVariables false

/-- DelayLoop: all antennas are there. -/
def dlOk (ps : List (Int × Int)) (zs : List Int) (x y : Int) : Bool := betB zs.length 1 100 && decide (∀ j, j < zs.length → doOk ps (el zs j) x y = true)
theorem dl_len {ps : List (Int × Int)} {zs : List Int} {x y : Int} (h : betB zs.length 1 100 = false) : dlOk ps zs x y = false := by simp [dlOk, h]
theorem dl_true {ps : List (Int × Int)} {zs : List Int} {x y : Int} : dlOk ps zs x y = true ↔ (1 ≤ zs.length ∧ zs.length ≤ 100) ∧ ∀ j, j < zs.length → doOk ps (el zs j) x y = true := by
  simp only [dlOk, Bool.and_eq_true, decide_eq_true_eq, betB_true]
  constructor
  · rintro ⟨h1, h2⟩; exact ⟨by omega, h2⟩
  · rintro ⟨h1, h2⟩; exact ⟨by omega, h2⟩
theorem dl_bad {ps : List (Int × Int)} {zs : List Int} {x y : Int} {i j : Nat} (hi : i < zs.length) (hj : j < zs.length) (h : dbOk ps (el zs i) (el zs j) x y = false) : dlOk ps zs x y = false := by
  rw [← Bool.not_eq_true, dl_true]
  rintro ⟨_, ha⟩
  rw [dbOk, ha i hi, ha j hj] at h
  cases h
/-- The sum over the first k steps. -/
def dlS (ps : List (Int × Int)) (zs : List Int) (x y : Int) (k : Nat) : Int := doV ps (el zs (k % zs.length)) x y - doV ps (el zs 0) x y
theorem dlS_zero (ps : List (Int × Int)) (zs : List Int) (x y : Int) : dlS ps zs x y 0 = 0 := by simp [dlS]
theorem dlS_all (ps : List (Int × Int)) (zs : List Int) (x y : Int) : dlS ps zs x y zs.length = 0 := by simp [dlS]
theorem dlS_succ {ps : List (Int × Int)} {zs : List Int} {x y : Int} {k : Nat} (hk : k < zs.length) (h : dbOk ps (el zs k) (el zs ((k + 1) % zs.length)) x y = true) :
    dlS ps zs x y k + dbV ps (el zs k) (el zs ((k + 1) % zs.length)) x y = dlS ps zs x y (k + 1) := by
  rw [db_yes h, dlS, dlS, Nat.mod_eq_of_lt hk]; omega
theorem dlS_in (ps : List (Int × Int)) (zs : List Int) (x y : Int) (k : Nat) : -4000000 ≤ dlS ps zs x y k ∧ dlS ps zs x y k ≤ 4000000 := by
  have h1 := do_in ps (el zs (k % zs.length)) x y
  have h2 := do_in ps (el zs 0) x y
  unfold dlS
  omega

set_option maxHeartbeats 4000000 in
theorem iDelayLoop_any (A : Option Addr) (n c : Nat) (ps : List (Int × Int)) (B : Option Addr) (m d : Nat) (zs : List Int) (x y : Int) (w : World) (hz : Prs w A n ps) (hn : n ≤ 1048577) (hc : n ≤ c) (hy : Ints w B m zs) (hm : m ≤ 1048577) :
    Calls Try.prog 29 #[.slice A n c, .slice B m d, .agg #[.int .i64 x, .int .i64 y]] w (RetIB w 0 (dlOk ps zs x y)) := by
  have HL := Lib.hid hy.len
  have hb0 := below_alloc w (.cells #[.int .i64 x, .int .i64 y] 30)
  by_cases h1 : m < 1
  · have H0 : Hid (dlOk ps zs x y = false) := dl_len (betB_false.2 (by rw [HL.out]; omega))
    obtain rfl : m = 0 := by omega
    go_enter Try.func29, Try.ntmps29
    go_wp2
    go_ret2
    exact ⟨ret_ib rfl H0.out.symm, hb0⟩
  by_cases h2 : 100 < m
  · have H0 : Hid (dlOk ps zs x y = false) := dl_len (betB_false.2 (by rw [HL.out]; omega))
    have h1' : 1 ≤ m := by omega
    have hne : ((m : Int) == 0) = false := by simp; omega
    clear h1
    go_enter Try.func29, Try.ntmps29
    go_wp2
    go_ret2
    exact ⟨ret_ib rfl H0.out.symm, hb0⟩
  have h1' : 1 ≤ m := by omega
  have h2' : m ≤ 100 := by omega
  have hne : ((m : Int) == 0) = false := by simp; omega
  clear h1 h2
  have HZ0 := Lib.hid (dlS_zero ps zs x y)
  go_enter Try.func29, Try.ntmps29
  go_wp2
  go_loopw [8, 23] (fun s i wr => ∃ k : Nat, k ≤ m ∧ i = .int .i64 k ∧ s = .int .i64 (dlS ps zs x y k) ∧ (∀ j, j < k → doOk ps (el zs j) x y = true) ∧ Below w.heap.size w wr ∧ Box wr w.heap.size x y) (fun _ i _ => m - (intOf i).toNat)
  case atStart => exact ⟨0, Nat.zero_le _, rfl, by rw [HZ0.out], fun j hj => absurd hj (by omega), hb0, Box.new w 30 x y⟩
  case round =>
    obtain ⟨k, hk, rfl, rfl, ha, hbl, hbx⟩ := hrel
    have HA := Lib.hid ha
    clear ha
    by_cases hlt : k < m
    · obtain ⟨b, off, rfl, hb, hc'⟩ := (hy.below hbl).at_ (by omega)
      have hj : (k + 1) % m < m := Nat.mod_lt _ (by omega)
      have hck := hc' k hlt
      have hcj := hc' ((k + 1) % m) hj
      have HJ : Hid (((k : Int) + 1).tmod (m : Int) = (((k + 1) % m : Nat) : Int)) := rfl
      have HQ : Hid (dbOk ps (el zs k) (el zs ((k + 1) % m)) x y = true → dlS ps zs x y k + dbV ps (el zs k) (el zs ((k + 1) % m)) x y = dlS ps zs x y (k + 1)) := fun h => by
        have := dlS_succ (ps := ps) (zs := zs) (x := x) (y := y) (k := k) (by rw [HL.out]; exact hlt)
        rw [HL.out] at this; exact this h
      have s1 := dlS_in ps zs x y k
      have s2 := db_in ps (el zs k) (el zs ((k + 1) % m)) x y
      clear hc'
      generalize (k + 1) % m = j at hj hcj HJ HQ s2
      have hbx' := hbx
      obtain ⟨q0, q1, q2⟩ := hbx'
      have hji : (j : Int) < (m : Int) := by omega
      have V1 : Hid (IntKind.i64.wrap ((k : Int) + 1) = (k : Int) + 1) := IntWalk.i64_in _ (by omega)
      have hzr := ((hz.below hbl).drew)
      have hki : (k : Int) < (m : Int) := by omega
      have HBl := Lib.hid hbl
      go_wp2
      have v1 := V1.out
      have v2 := HJ.out
      go_region_with (go_at_call 21; refine (iDelayBase_any _ _ _ ps _ _ _ _ _ hzr hn hc).mono ?_; rintro e w1 ⟨rfl, hb1⟩)
      all_goals
        clear v1 v2
        have hB1 := below_step (below_drew HBl.out) hb1
        have hbx1 := hbx.drew.below hb1
        generalize hdv : dbV ps (el zs k) (el zs j) x y = D at s2 HQ ⊢
        cases hok : dbOk ps (el zs k) (el zs j) x y
        · have H0 : Hid (dlOk ps zs x y = false) := dl_bad (i := k) (j := j) (by rw [HL.out]; exact hlt) (by rw [HL.out]; exact hj) hok
          clear hdv
          go_wp2
          go_ret2
          exact ⟨ret_ib rfl H0.out.symm, hB1⟩
        · have HS := Lib.hid (HQ.out hok)
          have HD : Hid (doOk ps (el zs k) x y = true) := (db_true.1 hok).1
          clear hdv
          go_wp2
          go_roundw
          case rel =>
            refine ⟨k + 1, by omega, by go_num, by rw [← HS.out], fun i hi => ?_, hB1, hbx1⟩
            rcases Nat.lt_or_ge i k with h | h
            · exact HA.out i h
            · obtain rfl : i = k := by omega
              exact HD.out
          case measure => simp [intOf]; omega
    · obtain rfl : k = m := by omega
      have H0 : Hid (dlOk ps zs x y = true) := dl_true.2 ⟨by rw [HL.out]; omega, fun j hj => HA.out j (by rw [HL.out] at hj; exact hj)⟩
      have HE : Hid (dlS ps zs x y k = 0) := by have := dlS_all ps zs x y; rw [HL.out] at this; exact this
      go_wp2
      go_ret2
      exact ⟨ret_ib HE.out H0.out.symm, hbl⟩

set_option maxHeartbeats 4000000 in
theorem sDelayLoop_any (A : Option Addr) (n c : Nat) (ps : List (Int × Int)) (B : Option Addr) (m d : Nat) (zs : List Int) (x y : Int) (w : World) (hz : Prs w A n ps) (hn : n ≤ 1048577) (hc : n ≤ c) (hy : Ints w B m zs) (hm : m ≤ 1048577) :
    Calls Try.prog 27 #[.slice A n c, .slice B m d, .agg #[.int .i64 x, .int .i64 y]] w (RetIB w 0 (dlOk ps zs x y)) := by
  have HL := Lib.hid hy.len
  have hb0 := below_alloc w (.cells #[.int .i64 x, .int .i64 y] 30)
  by_cases h1 : m < 1
  · have H0 : Hid (dlOk ps zs x y = false) := dl_len (betB_false.2 (by rw [HL.out]; omega))
    obtain rfl : m = 0 := by omega
    go_enter Try.func27, Try.ntmps27
    go_wp2
    go_ret2
    exact ⟨ret_ib rfl H0.out.symm, hb0⟩
  by_cases h2 : 100 < m
  · have H0 : Hid (dlOk ps zs x y = false) := dl_len (betB_false.2 (by rw [HL.out]; omega))
    have h1' : 1 ≤ m := by omega
    have hne : ((m : Int) == 0) = false := by simp; omega
    clear h1
    go_enter Try.func27, Try.ntmps27
    go_wp2
    go_ret2
    exact ⟨ret_ib rfl H0.out.symm, hb0⟩
  have h1' : 1 ≤ m := by omega
  have h2' : m ≤ 100 := by omega
  have hne : ((m : Int) == 0) = false := by simp; omega
  clear h1 h2
  have HZ0 := Lib.hid (dlS_zero ps zs x y)
  go_enter Try.func27, Try.ntmps27
  go_wp2
  go_loopw [8, 9] (fun s i wr => ∃ k : Nat, k ≤ m ∧ i = .int .i64 k ∧ s = .int .i64 (dlS ps zs x y k) ∧ (∀ j, j < k → doOk ps (el zs j) x y = true) ∧ Below w.heap.size w wr ∧ Box wr w.heap.size x y) (fun _ i _ => m - (intOf i).toNat)
  case atStart => exact ⟨0, Nat.zero_le _, rfl, by rw [HZ0.out], fun j hj => absurd hj (by omega), hb0, Box.new w 30 x y⟩
  case round =>
    obtain ⟨k, hk, rfl, rfl, ha, hbl, hbx⟩ := hrel
    have HA := Lib.hid ha
    clear ha
    by_cases hlt : k < m
    · obtain ⟨b, off, rfl, hb, hc'⟩ := (hy.below hbl).at_ (by omega)
      have hj : (k + 1) % m < m := Nat.mod_lt _ (by omega)
      have hck := hc' k hlt
      have hcj := hc' ((k + 1) % m) hj
      have HJ : Hid (((k : Int) + 1).tmod (m : Int) = (((k + 1) % m : Nat) : Int)) := rfl
      have HQ : Hid (dbOk ps (el zs k) (el zs ((k + 1) % m)) x y = true → dlS ps zs x y k + dbV ps (el zs k) (el zs ((k + 1) % m)) x y = dlS ps zs x y (k + 1)) := fun h => by
        have := dlS_succ (ps := ps) (zs := zs) (x := x) (y := y) (k := k) (by rw [HL.out]; exact hlt)
        rw [HL.out] at this; exact this h
      have s1 := dlS_in ps zs x y k
      have s2 := db_in ps (el zs k) (el zs ((k + 1) % m)) x y
      clear hc'
      generalize (k + 1) % m = j at hj hcj HJ HQ s2
      have hbx' := hbx
      obtain ⟨q0, q1, q2⟩ := hbx'
      have hji : (j : Int) < (m : Int) := by omega
      have V1 : Hid (IntKind.i64.wrap ((k : Int) + 1) = (k : Int) + 1) := IntWalk.i64_in _ (by omega)
      have hzr := ((hz.below hbl).drew)
      have hki : (k : Int) < (m : Int) := by omega
      have HBl := Lib.hid hbl
      go_wp2
      have v1 := V1.out
      have v2 := HJ.out
      go_region_with (go_at_call 20; refine (sDelayBase_any _ _ _ ps _ _ _ _ _ hzr hn hc).mono ?_; rintro e w1 ⟨rfl, hb1⟩)
      all_goals
        clear v1 v2
        have hB1 := below_step (below_drew HBl.out) hb1
        have hbx1 := hbx.drew.below hb1
        generalize hdv : dbV ps (el zs k) (el zs j) x y = D at s2 HQ ⊢
        cases hok : dbOk ps (el zs k) (el zs j) x y
        · have H0 : Hid (dlOk ps zs x y = false) := dl_bad (i := k) (j := j) (by rw [HL.out]; exact hlt) (by rw [HL.out]; exact hj) hok
          clear hdv
          go_wp2
          go_ret2
          exact ⟨ret_ib rfl H0.out.symm, hB1⟩
        · have HS := Lib.hid (HQ.out hok)
          have HD : Hid (doOk ps (el zs k) x y = true) := (db_true.1 hok).1
          clear hdv
          go_wp2
          go_roundw
          case rel =>
            refine ⟨k + 1, by omega, by go_num, by rw [← HS.out], fun i hi => ?_, hB1, hbx1⟩
            rcases Nat.lt_or_ge i k with h | h
            · exact HA.out i h
            · obtain rfl : i = k := by omega
              exact HD.out
          case measure => simp [intOf]; omega
    · obtain rfl : k = m := by omega
      have H0 : Hid (dlOk ps zs x y = true) := dl_true.2 ⟨by rw [HL.out]; omega, fun j hj => HA.out j (by rw [HL.out] at hj; exact hj)⟩
      have HE : Hid (dlS ps zs x y k = 0) := by have := dlS_all ps zs x y; rw [HL.out] at this; exact this
      go_wp2
      go_ret2
      exact ⟨ret_ib HE.out H0.out.symm, hbl⟩

end Go.Proofs.Ytjjogggallapjaa
