/-
  Contracts: DelayPhase of the program and of the reference.
-/
import Derived.Test.YtkmnjekpogbkkaaDelay
import Derived.Test.YtkmnjekpogbkkaaPhase
namespace Go.Proofs.Ytkmnjekpogbkkaa
open Go.RowKit
set_option linter.unusedVariables false

/-- DelayPhase. -/
def dpV (ps : List (Int × Int)) (i j x y : Int) : Int := cyc (dbV ps i j x y) 360
theorem dp_no {ps : List (Int × Int)} {i j x y : Int} (h : dbOk ps i j x y = false) : dpV ps i j x y = 0 := by rw [dpV, db_no h]; rfl
theorem dp_in (ps : List (Int × Int)) (i j x y : Int) : 0 ≤ dpV ps i j x y ∧ dpV ps i j x y ≤ 359 := by
  have := cyc_ge (k := dbV ps i j x y) (n := 360) (by omega)
  have := cyc_lt (k := dbV ps i j x y) (n := 360) (by omega)
  unfold dpV
  omega

set_option maxHeartbeats 2000000 in
theorem iDelayPhase_any (A : Option Addr) (n c : Nat) (ps : List (Int × Int)) (i j x y : Int) (w : World) (hz : Prs w A n ps) (hn : n ≤ 1048577) (hc : n ≤ c) :
    Calls Try.prog 17 #[.slice A n c, .int .i64 i, .int .i64 j, .agg #[.int .i64 x, .int .i64 y]] w (RetIB w (dpV ps i j x y) (dbOk ps i j x y)) := by
  have hb0 := below_alloc w (.cells #[.int .i64 x, .int .i64 y] 25)
  have hz0 := hz.below hb0
  have d1 := db_in ps i j x y
  have HE : Hid (dpV ps i j x y = cyc (dbV ps i j x y) 360) := rfl
  have HN : Hid (dbOk ps i j x y = false → dpV ps i j x y = 0) := fun h => dp_no h
  obtain ⟨q0, q1, q2⟩ := Box.new w 25 x y
  go_enter Try.func17, Try.ntmps17
  go_wp2_with fail
  refine (iDelayBase_any _ _ _ ps _ _ _ _ _ hz0 hn hc).mono ?_
  rintro e w1 ⟨rfl, hb1⟩
  have hB := below_step hb0 hb1
  generalize dbV ps i j x y = v1 at d1 HE ⊢
  cases h1 : dbOk ps i j x y
  · have H0 := Lib.hid h1
    go_wp2
    go_ret2
    exact ⟨ret_ib (HN.out H0.out).symm H0.out.symm, hB⟩
  · have H0 := Lib.hid h1
    go_wp2_with fail
    refine (iPhaseOf_any _ _).mono ?_
    rintro e w' ⟨rfl, rfl⟩
    go_wp2
    go_ret2
    exact ⟨ret_ib HE.out.symm H0.out.symm, hB⟩

set_option maxHeartbeats 2000000 in
theorem sDelayPhase_any (A : Option Addr) (n c : Nat) (ps : List (Int × Int)) (i j x y : Int) (w : World) (hz : Prs w A n ps) (hn : n ≤ 1048577) (hc : n ≤ c) :
    Calls Try.prog 22 #[.slice A n c, .int .i64 i, .int .i64 j, .agg #[.int .i64 x, .int .i64 y]] w (RetIB w (dpV ps i j x y) (dbOk ps i j x y)) := by
  have hb0 := below_alloc w (.cells #[.int .i64 x, .int .i64 y] 25)
  have hz0 := hz.below hb0
  have d1 := db_in ps i j x y
  have HE : Hid (dpV ps i j x y = cyc (dbV ps i j x y) 360) := rfl
  have HN : Hid (dbOk ps i j x y = false → dpV ps i j x y = 0) := fun h => dp_no h
  obtain ⟨q0, q1, q2⟩ := Box.new w 25 x y
  go_enter Try.func22, Try.ntmps22
  go_wp2_with fail
  refine (sDelayBase_any _ _ _ ps _ _ _ _ _ hz0 hn hc).mono ?_
  rintro e w1 ⟨rfl, hb1⟩
  have hB := below_step hb0 hb1
  generalize dbV ps i j x y = v1 at d1 HE ⊢
  cases h1 : dbOk ps i j x y
  · have H0 := Lib.hid h1
    go_wp2
    go_ret2
    exact ⟨ret_ib (HN.out H0.out).symm H0.out.symm, hB⟩
  · have H0 := Lib.hid h1
    go_wp2_with fail
    refine (sPhaseOf_any _ _ (by omega) (by omega)).mono ?_
    rintro e w' ⟨rfl, rfl⟩
    go_wp2
    go_ret2
    exact ⟨ret_ib HE.out.symm H0.out.symm, hB⟩

end Go.Proofs.Ytkmnjekpogbkkaa
