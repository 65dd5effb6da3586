/-
  Contracts: impl.isPlace, isAnt, slices.Index and slices.Contains at antennas, ArrayValid of the program and of the reference.
-/
import Derived.Test.YtkmnjekpogbkkaaAntF
import Derived.Test.YtkmnjekpogbkkaaRange
import Derived.Deep.QuietTactic
import Derived.BigQuiet
import Derived.Deep.RegionWith
import Derived.Test.YtkmnjekpogbkkaaAntS
namespace Go.Proofs.Ytkmnjekpogbkkaa
open Go.RowKit
set_option linter.unusedVariables false

theorem isPlace_any (x y : Int) (w : World) :
    Calls Try.prog 38 #[.agg #[.int .i64 x, .int .i64 y]] w fun e w' => e = .returned (.bool (plc x y)) ∧ Below w.heap.size w w' := by
  have hB : ∀ o : Obj, Below w.heap.size w (w.alloc o) := fun o => (Below.refl _ _).alloc (Nat.le_refl _) _
  have HB := Lib.hid hB
  clear hB
  cases hx : betB x (-1000) 1000
  · have H := Lib.hid (plc_x (y := y) hx)
    go_enter Try.func38, Try.ntmps38
    go_wp2_with (go_at_call 52; refine (inRange_any _ _ _ (by omega) (by omega)).mono ?_; rintro e w' ⟨rfl, rfl⟩)
    go_ret
    exact ⟨ret_bool H.out.symm, HB.out _⟩
  · have H := Lib.hid (plc_y (y := y) hx)
    have HX := Lib.hid hx
    clear hx
    go_enter Try.func38, Try.ntmps38
    go_wp2_with fail
    refine (inRange_any _ _ _ (by omega) (by omega)).mono ?_
    rintro e w' ⟨he, rfl⟩
    rw [show betB x (-1000) 1000 = true from HX.out] at he
    subst he
    go_wp2_with fail
    refine (inRange_any _ _ _ (by omega) (by omega)).mono ?_
    rintro e w' ⟨rfl, rfl⟩
    go_wp2
    go_ret
    exact ⟨ret_bool H.out.symm, HB.out _⟩

theorem l3Place_any (x y : Int) (w : World) :
    Calls Try.prog 41 #[.agg #[.int .i64 x, .int .i64 y]] w fun e w' => e = .returned (.bool (plc x y)) ∧ Below w.heap.size w w' := by
  have hB : ∀ o : Obj, Below w.heap.size w (w.alloc o) := fun o => (Below.refl _ _).alloc (Nat.le_refl _) _
  have HB := Lib.hid hB
  clear hB
  cases hx : betB x (-1000) 1000
  · have H := Lib.hid (plc_x (y := y) hx)
    go_enter Try.func41, Try.ntmps41
    go_wp2_with (go_at_call 42; refine (l6In_any _ _ _ _).mono ?_; rintro e w' ⟨rfl, rfl⟩)
    go_ret
    exact ⟨ret_bool H.out.symm, HB.out _⟩
  · have H := Lib.hid (plc_y (y := y) hx)
    have HX := Lib.hid hx
    clear hx
    go_enter Try.func41, Try.ntmps41
    go_wp2_with fail
    refine (l6In_any _ _ _ _).mono ?_
    rintro e w' ⟨he, rfl⟩
    rw [HX.out] at he
    subst he
    go_wp2_with fail
    refine (l6In_any _ _ _ _).mono ?_
    rintro e w' ⟨rfl, rfl⟩
    go_wp2
    go_ret
    exact ⟨ret_bool H.out.symm, HB.out _⟩

theorem isAnt_any (n i : Int) (w : World) (hn : 0 ≤ n) (hn' : n ≤ 1048577) : Calls Try.prog 58 #[.int .i64 n, .int .i64 i] w fun e w' => e = .returned (.bool (isA n i)) ∧ w = w' := by
  by_cases a : 0 ≤ i
  · by_cases b : i < n
    · have H := Lib.hid (isA_true.2 ⟨a, b⟩)
      go_enter Try.func58, Try.ntmps58
      go_wp2
      go_ret
      exact ⟨ret_bool (by first | exact H.out.symm | (rw [H.out]; simp; done) | (rw [H.out]; simp; omega)), rfl⟩
    · have H : Hid (isA n i = false) := by rw [Hid, ← Bool.not_eq_true, isA_true]; exact fun h => b h.2
      have b' : n ≤ i := by omega
      clear b
      go_enter Try.func58, Try.ntmps58
      go_wp2
      go_ret
      exact ⟨ret_bool (by first | exact H.out.symm | (rw [H.out]; simp; done) | (rw [H.out]; simp; omega)), rfl⟩
  · have H : Hid (isA n i = false) := by rw [Hid, ← Bool.not_eq_true, isA_true]; exact fun h => a h.1
    have a' : i < 0 := by omega
    clear a
    go_enter Try.func58, Try.ntmps58
    go_wp2
    go_ret
    exact ⟨ret_bool H.out.symm, rfl⟩

end Go.Proofs.Ytkmnjekpogbkkaa
