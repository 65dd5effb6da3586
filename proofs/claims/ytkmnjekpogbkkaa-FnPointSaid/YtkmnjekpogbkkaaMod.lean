/-
  Contract: spec.l1Mod returns a number modulo another one, from 0 on; plain facts on that.
-/
import Derived.Test.YtkmnjekpogbkkaaProg
import Derived.Test.YtkmnjekpogbkkaaWords
namespace Go.Proofs.Ytkmnjekpogbkkaa
open Go.RowKit
set_option linter.unusedVariables false

/-- k modulo n, from 0 on. -/
def cyc (k n : Int) : Int := k % n
theorem cyc_ge {k n : Int} (h : 1 ≤ n) : 0 ≤ cyc k n := Int.emod_nonneg _ (by omega)
theorem cyc_lt {k n : Int} (h : 1 ≤ n) : cyc k n < n := Int.emod_lt_of_pos _ (by omega)
theorem cyc_small {k n : Int} (h0 : 0 ≤ k) (h1 : k < n) : cyc k n = k := Int.emod_eq_of_lt h0 h1
theorem cyc_cyc (a b n : Int) : cyc (cyc a n + b) n = cyc (a + b) n := by unfold cyc; exact Int.emod_add_emod _ _ _

theorem tmod_cases (k n : Int) (hn : 1 ≤ n) : (0 ≤ k.tmod n ∧ k.tmod n < n ∧ k.tmod n = cyc k n) ∨ (k.tmod n < 0 ∧ -n < k.tmod n ∧ k.tmod n + n = cyc k n) := by
  have h1 := cyc_ge (k := k) hn
  have h2 := cyc_lt (k := k) hn
  unfold cyc at *
  rw [Int.tmod_eq_emod]
  split
  · left; simp; omega
  · have hna : (n.natAbs : Int) = n := by omega
    by_cases h0 : k % n = 0
    · rename_i h
      exact absurd (Or.inr (Int.dvd_of_emod_eq_zero h0)) h
    · right; rw [hna]; omega

theorem l1Mod_any (k n : Int) (w : World) (hn : 1 ≤ n) (hn' : n ≤ 1000000) (hk : -9000000000000000000 ≤ k) (hk' : k ≤ 9000000000000000000) :
    Calls Try.prog 63 #[.int .i64 k, .int .i64 n] w fun e w' => e = .returned (.int .i64 (cyc k n)) ∧ w = w' := by
  have hn0 : (n == 0) = false := by simp; omega
  rcases tmod_cases k n hn with ⟨a, b, c⟩ | ⟨a, b, c⟩
  · have H := Lib.hid c
    clear c
    go_enter Try.func63, Try.ntmps63
    go_wp2
    go_ret
    exact ⟨ret_int H.out, rfl⟩
  · have H := Lib.hid c
    clear c
    go_enter Try.func63, Try.ntmps63
    go_wp2
    go_ret
    exact ⟨ret_int H.out, rfl⟩

end Go.Proofs.Ytkmnjekpogbkkaa
