/-
  Contract: laws.sameInts says whether two slices of integers are equal.
-/
import Derived.Test.YtkmnjekpogbkkaaInts
namespace Go.Proofs.Ytkmnjekpogbkkaa
open Go.RowKit
set_option linter.unusedVariables false

set_option maxHeartbeats 400000 in
theorem sameInts_any (A B : Option Addr) (n m c d : Nat) (zs ys : List Int) (w : World) (hz : Ints w A n zs) (hy : Ints w B m ys) (hn : n ≤ 1048577) :
    Calls Try.prog 19 #[.slice A n c, .slice B m d] w fun e w' => e = .returned (.bool (eqL zs ys)) ∧ Below w.heap.size w w' := by
  by_cases hnm : n = m
  · subst hnm
    have HL := Lib.hid (hz.len.trans hy.len.symm)
    have HL' := Lib.hid hz.len
    go_enter Try.func19, Try.ntmps19
    go_wp2
    go_loopw [5] (fun i wr => ∃ k : Nat, k ≤ n ∧ i = .int .i64 k ∧ (∀ j, j < k → el zs j = el ys j) ∧ ∃ q, wr = w.drewN q) (fun i _ => n - (intOf i).toNat)
    case atStart => exact ⟨0, Nat.zero_le _, rfl, fun j hj => absurd hj (by omega), 0, rfl⟩
    case round =>
      obtain ⟨k, hk, rfl, ha, q, rfl⟩ := hrel
      have HA := Lib.hid ha
      clear ha
      by_cases hlt : k < n
      · obtain ⟨b, off, rfl, hb, hc⟩ := hz.at_ (by omega)
        obtain ⟨b', off', rfl, hb', hc'⟩ := hy.at_ (by omega)
        have hck := hc k hlt
        have hck' := hc' k hlt
        clear hc hc'
        by_cases he : el zs k = el ys k
        · have HE := Lib.hid he
          have he1 : (el zs k != el ys k) = false := by simp [he]
          clear he
          go_wp2
          go_quiet (fail)
          go_wp2
          go_roundw
          case rel =>
            refine ⟨k + 1, by omega, by go_num, fun j hj => ?_, _, rfl⟩
            rcases Nat.lt_or_ge j k with h | h
            · exact HA.out j h
            · obtain rfl : j = k := by omega
              exact HE.out
          case measure => simp [intOf]; omega
        · have HE := Lib.hid he
          have he1 : (el zs k != el ys k) = true := by simp [he]
          clear he
          go_wp2
          go_quiet (fail)
          go_wp2
          go_ret
          exact ⟨ret_bool (eqL_at HE.out).symm, below_drewN (below_drewN (Below.refl _ _) _) _⟩
      · have H : Hid (eqL zs ys = true) := eqL_all HL.out fun j hj => HA.out j (by rw [HL'.out] at hj; omega)
        go_wp2
        go_ret
        exact ⟨ret_bool H.out.symm, below_drewN (Below.refl _ _) _⟩
  · have H := Lib.hid (eqL_len (zs := zs) (ys := ys) (by rw [hz.len, hy.len]; exact hnm))
    have h1 : ((n : Int) != (m : Int)) = true := by simp; omega
    have h2 : (n != m) = true := by simp; omega
    go_enter Try.func19, Try.ntmps19
    go_wp2
    go_ret
    exact ⟨ret_bool H.out.symm, Below.refl _ _⟩

end Go.Proofs.Ytkmnjekpogbkkaa
