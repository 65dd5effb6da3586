/-
  The walk of laws.FnExactSamplesValid.
-/
import Derived.Test.YtgepjbfdjnhcoaaSamples
import Derived.Test.YtgepjbfdjnhcoaaInts
namespace Go.Proofs.Ytgepjbfdjnhcoaa
open Go.RowKit
set_option linter.unusedVariables false

set_option maxHeartbeats 400000 in
theorem walkFnExactSamplesValid (w : World) (A : Option Addr) (n c : Nat) (zs : List Int) (hz : Ints w A n zs) (hl : n ≤ maxLen) (_ : ∀ j, (Lit.int .i64 (el zs j)).wf = true) :
    Calls Try.prog 4 #[.slice A n c] w fun e w' => e = .returned (.bool true) ∧ Below w.heap.size w w' := by
  unfold maxLen at hl
  by_cases hb : n ≤ 1048576
  · go_enter Try.func4, Try.ntmps4
    go_wp2_with fail
    refine (toIntS_any _ _ _ zs _ hz hb).mono ?_
    rintro e w1 ⟨A1, n1, c1, rfl, ho1, hb1⟩
    have hn1 : n1 ≤ 1048577 := by have := ho1.ints.len; have := hz.len; omega
    go_wp2_with fail
    refine (sValid_any _ _ _ zs _ ho1.ints hn1).mono ?_
    rintro e w' ⟨rfl, rfl⟩
    go_wp2_with fail
    have hz1 := hz.below hb1
    refine (toIntS_any _ _ _ zs _ hz1 hb).mono ?_
    rintro e w2 ⟨A2, n2, c2, rfl, ho2, hb2⟩
    have hn2 : n2 ≤ 1048577 := by have := ho2.ints.len; have := hz.len; omega
    go_wp2_with fail
    refine (iValid_any _ _ _ zs _ ho2.ints hn2).mono ?_
    rintro e w' ⟨rfl, rfl⟩
    go_wp2_with fail
    have hz2 := hz1.below hb2
    refine (toIntS_any _ _ _ zs _ hz2 hb).mono ?_
    rintro e w3 ⟨A3, n3, c3, rfl, ho3, hb3⟩
    go_wp2_with fail
    refine (eqIntS_any _ _ _ _ _ _ zs zs _ (ho2.ints.below hb3) ho3.ints hn2).mono ?_
    rintro e w4 ⟨rfl, hb4⟩
    have he := eqL_self zs
    go_wp2
    go_ret
    exact ⟨rfl, hb1.trans ((hb2.mono hb1.size).trans ((hb3.mono (Nat.le_trans hb1.size hb2.size)).trans (hb4.mono (Nat.le_trans hb1.size (Nat.le_trans hb2.size hb3.size)))))⟩
  · have hb' : 1048576 < n := by omega
    clear hb
    go_enter Try.func4, Try.ntmps4
    go_wp2
    go_ret
    exact ⟨rfl, Below.refl _ _⟩

end Go.Proofs.Ytgepjbfdjnhcoaa
