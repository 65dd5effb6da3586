/-
  Contract: spec.DrawDelayPhase draws a list of places, two numbers and a direction.
-/
import Derived.Test.YtkmnjekpogbkkaaDrawDba
namespace Go.Proofs.Ytkmnjekpogbkkaa
open Go.RowKit
set_option linter.unusedVariables false

set_option maxHeartbeats 2000000 in
theorem DrawDelayPhase_any (A : Option Addr) (n c : Nat) (bs : List Int) (w : World) (hz : IntsK .u8 w A n bs) (hn : n ≤ 1048576) (hc : n ≤ c) (hbs : ∀ j, 0 ≤ el bs j ∧ el bs j ≤ 255) :
    Calls Try.prog 21 #[.slice A n c] w (DbaPost w) := by
  have hba := below_alloc w (.cells #[.int .i64 0, .int .i64 0] 25)
  have z0 := BoxT.new 25 w 0 0
  have hz0 := hz.below hba
  have HSZ : Hid ((w.alloc (.cells #[.int .i64 0, .int .i64 0] 25)).heap.size = w.heap.size + 1) := by simp [Hid]
  go_enter Try.func21, Try.ntmps21
  go_wp2_with fail
  refine (DrawDelayBase_any A n c bs _ hz0 hn hc hbs).mono ?_
  rintro e w1 ⟨A1, n1, c1, ps, i, j, x, y, rfl, hO1, hn1, hn2, hb1⟩
  clear hbs
  rw [HSZ.out] at hO1
  have z1 := z0.below hb1
  have B1 := below_step hba hb1
  have r := z1.set2 x y
  have q1 := z1.c0
  have q2 := z1.c1
  have q3 := z1.fz 0
  have q4 := z1.fz 1
  have r0 := r.c0
  have r1 := r.c1
  have hO2 := (hO1.off (set_grown w1 w.heap.size 0 (.int .i64 x)) (fun k e => by cases e; omega)).off (set_grown _ w.heap.size 1 (.int .i64 y)) (fun k e => by cases e; omega)
  have B2 := (B1.setCell (p := ⟨w.heap.size, 0, none⟩) (Nat.le_refl _) (.int .i64 x)).setCell (p := ⟨w.heap.size, 1, none⟩) (Nat.le_refl _) (.int .i64 y)
  go_wp2
  exact bodyPost_ret (v := .tuple #[.slice A1 n1 c1, .int .i64 i, .int .i64 j, .agg #[.int .i64 x, .int .i64 y]]) (by simp [results, Try.results21, go_sem, r0, r1]) rfl ⟨_, _, _, _, _, _, _, _, rfl, hO2.mono (by omega), hn1, hn2, B2⟩

end Go.Proofs.Ytkmnjekpogbkkaa
