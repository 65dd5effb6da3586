/-
  Contracts: spec.DrawDelayBase draws a list of places, two numbers and a direction.
-/
import Derived.Test.YtkmnjekpogbkkaaDrawPair
import Derived.Test.YtkmnjekpogbkkaaDrawDir
namespace Go.Proofs.Ytkmnjekpogbkkaa
open Go.RowKit
set_option linter.unusedVariables false

/-- Places, two numbers and a direction have been drawn. -/
def DbaPost (w : World) (e : Ending) (w' : World) : Prop :=
  ∃ A n c ps i j x y, e = .returned (.tuple #[.slice A n c, .int .i64 i, .int .i64 j, .agg #[.int .i64 x, .int .i64 y]]) ∧ NewP w' w.heap.size A n c ps ∧ 1 ≤ n ∧ n ≤ 5 ∧ Below w.heap.size w w'

set_option maxHeartbeats 2000000 in
theorem DrawDelayBase_any (A : Option Addr) (n c : Nat) (bs : List Int) (w : World) (hz : IntsK .u8 w A n bs) (hn : n ≤ 1048576) (hc : n ≤ c) (hbs : ∀ j, 0 ≤ el bs j ∧ el bs j ≤ 255) :
    Calls Try.prog 48 #[.slice A n c] w (DbaPost w) := by
  have hba := below_alloc w (.cells #[.int .i64 0, .int .i64 0] 25)
  have z0 := BoxT.new 25 w 0 0
  have hz0 := hz.below hba
  go_enter Try.func48, Try.ntmps48
  go_wp2_with fail
  refine (l6Open_any A n c bs _ hz0 hn hc hbs).mono ?_
  rintro e w1 ⟨g, rfl, hg, hR1, hb1⟩
  clear hbs
  have hsz : (w.alloc (.cells #[.int .i64 0, .int .i64 0] 25)).heap.size = w.heap.size + 1 := by simp
  have HSZ := Lib.hid hsz
  clear hsz
  have hg' : w.heap.size + 1 ≤ g := by rw [← HSZ.out]; exact hg
  have z1 := z0.below hb1
  have B1 := below_step hba hb1
  go_wp2_with fail
  refine (l91Pair_any g 0 _ hR1 (by omega)).mono ?_
  rintro e w2 ⟨A2, n2, c2, ps, i, j, p2, rfl, hO2, hn1, hn2, hR2, hp2, hG2⟩
  have z2 := z1.off hG2 (fun k e => by cases e; omega)
  have B2 := B1.grown hG2 B1.size (fun k e => by cases e; omega)
  have hs1 := hR1.lt
  go_wp2_with fail
  refine (l91Direction_any g p2 _ hR2 (by omega)).mono ?_
  rintro e w3 ⟨x, y, p3, rfl, hR3, hp3, hG3⟩
  have z3 := z2.off hG3 (fun k e => by cases e; omega)
  have B3 := B2.grown hG3 B2.size (fun k e => by cases e; omega)
  have hO3 := hO2.off hG3 (fun k e => by cases e; exact hs1)
  have r := z3.set2 x y
  have q1 := z3.c0
  have q2 := z3.c1
  have q3 := z3.fz 0
  have q4 := z3.fz 1
  have r0 := r.c0
  have r1 := r.c1
  have hO4 := (hO3.off (set_grown w3 w.heap.size 0 (.int .i64 x)) (fun k e => by cases e; omega)).off (set_grown _ w.heap.size 1 (.int .i64 y)) (fun k e => by cases e; omega)
  have B4 := (B3.setCell (p := ⟨w.heap.size, 0, none⟩) (Nat.le_refl _) (.int .i64 x)).setCell (p := ⟨w.heap.size, 1, none⟩) (Nat.le_refl _) (.int .i64 y)
  go_wp2
  exact bodyPost_ret (v := .tuple #[.slice A2 n2 c2, .int .i64 i, .int .i64 j, .agg #[.int .i64 x, .int .i64 y]]) (by simp [results, Try.results48, go_sem, r0, r1]) rfl ⟨_, _, _, _, _, _, _, _, rfl, hO4.mono (by omega), hn1, hn2, B4⟩

end Go.Proofs.Ytkmnjekpogbkkaa
