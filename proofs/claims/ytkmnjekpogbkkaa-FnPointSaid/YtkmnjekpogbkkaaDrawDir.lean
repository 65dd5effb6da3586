/-
  Contract: spec.l91Direction draws a direction.
-/
import Derived.Test.YtkmnjekpogbkkaaProg
import Derived.Test.YtkmnjekpogbkkaaBoxT
namespace Go.Proofs.Ytkmnjekpogbkkaa
open Go.RowKit
set_option linter.unusedVariables false

/-- A direction has been drawn. -/
def DirPost (w : World) (g p : Nat) (e : Ending) (w' : World) : Prop :=
  ∃ x y p', e = .returned (.agg #[.int .i64 x, .int .i64 y]) ∧ Rdr w' g p' ∧ p' ≤ p + 3 ∧ w.grownBy w' (some g)

set_option maxHeartbeats 2000000 in
theorem l91Direction_any (g p : Nat) (w : World) (h : Rdr w g p) (hp : p ≤ 45000) :
    Calls Try.prog 35 #[.pointer (some ⟨g, 0, none⟩)] w (DirPost w g p) := by
  have hlt := h.lt
  have z0 := BoxT.new 25 w 0 0
  have hba := below_alloc w (.cells #[.int .i64 0, .int .i64 0] 25)
  have hR0 := h.below hba
  have hG0 : w.grownBy (w.alloc (.cells #[.int .i64 0, .int .i64 0] 25)) (some g) := grown_belowP (World.grownBy.refl w _) hba
  go_enter Try.func35, Try.ntmps35
  go_wp2_with fail
  refine (pick_any g p _ _ hR0 (by omega) (by omega) (by omega)).mono ?_
  rintro e w1 ⟨m1, hm10, hm11, rfl, hR1, hG1⟩
  have z1 := z0.off hG1 (fun k e => by cases e; omega)
  go_wp2_with fail
  refine (pick_any g (p + 1) _ _ hR1 (by omega) (by omega) (by omega)).mono ?_
  rintro e w2 ⟨m2, hm20, hm21, rfl, hR2, hG2⟩
  have z2 := z1.off hG2 (fun k e => by cases e; omega)
  have hG02 := (hG0.trans hG1).trans hG2
  have d0 := BoxT.new 25 w2 (m1 - 100) (m2 - 100)
  have hbb := below_alloc w2 (.cells #[.int .i64 (m1 - 100), .int .i64 (m2 - 100)] 25)
  have z3 := z2.below hbb
  have hR3 := hR2.below hbb
  have hG3 := grown_belowP hG02 hbb
  have hr2 := hR2.lt
  have hz2 := z2.lt
  go_wp2_with fail
  refine (pick_any g (p + 1 + 1) _ _ hR3 (by omega) (by omega) (by omega)).mono ?_
  rintro e w4 ⟨m3, hm30, hm31, rfl, hR4, hG4⟩
  have z4 := z3.off hG4 (fun k e => by cases e; omega)
  have d4 := d0.off hG4 (fun k e => by cases e; omega)
  have hGg := hG3.trans hG4
  clear z0 z1 z2 z3 d0 hba hbb hR0 hR1 hR2 hR3 hG0 hG1 hG2 hG02 hG3 hG4
  by_cases e0 : m3 = 0
  · subst e0
    have d5 := d4.sety 1001
    have z5 := z4.other (b := w2.heap.size) (o := 1) (by omega) (.int .i64 1001)
    have r := z5.set2 (m1 - 100) 1001
    have q1 := d4.c1
    have q2 := d4.fz 1
    have q3 := d5.c0
    have q4 := d5.c1
    have q5 := z5.c0
    have q6 := z5.c1
    have q7 := z5.fz 0
    have q8 := z5.fz 1
    have r0 := r.c0
    have r1 := r.c1
    go_wp2
    exact bodyPost_ret (v := .agg #[.int .i64 (m1 - 100), .int .i64 1001]) (by simp [results, Try.results35, go_sem, r0, r1]) rfl
      ⟨_, _, _, rfl, ((hR4.set (by omega) _).set (by omega) _).set (by omega) _, by omega, grown_set (grown_set (grown_set hGg (by omega) _) (by omega) _) (by omega) _⟩
  · have e0' : (m3 == 0) = false := by simp [e0]
    clear e0
    have r := z4.set2 (m1 - 100) (m2 - 100)
    have q3 := d4.c0
    have q4 := d4.c1
    have q5 := z4.c0
    have q6 := z4.c1
    have q7 := z4.fz 0
    have q8 := z4.fz 1
    have r0 := r.c0
    have r1 := r.c1
    go_wp2
    exact bodyPost_ret (v := .agg #[.int .i64 (m1 - 100), .int .i64 (m2 - 100)]) (by simp [results, Try.results35, go_sem, r0, r1]) rfl
      ⟨_, _, _, rfl, (hR4.set (by omega) _).set (by omega) _, by omega, grown_set (grown_set hGg (by omega) _) (by omega) _⟩

end Go.Proofs.Ytkmnjekpogbkkaa
