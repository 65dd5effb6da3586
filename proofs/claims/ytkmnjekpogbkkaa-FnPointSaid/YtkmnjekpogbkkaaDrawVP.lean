/-
  Contract: spec.DrawVisPoint draws a list of places, a direction and an amplitude.
-/
import Derived.Test.YtkmnjekpogbkkaaDrawArr
import Derived.Test.YtkmnjekpogbkkaaDrawDir
import Derived.Deep.RegionWith
import Derived.IntWalk
namespace Go.Proofs.Ytkmnjekpogbkkaa
open Go.RowKit
set_option linter.unusedVariables false

/-- Places, a direction and an amplitude have been drawn. -/
def VpPost (w : World) (e : Ending) (w' : World) : Prop :=
  ∃ A n c ps x y amp, e = .returned (.tuple #[.slice A n c, .agg #[.int .i64 x, .int .i64 y], .int .i64 amp]) ∧ NewP w' w.heap.size A n c ps ∧ 1 ≤ n ∧ n ≤ 5 ∧ Below w.heap.size w w'

theorem vp_at {m : Int} (h0 : 0 ≤ m) (h1 : m < 2) : ∃ v : Int, (#[Value.int .i64 0, .int .i64 1000001] : Array Value)[m.toNat]? = some (.int .i64 v) := by
  obtain rfl | rfl : m = 0 ∨ m = 1 := by omega
  · exact ⟨0, rfl⟩
  · exact ⟨1000001, rfl⟩

theorem cell_new_lit2 (w5 : World) (p p' : Addr) (v v' : Value) {i : Nat} {cs : Array Value} {T : TypeId} {u : Value} (hv : cs[i]? = some u) : (((w5.setCell p v).setCell p' v').alloc (.cells cs T)).cell? ⟨w5.heap.size, i, none⟩ = some u := by
  have h := cell_new_litA ((w5.setCell p v).setCell p' v') (T := T) hv
  have e : ((w5.setCell p v).setCell p' v').heap.size = w5.heap.size := by simp [World.setCell]
  rwa [e] at h

theorem cell_new_lit3 (w5 : World) {b : Nat} (hb : b < w5.heap.size) (v v' : Value) {i : Nat} {cs : Array Value} {T : TypeId} {u : Value} (hv : cs[i]? = some u) : (((w5.alloc (.cells cs T)).setCell ⟨b, 0, none⟩ v).setCell ⟨b, 1, none⟩ v').cell? ⟨w5.heap.size, i, none⟩ = some u :=
  (World.cell?_of_block (Below.heap_setCell _ ⟨b, 1, none⟩ v' w5.heap.size (Nat.ne_of_gt hb))).trans ((World.cell?_of_block (Below.heap_setCell _ ⟨b, 0, none⟩ v w5.heap.size (Nat.ne_of_gt hb))).trans (cell_new_litA w5 hv))

/-- What is known where the reader lies in block g, the place for the direction in block w.heap.size, the direction in block Bd. -/
def VpSt (w : World) (g Bd base q : Nat) (A : Option Addr) (n c : Nat) (ps : List (Int × Int)) (x y : Int) (W : World) : Prop :=
  Rdr W g q ∧ BoxT 25 W w.heap.size 0 0 ∧ BoxT 25 W Bd x y ∧ NewP W base A n c ps ∧ Below w.heap.size w W
theorem VpSt.pick {w W W' : World} {g Bd base q : Nat} {A : Option Addr} {n c : Nat} {ps : List (Int × Int)} {x y : Int} (h : VpSt w g Bd base q A n c ps x y W) (hR : Rdr W' g (q + 1)) (hG : W.grownBy W' (some g)) (h1 : w.heap.size < g) (h2 : g ≠ Bd) (h3 : g < base) : VpSt w g Bd base (q + 1) A n c ps x y W' :=
  ⟨hR, h.2.1.off hG (fun k e => by cases e; omega), h.2.2.1.off hG (fun k e => by cases e; exact h2), h.2.2.2.1.off hG (fun k e => by cases e; exact h3), h.2.2.2.2.grown hG h.2.2.2.2.size (fun k e => by cases e; omega)⟩
theorem VpSt.alloc {w W : World} {g Bd base q : Nat} {A : Option Addr} {n c : Nat} {ps : List (Int × Int)} {x y : Int} (h : VpSt w g Bd base q A n c ps x y W) (o : Obj) : VpSt w g Bd base q A n c ps x y (W.alloc o) :=
  ⟨h.1.alloc o, h.2.1.below (below_alloc W o), h.2.2.1.below (below_alloc W o), h.2.2.2.1.below (below_alloc W o), h.2.2.2.2.alloc h.2.2.2.2.size o⟩

set_option maxHeartbeats 4000000 in
theorem DrawVisPoint_any (A : Option Addr) (n c : Nat) (bs : List Int) (w : World) (hz : IntsK .u8 w A n bs) (hn : n ≤ 1048576) (hc : n ≤ c) (hbs : ∀ j, 0 ≤ el bs j ∧ el bs j ≤ 255) :
    Calls Try.prog 10 #[.slice A n c] w (VpPost w) := by
  have hba := below_alloc w (.cells #[.int .i64 0, .int .i64 0] 25)
  have z0 := BoxT.new 25 w 0 0
  have hz0 := hz.below hba
  have HSZ : Hid ((w.alloc (.cells #[.int .i64 0, .int .i64 0] 25)).heap.size = w.heap.size + 1) := by simp [Hid]
  go_enter Try.func10, Try.ntmps10
  go_wp2_with fail
  refine (l6Open_any A n c bs _ hz0 hn hc hbs).mono ?_
  rintro e w1 ⟨g, rfl, hg, hR1, hb1⟩
  clear hbs
  have hg' : w.heap.size + 1 ≤ g := by rw [← HSZ.out]; exact hg
  have z1 := z0.below hb1
  have B1 := below_step hba hb1
  have hs1 := hR1.lt
  go_wp2_with fail
  refine (l91Array_any g 0 _ hR1 (by omega)).mono ?_
  rintro e w2 ⟨A2, n2, c2, ps, p2, rfl, hO2, hn1, hn2, hR2, hp2, hG2⟩
  have z2 := z1.off hG2 (fun k e => by cases e; omega)
  have B2 := B1.grown hG2 B1.size (fun k e => by cases e; omega)
  go_wp2_with fail
  refine (l91Direction_any g p2 _ hR2 (by omega)).mono ?_
  rintro e w3 ⟨x, y, p3, rfl, hR3, hp3, hG3⟩
  have z3 := z2.off hG3 (fun k e => by cases e; omega)
  have B3 := B2.grown hG3 B2.size (fun k e => by cases e; omega)
  have hO3 := hO2.off hG3 (fun k e => by cases e; exact hs1)
  have hg3 := hR3.lt
  have hs3 := B3.size
  have hz3 := z3.lt
  have S3 : VpSt w g w3.heap.size w1.heap.size p3 A2 n2 c2 ps x y (w3.alloc (.cells #[.int .i64 x, .int .i64 y] 25)) :=
    ⟨hR3.alloc _, z3.below (below_alloc _ _), BoxT.new 25 w3 x y, hO3.below (below_alloc _ _), B3.alloc hs3 _⟩
  clear z0 z1 z2 z3 B1 B2 B3 hO2 hO3 hG2 hG3 hR1 hR2 hR3 hb1 hba hz0
  go_wp2_with fail
  refine (pick_any g p3 _ _ S3.1 (by omega) (by omega) (by omega)).mono ?_
  rintro e w4 ⟨m, hm0, hm1, rfl, hR4, hG4⟩
  have S4 := S3.pick hR4 hG4 (by omega) (by omega) hs1
  clear S3 hR4 hG4
  have q1 := S4.2.2.1.c0
  have q2 := S4.2.2.1.c1
  by_cases e0 : m = 0
  · subst e0
    have S4a := S4.alloc (.cells #[.int .i64 0, .int .i64 1000001] 3)
    have q3 := S4a.2.2.1.c0
    have q4 := S4a.2.2.1.c1
    have hg4 := S4.1.lt
    go_wp2
    go_region_with (go_at_call 36; refine (pick_any g (p3 + 1) _ _ ?_ (by omega) (by omega) (by omega)).mono ?_; (first | exact S4.1.drewA | exact S4.1.drewA.alloc _); rintro e w5 ⟨k, hk0, hk1, rfl, hR5, hG5⟩; obtain ⟨v, hv⟩ := vp_at hk0 hk1; (first | (have S5 := S4a.pick hR5 (grown_undrewA hG5) (by omega) (by omega) hs1; have hA : w5.cell? ⟨w4.heap.size, k.toNat, none⟩ = some (.int .i64 v) := cell_kept_litA (grown_undrewA hG5) hg4 hv; have S6 := S5) | (have S5 := S4.pick hR5 (grown_undrewA hG5) (by omega) (by omega) hs1; have hB := cell_new_litA w5 (T := 3) hv; have hB2 := cell_new_lit2 w5 ⟨w.heap.size, 0, none⟩ ⟨w.heap.size, 1, none⟩ (.int .i64 x) (.int .i64 y) (T := 3) hv; have hw5 := S5.2.1.lt; have hB3 := cell_new_lit3 w5 hw5 (.int .i64 x) (.int .i64 y) (T := 3) hv; have S6 := S5.alloc (.cells #[.int .i64 0, .int .i64 1000001] 3))); have u9 := S5.2.1.c0; have u10 := S5.2.1.c1; have u11 := S5.2.1.fz 0; have u12 := S5.2.1.fz 1; have u1 := S5.2.2.1.c0; have u2 := S5.2.2.1.c1; have u3 := S6.2.2.1.c0; have u4 := S6.2.2.1.c1; have u5 := S6.2.1.c0; have u6 := S6.2.1.c1; have u7 := S6.2.1.fz 0; have u8 := S6.2.1.fz 1)
    all_goals
      have r0 := (S6.2.1.set2 x y).c0
      have r1 := (S6.2.1.set2 x y).c1
      have hO9 := (S6.2.2.2.1.off (set_grown _ w.heap.size 0 (.int .i64 x)) (fun k e => by cases e; omega)).off (set_grown _ w.heap.size 1 (.int .i64 y)) (fun k e => by cases e; omega)
      have B9 := (S6.2.2.2.2.setCell (p := ⟨w.heap.size, 0, none⟩) (Nat.le_refl _) (.int .i64 x)).setCell (p := ⟨w.heap.size, 1, none⟩) (Nat.le_refl _) (.int .i64 y)
      have t0 := ((S5.2.1.set2 x y).below (below_alloc _ (.cells #[.int .i64 0, .int .i64 1000001] 3))).c0
      have t1 := ((S5.2.1.set2 x y).below (below_alloc _ (.cells #[.int .i64 0, .int .i64 1000001] 3))).c1
      have hO8 := ((S5.2.2.2.1.off (set_grown _ w.heap.size 0 (.int .i64 x)) (fun k e => by cases e; omega)).off (set_grown _ w.heap.size 1 (.int .i64 y)) (fun k e => by cases e; omega)).below (below_alloc _ (.cells #[.int .i64 0, .int .i64 1000001] 3))
      have B8 := ((S5.2.2.2.2.setCell (p := ⟨w.heap.size, 0, none⟩) (Nat.le_refl _) (.int .i64 x)).setCell (p := ⟨w.heap.size, 1, none⟩) (Nat.le_refl _) (.int .i64 y)).alloc (by have := S5.2.2.2.2.size; simpa using this) (.cells #[.int .i64 0, .int .i64 1000001] 3)
      go_wp2
      first
        | exact bodyPost_ret (v := .tuple #[.slice A2 n2 c2, .agg #[.int .i64 x, .int .i64 y], .int .i64 v]) (by simp [results, Try.results10, go_sem, r0, r1]) rfl ⟨_, _, _, _, _, _, _, rfl, hO9.mono (by omega), hn1, hn2, B9⟩
        | exact bodyPost_ret (v := .tuple #[.slice A2 n2 c2, .agg #[.int .i64 x, .int .i64 y], .int .i64 v]) (by simp [results, Try.results10, go_sem, t0, t1]) rfl ⟨_, _, _, _, _, _, _, rfl, hO8.mono (by omega), hn1, hn2, B8⟩
  · have e0' : (m == 0) = false := by simp [e0]
    clear e0
    go_wp2
    go_region_with (go_at_call 36; refine (pick_any g (p3 + 1) _ _ S4.1.drewA (by omega) (by omega) (by omega)).mono ?_; rintro e w5 ⟨k, hk0, hk1, rfl, hR5, hG5⟩; have S6 := S4.pick hR5 (grown_undrewA hG5) (by omega) (by omega) hs1; have u3 := S6.2.2.1.c0; have u4 := S6.2.2.1.c1; have u5 := S6.2.1.c0; have u6 := S6.2.1.c1; have u7 := S6.2.1.fz 0; have u8 := S6.2.1.fz 1; have v1 : IntKind.i64.wrap (1 + k) = 1 + k := IntWalk.i64_in _ (by omega))
    all_goals
      have r0 := (S6.2.1.set2 x y).c0
      have r1 := (S6.2.1.set2 x y).c1
      have hO9 := (S6.2.2.2.1.off (set_grown _ w.heap.size 0 (.int .i64 x)) (fun k e => by cases e; omega)).off (set_grown _ w.heap.size 1 (.int .i64 y)) (fun k e => by cases e; omega)
      have B9 := (S6.2.2.2.2.setCell (p := ⟨w.heap.size, 0, none⟩) (Nat.le_refl _) (.int .i64 x)).setCell (p := ⟨w.heap.size, 1, none⟩) (Nat.le_refl _) (.int .i64 y)
      go_wp2
      exact bodyPost_ret (v := .tuple #[.slice A2 n2 c2, .agg #[.int .i64 x, .int .i64 y], .int .i64 (1 + k)]) (by simp [results, Try.results10, go_sem, r0, r1]) rfl ⟨_, _, _, _, _, _, _, rfl, hO9.mono (by omega), hn1, hn2, B9⟩

end Go.Proofs.Ytkmnjekpogbkkaa
