/-
  Contract: spec.DrawDelayLoop draws a list of places, a list of numbers and a direction.
-/
import Derived.Test.YtjjogggallapjaaDrawArr
import Derived.Test.YtjjogggallapjaaDrawDir
import Derived.Test.YtjjogggallapjaaInts
namespace Go.Proofs.Ytjjogggallapjaa
open Go.RowKit
set_option linter.unusedVariables false

section
variable {w w' : World} {base : Nat} {A : Option Addr} {n c : Nat} {ps : List (Int × Int)}
theorem NewP.lt (h : NewP w base A n c ps) (hn : 0 < n) : ∀ b off, A = some ⟨b, off, none⟩ → b < w.heap.size := by
  intro b off e
  obtain ⟨b', off', e', hlt, _⟩ := h.1.at_ hn
  rw [e] at e'; injection e' with e'; injection e' with e1 e2
  rw [e1]; exact hlt
theorem NewP.far {row : Option Nat} {L : Nat} (h : NewP w base A n c ps) (hg : w.grownBy w' row) (hL : ∀ b off, A = some ⟨b, off, none⟩ → b < L) (hr : ∀ k, row = some k → L ≤ k) : NewP w' base A n c ps := by
  refine ⟨⟨h.1.1, fun hn => ?_⟩, h.2⟩
  obtain ⟨b, off, e, hlt, hc⟩ := h.1.at_ hn
  have hb := hL b off e
  have hblk := hg.block b hlt (fun e' => by have := hr b e'.symm; omega)
  exact ⟨b, off, e, fun j hj => ⟨(World.cell?_of_block (w := w) (a := ⟨b, off + j * 2, none⟩) hblk).trans (hc j hj).1, (World.cell?_of_block (w := w) (a := ⟨b, off + j * 2 + 1, none⟩) hblk).trans (hc j hj).2⟩⟩
end
/-- Places, numbers and a direction have been drawn. -/
def DloPost (w : World) (e : Ending) (w' : World) : Prop :=
  ∃ A n c ps B m d zs x y, e = .returned (.tuple #[.slice A n c, .slice B m d, .agg #[.int .i64 x, .int .i64 y]]) ∧ NewP w' w.heap.size A n c ps ∧ 1 ≤ n ∧ n ≤ 5 ∧ OwnI w' w.heap.size B m d zs ∧ m ≤ 5 ∧ Below w.heap.size w w'

set_option maxHeartbeats 4000000 in
theorem DrawDelayLoop_any (A : Option Addr) (n c : Nat) (bs : List Int) (w : World) (hz : IntsK .u8 w A n bs) (hn : n ≤ 1048576) (hc : n ≤ c) (hbs : ∀ j, 0 ≤ el bs j ∧ el bs j ≤ 255) :
    Calls Try.prog 31 #[.slice A n c] w (DloPost w) := by
  have hba := below_alloc w (.cells #[.int .i64 0, .int .i64 0] 30)
  have z0 := BoxT.new 30 w 0 0
  have hz0 := hz.below hba
  have HSZ : Hid ((w.alloc (.cells #[.int .i64 0, .int .i64 0] 30)).heap.size = w.heap.size + 1) := by simp [Hid]
  go_enter Try.func31, Try.ntmps31
  go_wp2_with fail
  refine (l6Open_any A n c bs _ hz0 hn hc hbs).mono ?_
  rintro e w1 ⟨g, rfl, hg, hR1, hb1⟩
  clear hbs
  have hg' : w.heap.size + 1 ≤ g := by rw [← HSZ.out]; exact hg
  have z1 := z0.below hb1
  have B1 := below_step hba hb1
  have hs1 := hR1.lt
  go_wp2_with fail
  refine (l91Array_any g 0 _ hR1 (by omega)).mono ?_
  rintro e w2 ⟨A2, n2, c2, ps, p2, rfl, hO2, hn1, hn2, hR2, hp2, hG2⟩
  have z2 := z1.off hG2 (fun k e => by cases e; omega)
  have B2 := B1.grown hG2 B1.size (fun k e => by cases e; omega)
  have hs2 := hG2.size
  have hbi := below_alloc w2 (.cells #[] 3)
  have hI2 := OwnI.lit0 w2 (Nat.le_refl _)
  have HLT := Lib.hid (hO2.lt (by omega))
  go_wp2_with fail
  refine (pick_any g p2 _ _ (hR2.alloc _) (by omega) (by omega) (by omega)).mono ?_
  rintro e w3 ⟨N, hN0, hN1, rfl, hR3, hG3⟩
  obtain ⟨M, rfl⟩ := Int.eq_ofNat_of_zero_le hN0
  have z3 := (z2.below hbi).off hG3 (fun k e => by cases e; omega)
  have B3 := (below_step B2 hbi).grown hG3 (below_step B2 hbi).size (fun k e => by cases e; omega)
  have hO3 := (hO2.below hbi).off hG3 (fun k e => by cases e; exact hs1)
  have hI3 := hI2.off hG3 (fun k e => by cases e; omega)
  have hs3 : w2.heap.size ≤ w3.heap.size := Nat.le_trans hbi.size hG3.size
  clear z0 z1 z2 hO2 hI2 hR1 hR2 hG2 hG3 hba hbi hb1 hz0 hz B1 B2
  go_wp2
  go_loopw [7, 9] (fun v i wr => ∃ (k : Nat) (A' : Option Addr) (c' : Nat) (zs : List Int), k ≤ M ∧ i = .int .i64 k ∧ v = .slice A' k c' ∧ OwnI wr w2.heap.size A' k c' zs ∧ NewP wr w1.heap.size A2 n2 c2 ps ∧ Rdr wr g (p2 + 1 + k) ∧ BoxT 30 wr w.heap.size 0 0 ∧ w2.heap.size ≤ wr.heap.size ∧ Below w.heap.size w wr) (fun _ i _ => M - (intOf i).toNat)
  case atStart => exact ⟨0, _, _, [], Nat.zero_le _, rfl, rfl, hI3, hO3, hR3, z3, hs3, B3⟩
  case round =>
    obtain ⟨k, A', c', zs, hk, rfl, rfl, hI, hO, hR, z, hs, B⟩ := hrel
    clear hI3 hO3 hR3 z3 hs3 B3
    by_cases hkM : k < M
    · go_wp2_with fail
      refine (pick_any g (p2 + 1 + k) _ _ hR (by omega) (by omega) (by omega)).mono ?_
      rintro e w4 ⟨m1, hm0, hm1, rfl, hR4, hG4⟩
      have hI4 := hI.off hG4 (fun k e => by cases e; omega)
      have hO4 := hO.off hG4 (fun k e => by cases e; exact hs1)
      have z4 := z.off hG4 (fun k e => by cases e; omega)
      have B4 := B.grown hG4 B.size (fun k e => by cases e; omega)
      have hs4 : w2.heap.size ≤ w4.heap.size := Nat.le_trans hs hG4.size
      go_wp2_with (at_builtin; refine wpList_appendI rfl _ _ rfl w4 w2.heap.size A' k c' zs m1 rfl rfl hI4 (by omega) hs4 ?_; intro A5 c5 w5 hI5 hG5)
      have z5 := z4.off hG5 (fun j e => by have := (hI4.lt j e).1; omega)
      have hR5 := hR4.off hG5 (fun j e => by have := (hI4.lt j e).1; omega)
      have hO5 := hO4.far hG5 HLT.out (fun j e => (hI4.lt j e).1)
      have B5 := B4.grown hG5 B4.size (fun j e => by have := (hI4.lt j e).1; omega)
      go_roundw
      case rel => exact ⟨k + 1, A5, c5, zs ++ [m1], by omega, by go_num, rfl, hI5, hO5, hR5, z5, Nat.le_trans hs4 hG5.size, B5⟩
      case measure => simp [intOf]; omega
    · obtain rfl : k = M := by omega
      rcases Nat.eq_zero_or_pos k with rfl | hpos
      · have hgt : decide ((0 : Int) < ((0 : Nat) : Int)) = false := rfl
        go_wp2_with fail
        refine (l91Direction_any g (p2 + 1 + 0) _ hR (by omega)).mono ?_
        rintro e w7 ⟨x, y, p7, rfl, hR7, hp7, hG7⟩
        have z7 := z.off hG7 (fun k e => by cases e; omega)
        have B7 := B.grown hG7 B.size (fun k e => by cases e; omega)
        have hO7 := hO.off hG7 (fun k e => by cases e; exact hs1)
        have hI7 := hI.off hG7 (fun k e => by cases e; omega)
        have r := z7.set2 x y
        have q1 := z7.c0
        have q2 := z7.c1
        have q3 := z7.fz 0
        have q4 := z7.fz 1
        have r0 := r.c0
        have r1 := r.c1
        have hO8 := (hO7.off (set_grown w7 w.heap.size 0 (.int .i64 x)) (fun k e => by cases e; omega)).off (set_grown _ w.heap.size 1 (.int .i64 y)) (fun k e => by cases e; omega)
        have hI8 := (hI7.off (set_grown w7 w.heap.size 0 (.int .i64 x)) (fun k e => by cases e; omega)).off (set_grown _ w.heap.size 1 (.int .i64 y)) (fun k e => by cases e; omega)
        have B8 := (B7.setCell (p := ⟨w.heap.size, 0, none⟩) (Nat.le_refl _) (.int .i64 x)).setCell (p := ⟨w.heap.size, 1, none⟩) (Nat.le_refl _) (.int .i64 y)
        go_wp2
        exact bodyPost_ret (v := .tuple #[.slice A2 n2 c2, .slice A' 0 c', .agg #[.int .i64 x, .int .i64 y]]) (by simp [results, Try.results31, go_sem, r0, r1]) rfl ⟨_, _, _, _, _, _, _, _, _, _, rfl, hO8.mono (by omega), hn1, hn2, hI8.mono (by omega), by omega, B8⟩
      · have hpi : (0 : Int) < (k : Int) := by omega
        go_wp2_with fail
        refine (pick_any g (p2 + 1 + k) _ _ hR (by omega) (by omega) (by omega)).mono ?_
        rintro e w4 ⟨m1, hm0, hm1, rfl, hR4, hG4⟩
        have hI4 := hI.off hG4 (fun k e => by cases e; omega)
        have hO4 := hO.off hG4 (fun k e => by cases e; exact hs1)
        have z4 := z.off hG4 (fun k e => by cases e; omega)
        have B4 := B.grown hG4 B.size (fun k e => by cases e; omega)
        by_cases e0 : m1 = 0
        · subst e0
          obtain ⟨g', cap, hv, _, hlt'⟩ := World.ownsRow.form hI4 hpos
          have hA : A' = some ⟨g', 0, none⟩ := by injection hv
          subst hA
          clear hv
          obtain ⟨old, hs1'⟩ := hI4.cell_ (k := 0) (by omega)
          have hs2' : w4.frozen? ⟨g', 0, none⟩ = false := World.ownsRow.frozenAt hI4 0
          obtain ⟨hst, hsg⟩ := World.ownsRow.stored hI4 0 (.int .i64 (n2 : Int))
          have hI5 : OwnI (w4.setCell ⟨g', 0, none⟩ (.int .i64 (n2 : Int))) w2.heap.size (some ⟨g', 0, none⟩) k c' (zs.set 0 (n2 : Int)) := by
            unfold OwnI; rw [List.map_set]; exact hst
          have hgl := (hI4.lt g' rfl).1
          have hR5 := hR4.off hsg (fun j e => by cases e; omega)
          have hO5 := hO4.far hsg HLT.out (fun j e => by cases e; exact hgl)
          have z5 := z4.off hsg (fun j e => by cases e; omega)
          have B5 := B4.grown hsg B4.size (fun j e => by cases e; omega)
          clear hst
          go_wp2_with fail
          generalize w4.setCell ⟨g', 0, none⟩ (.int .i64 (n2 : Int)) = w5 at hI5 hR5 hO5 z5 B5 ⊢
          refine (l91Direction_any g (p2 + 1 + k + 1) _ hR5 (by omega)).mono ?_
          rintro e w7 ⟨x, y, p7, rfl, hR7, hp7, hG7⟩
          have z7 := z5.off hG7 (fun k e => by cases e; omega)
          have B7 := B5.grown hG7 B5.size (fun k e => by cases e; omega)
          have hO7 := hO5.off hG7 (fun k e => by cases e; exact hs1)
          have hI7 := hI5.off hG7 (fun k e => by cases e; omega)
          have r := z7.set2 x y
          have q1 := z7.c0
          have q2 := z7.c1
          have q3 := z7.fz 0
          have q4 := z7.fz 1
          have r0 := r.c0
          have r1 := r.c1
          have hO8 := (hO7.off (set_grown w7 w.heap.size 0 (.int .i64 x)) (fun k e => by cases e; omega)).off (set_grown _ w.heap.size 1 (.int .i64 y)) (fun k e => by cases e; omega)
          have hI8 := (hI7.off (set_grown w7 w.heap.size 0 (.int .i64 x)) (fun k e => by cases e; omega)).off (set_grown _ w.heap.size 1 (.int .i64 y)) (fun k e => by cases e; omega)
          have B8 := (B7.setCell (p := ⟨w.heap.size, 0, none⟩) (Nat.le_refl _) (.int .i64 x)).setCell (p := ⟨w.heap.size, 1, none⟩) (Nat.le_refl _) (.int .i64 y)
          go_wp2
          exact bodyPost_ret (v := .tuple #[.slice A2 n2 c2, .slice (some ⟨g', 0, none⟩) k c', .agg #[.int .i64 x, .int .i64 y]]) (by simp [results, Try.results31, go_sem, r0, r1]) rfl ⟨_, _, _, _, _, _, _, _, _, _, rfl, hO8.mono (by omega), hn1, hn2, hI8.mono (by omega), by omega, B8⟩
        · have e0' : (m1 == 0) = false := by simp [e0]
          clear e0
          go_wp2_with fail
          refine (l91Direction_any g (p2 + 1 + k + 1) _ hR4 (by omega)).mono ?_
          rintro e w7 ⟨x, y, p7, rfl, hR7, hp7, hG7⟩
          have z7 := z4.off hG7 (fun k e => by cases e; omega)
          have B7 := B4.grown hG7 B4.size (fun k e => by cases e; omega)
          have hO7 := hO4.off hG7 (fun k e => by cases e; exact hs1)
          have hI7 := hI4.off hG7 (fun k e => by cases e; omega)
          have r := z7.set2 x y
          have q1 := z7.c0
          have q2 := z7.c1
          have q3 := z7.fz 0
          have q4 := z7.fz 1
          have r0 := r.c0
          have r1 := r.c1
          have hO8 := (hO7.off (set_grown w7 w.heap.size 0 (.int .i64 x)) (fun k e => by cases e; omega)).off (set_grown _ w.heap.size 1 (.int .i64 y)) (fun k e => by cases e; omega)
          have hI8 := (hI7.off (set_grown w7 w.heap.size 0 (.int .i64 x)) (fun k e => by cases e; omega)).off (set_grown _ w.heap.size 1 (.int .i64 y)) (fun k e => by cases e; omega)
          have B8 := (B7.setCell (p := ⟨w.heap.size, 0, none⟩) (Nat.le_refl _) (.int .i64 x)).setCell (p := ⟨w.heap.size, 1, none⟩) (Nat.le_refl _) (.int .i64 y)
          go_wp2
          exact bodyPost_ret (v := .tuple #[.slice A2 n2 c2, .slice A' k c', .agg #[.int .i64 x, .int .i64 y]]) (by simp [results, Try.results31, go_sem, r0, r1]) rfl ⟨_, _, _, _, _, _, _, _, _, _, rfl, hO8.mono (by omega), hn1, hn2, hI8.mono (by omega), by omega, B8⟩

end Go.Proofs.Ytjjogggallapjaa
