/-
  Contracts: spec.l91Vis draws visibilities, spec.DrawVisValid a number and visibilities.
-/
import Derived.Test.YtmkdbbbnhbbhfaaDrawG
import Derived.Test.YtmkdbbbnhbbhfaaVisA
import Derived.Test.YtmkdbbbnhbbhfaaMany
namespace Go.Proofs.Ytmkdbbbnhbbhfaa
open Go.RowKit
set_option linter.unusedVariables false

/-- Visibilities or gains have been drawn. -/
def ViPost (w : World) (g p : Nat) (e : Ending) (w' : World) : Prop :=
  ∃ A n c ps p', e = .returned (.slice A n c) ∧ NewP w' w.heap.size A n c ps ∧ n ≤ 30 ∧ Rdr w' g p' ∧ p' ≤ p + 100 ∧ w.grownBy w' (some g)

theorem two_atV {m : Int} (h0 : 0 ≤ m) (h1 : m < 2) : ∃ v : Int, (#[Value.int .i64 0, .int .i64 1000001] : Array Value)[m.toNat]? = some (.int .i64 v) := by
  obtain rfl | rfl : m = 0 ∨ m = 1 := by omega
  · exact ⟨0, rfl⟩
  · exact ⟨1000001, rfl⟩
theorem bm_nat {N : Nat} (h : 2 ≤ N) (h' : N ≤ 6) : ∃ M : Nat, bm (N : Int) = (M : Int) ∧ 1 ≤ M ∧ M ≤ 15 := by
  obtain rfl | rfl | rfl | rfl | rfl : N = 2 ∨ N = 3 ∨ N = 4 ∨ N = 5 ∨ N = 6 := by omega
  · exact ⟨1, by decide, by omega, by omega⟩
  · exact ⟨3, by decide, by omega, by omega⟩
  · exact ⟨6, by decide, by omega, by omega⟩
  · exact ⟨10, by decide, by omega, by omega⟩
  · exact ⟨15, by decide, by omega, by omega⟩

set_option maxHeartbeats 4000000 in
theorem l91Vis_any (g p : Nat) (N : Nat) (w : World) (h : Rdr w g p) (hp : p ≤ 40000) (hN : 2 ≤ N) (hN' : N ≤ 6) :
    Calls Try.prog 42 #[.pointer (some ⟨g, 0, none⟩), .int .i64 (N : Int)] w (ViPost w g p) := by
  have hlt := h.lt
  have hba := below_alloc w (.cells #[] 33)
  have hO0 := OwnP.lit0 33 w (Nat.le_refl _)
  have hR0 := h.below hba
  have hG0 : w.grownBy (w.alloc (.cells #[] 33)) (some g) := grown_belowP (World.grownBy.refl w _) hba
  obtain ⟨M, hM, hM1, hM2⟩ := bm_nat hN hN'
  have HM := Lib.hid hM
  clear hM
  go_enter Try.func42, Try.ntmps42
  go_wp2
  go_loopw [5, 6] (fun v i wr => ∃ (k : Nat) (A : Option Addr) (c : Nat) (ps : List (Int × Int)) (q : Nat), k ≤ M ∧ i = .int .i64 k ∧ v = .slice A k c ∧ OwnP 33 wr w.heap.size A k c ps ∧ Rdr wr g q ∧ q ≤ p + 4 * k ∧ w.grownBy wr (some g)) (fun _ i _ => M - (intOf i).toNat)
  case atStart => exact ⟨0, _, _, [], p, Nat.zero_le _, rfl, rfl, hO0, hR0, by omega, hG0⟩
  case round =>
    obtain ⟨k, A, c, ps, q, hk, rfl, rfl, hO, hR, hq, hG⟩ := hrel
    clear hO0 hR0 hG0 hba h
    by_cases hlk : k < M
    · have hki : (k : Int) < (M : Int) := by omega
      go_wp2_with fail
      refine (sBaseMany_any _ _).mono ?_
      rintro e w' ⟨he, rfl⟩
      rw [HM.out] at he
      subst he
      go_wp2_with fail
      refine (pick_any g q _ _ hR (by omega) (by omega) (by omega)).mono ?_
      rintro e w1 ⟨m1, hm0, hm1, rfl, hR1, hG1⟩
      have hO1 := hO.off hG1 (fun k e => by cases e; exact hlt)
      go_wp2_with fail
      refine (l91Phase_any g (q + 1) _ hR1 (by omega)).mono ?_
      rintro e w2 ⟨m2, q2, rfl, hm20, hm21, hR2, hq2, hG2⟩
      have hO2 := hO1.off hG2 (fun k e => by cases e; exact hlt)
      have hG12 := (hG.trans hG1).trans hG2
      go_wp2_with (at_builtin; refine wpList_append1Vis rfl (.tmp 14) (.tmp 21) rfl w2 w.heap.size A k c ps (1 + m1) m2 w2.heap.size rfl rfl rfl hO2 (by omega) hG12.size ?_; intro A3 c3 w3 hO3 hG3)
      have hR3 := hR2.off hG3 (fun j e => by have := (hO2.lt j e).1; omega)
      have hG3' := grown_ownP hG12 hG3 (fun j e => (hO2.lt j e).1)
      go_roundw
      case rel => exact ⟨k + 1, A3, c3, _, q2, by omega, by go_num, rfl, hO3, hR3, by omega, hG3'⟩
      case measure => simp [intOf]; omega
    · obtain rfl : k = M := by omega
      have hne : ((k : Int) == 0) = false := by simp; omega
      go_wp2_with fail
      refine (sBaseMany_any _ _).mono ?_
      rintro e w' ⟨he, rfl⟩
      rw [HM.out] at he
      subst he
      go_wp2_with fail
      refine (pick_any g q _ _ hR (by omega) (by omega) (by omega)).mono ?_
      rintro e w1 ⟨m, hm0, hm1, rfl, hR1, hG1⟩
      have hO1 := hO.off hG1 (fun k e => by cases e; exact hlt)
      have hGg := hG.trans hG1
      obtain ⟨g', rfl, hg1, hg2⟩ := hO1.at0 (by omega)
      have hcap := hO1.cap
      have hn0 : (0 : Int) < (k : Int) := by omega
      clear hR hO hG
      by_cases e0 : m = 0
      · subst e0
        have hb := below_alloc w1 (.cells #[.int .i64 0, .int .i64 1000001] 3)
        go_wp2_with fail
        refine (pick_any g (q + 1) _ _ (hR1.alloc _) (by omega) (by omega) (by omega)).mono ?_
        rintro e w2 ⟨m2, hm20, hm21, rfl, hR2, hG2⟩
        obtain ⟨v, hv⟩ := two_atV hm20 hm21
        have hcell := cell_kept_litG hG2 hR1.lt hv
        have hO2 := (hO1.below hb).off hG2 (fun k e => by cases e; exact hlt)
        have hGx := (grown_belowP hGg hb).trans hG2
        obtain ⟨o1, o2, d3, d4⟩ := hO2.cells2 (k := 0) (by omega)
        simp only [Nat.zero_mul, Nat.zero_add] at d3 d4
        have f1 : w2.frozen? ⟨g', 0, none⟩ = false := World.ownsRow.frozenAt hO2 0
        have HS := Lib.hid (hO2.first1 (by omega) v)
        go_wp2
        go_ret
        exact ⟨_, _, _, _, _, rfl, HS.out.1.newP, by omega, hR2.off HS.out.2 (fun k e => by cases e; omega), by omega, grown_ownP hGx HS.out.2 (fun k e => by cases e; exact hg2)⟩
      · by_cases e1 : m = 1
        · subst e1
          obtain ⟨o1, o2, d3, d4⟩ := hO1.cells2 (k := 0) (by omega)
          simp only [Nat.zero_mul, Nat.zero_add] at d3 d4
          have f1 : w1.frozen? ⟨g', 1, none⟩ = false := World.ownsRow.frozenAt hO1 1
          have HS := Lib.hid (hO1.first1y (by omega) 360)
          go_wp2
          go_ret
          exact ⟨_, _, _, _, _, rfl, HS.out.1.newP, by omega, hR1.off HS.out.2 (fun k e => by cases e; omega), by omega, grown_ownP hGg HS.out.2 (fun k e => by cases e; exact hg2)⟩
        · have e0' : (m == 0) = false := by simp [e0]
          have e1' : (m == 1) = false := by simp [e1]
          by_cases e2 : m = 2
          · subst e2
            obtain ⟨b9, off9, e9, hc9⟩ := hO1.prs.2 (by omega)
            injection e9 with e9
            injection e9 with e91 e92
            subst e91 e92
            obtain ⟨d3, d4⟩ := hc9 0 (by omega)
            simp only [Nat.zero_add, Nat.zero_mul] at d3 d4
            have hs1 := hGg.size
            clear e0 e1 hc9
            go_wp2_with (at_builtin; refine wpList_append1Vis rfl (.tmp 46) (.tmp 50) rfl w1 w.heap.size (some ⟨g', 0, none⟩) k c ps (px ps 0) (py ps 0) w1.heap.size rfl rfl rfl hO1 (by omega) hs1 ?_; intro A3 c3 w3 hO3 hG3)
            go_ret
            exact ⟨_, _, _, _, _, rfl, hO3.newP, by omega, hR1.off hG3 (fun j e => by have := (hO1.lt j e).1; omega), by omega, grown_ownP hGg hG3 (fun j e => (hO1.lt j e).1)⟩
          · have e2' : (m == 2) = false := by simp [e2]
            clear e0 e1 e2
            go_wp2
            go_ret
            exact ⟨_, _, _, _, _, rfl, hO1.newP, by omega, hR1, by omega, hGg⟩

/-- A number and visibilities or gains have been drawn. -/
def VvPost (w : World) (e : Ending) (w' : World) : Prop :=
  ∃ (N : Nat) (A : Option Addr) (n c : Nat) (ps : List (Int × Int)), e = .returned (.tuple #[.int .i64 (N : Int), .slice A n c]) ∧ 2 ≤ N ∧ N ≤ 6 ∧ NewP w' w.heap.size A n c ps ∧ n ≤ 30 ∧ Below w.heap.size w w'

set_option maxHeartbeats 2000000 in
theorem DrawVisValid_any (A : Option Addr) (n c : Nat) (bs : List Int) (w : World) (hz : IntsK .u8 w A n bs) (hn : n ≤ 1048576) (hc : n ≤ c) (hbs : ∀ j, 0 ≤ el bs j ∧ el bs j ≤ 255) :
    Calls Try.prog 18 #[.slice A n c] w (VvPost w) := by
  go_enter Try.func18, Try.ntmps18
  go_wp2_with fail
  refine (l6Open_any A n c bs _ hz hn hc hbs).mono ?_
  rintro e w1 ⟨g, rfl, hg, hR1, hb1⟩
  clear hbs
  have hs1 := hR1.lt
  go_wp2_with fail
  refine (l91Ants_any g 0 _ hR1 (by omega)).mono ?_
  rintro e w2 ⟨N, rfl, hN1, hN2, hR2, hG2⟩
  have B2 := hb1.grown hG2 hb1.size (fun k e => by cases e; exact hg)
  go_wp2_with fail
  refine (l91Vis_any g (0 + 1) N _ hR2 (by omega) hN1 hN2).mono ?_
  rintro e w3 ⟨A3, n3, c3, ps, p3, rfl, hO3, hn3, hR3, hp3, hG3⟩
  have B3 := B2.grown hG3 B2.size (fun k e => by cases e; exact hg)
  go_wp2
  exact bodyPost_ret (v := .tuple #[.int .i64 (N : Int), .slice A3 n3 c3]) (by simp [results, Try.results18, go_sem]) rfl ⟨N, _, _, _, _, rfl, hN1, hN2, hO3.mono B2.size, hn3, B3⟩

end Go.Proofs.Ytmkdbbbnhbbhfaa
